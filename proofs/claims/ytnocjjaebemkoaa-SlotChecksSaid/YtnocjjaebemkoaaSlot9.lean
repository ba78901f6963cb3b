/- Slots: the laws' helpers: awake. -/
import Derived.Test.YtnocjjaebemkoaaSlot8
namespace Go.Proofs.Ytnocjjaebemkoaa
open Go.RowKit

theorem flat_free (z N : Nat) : (List.replicate N ((0, []) : Ob)).flatMap (winL z) = List.replicate (N * z) 0 := by
  induction N with
  | zero => simp
  | succ n ih =>
    rw [List.replicate_succ, List.flatMap_cons, ih, winL_free z _ rfl, List.replicate_append_replicate]
    congr 1
    rw [Nat.add_mul]; omega
/-- A page of noughts. -/
theorem zero_page {c : Int} {z N : Nat} (hc : ClassOK c z N) : PageOf z N (List.replicate 256 0) (List.replicate N (0, [])) := by
  refine ⟨by simp, ?_, ?_⟩
  · unfold pageL padL
    rw [flat_free, List.length_replicate, List.take_of_length_le (by rw [List.length_replicate]; exact hc.fit), List.replicate_append_replicate]
    congr 1
    have := hc.fit
    omega
  · intro o ho
    rw [List.eq_of_mem_replicate ho]
    exact .inl ⟨rfl, rfl⟩
theorem part_noughts (Z : List UInt8) (n : Nat) (h : Z = List.replicate n 0) : part Z 0 = (Z.map bv).toArray := by
  subst h
  unfold part
  simp [bv]
/-- Noughts that have just been made. -/
theorem Fresh.noughts (w : World) (T : TypeId) (Z : List UInt8) (n : Nat) (h : Z = List.replicate n 0) (hn : n ≤ maxLen) : Fresh T w.heap.size (w.alloc (.cells (part Z 0) T)) (.slice (some ⟨w.heap.size, 0, none⟩) n n) Z :=
  Fresh.of_blk (Blk.new w T _) (Nat.le_refl _) hn (by rw [h]; simp) (part_noughts Z n h)
theorem class0 : ClassOK 0 16 16 := ⟨rfl, rfl, by decide, by decide, by decide, by decide, by decide⟩

set_option maxRecDepth 100000 in
set_option maxHeartbeats 2000000 in
theorem sawake_any (w : World) :
    Calls Try.prog 24 #[] w fun e w' => e = .returned (.bool true) ∧ Below w.heap.size w w' := by
  obtain ⟨Z, hZ⟩ : ∃ Z : List UInt8, Z = List.replicate 256 0 := ⟨_, rfl⟩
  have hZl : Z.length = 256 := by rw [hZ]; simp
  have hP := zero_page class0
  rw [← hZ] at hP
  have hm := (hP.may class0).1
  obtain ⟨t1, t2, t3, t4, t5⟩ := hP.tells (k := 0) (o := (0, [])) class0 (by simp)
  have hF := Fresh.noughts w 5 Z 256 hZ (by unfold maxLen; omega)
  obtain ⟨_, _, e0, hR, _⟩ := hF.rdn 256 hZl
  injection e0 with e1 e2 e3
  subst e1 e3
  have hT := take_yes class0 (some ⟨w.heap.size, 0, none⟩) 256 Z 1 0 3 _ hR (by omega) (by unfold maxLen; omega) hm (by omega) (fun j hj => absurd hj (by omega)) (by rw [t2]; rfl) (by omega) (by omega) (by omega) (by omega)
  have hmk : ∀ W : World, (Instr.makeSlice 32 (.int .i64 256) (.int .i64 256)).run Try.prog W = .ok (.slice (some ⟨W.heap.size, 0, none⟩) 256 256) (W.alloc (.cells (part Z 0) 5)) :=
    make_bytes (P := Try.prog) Try.underlying32 info8 .i64 .i64 256 (by omega) Z hZl
  obtain ⟨Q, hQ⟩ : ∃ Q, Q = layL Z (0 * 16) (putL 2 ((3 : Nat) : Int) ++ putL 6 1) := ⟨_, rfl⟩
  have hQl : Q.length = 256 := by rw [hQ, layL_len _ _ _ (by simp [putL_len]; omega)]; exact hZl
  have hQ9 : Q.take 9 = [3, 0, 1, 0, 0, 0, 0, 0, 0] := by rw [hQ, hZ]; decide
  rw [← hQ] at hT
  clear hQ hP hm t1 t2 t3 t4 t5 hF hR e2 hZ
  go_enter Try.func24, Try.ntmps24
  go_wp2_with fail
  refine hT.mono ?_
  rintro e w1 ⟨v1, rfl, hF1, hb1⟩
  obtain ⟨A1, c1, rfl, hR1, _, hn1, hm1⟩ := hF1.rdn 256 hQl
  have hR9 := hR1.head 9 (by omega)
  rw [hQ9] at hR9
  have hcv := conv c1 _ hR9
  have hst : (str [3, 0, 1, 0, 0, 0, 0, 0, 0]) = { data := #[3, 0, 1, 0, 0, 0, 0, 0, 0] } := rfl
  clear hF1 hQ9 hT
  go_wp2_with fail
  go_ret
  exact ⟨rfl, (by (have q_hb1 := Below.size hb1; (try simp at q_hb1); repeat (first | exact Below.refl _ _ | (refine Below.trans ?_ (Below.mono hb1 (by first | omega | (simp; omega) | simp))) | (refine Below.setCell ?_ (by first | omega | (simp; omega) | simp) _) | (refine Below.alloc ?_ (by first | omega | (simp; omega) | simp) _) | apply Below.drew | apply below_drewN)))⟩
end Go.Proofs.Ytnocjjaebemkoaa
