/- Pages: free ones made; the chapter's example. -/
import Derived.Test.YtidlcplamgajpaaPages7

namespace Go.Proofs.Ytidlcplamgajpaa
open Go.RowKit

def zeroPg : Pg := (0, 0, 0, 0, 0)
theorem made_pages (n : Nat) : (madeCells #[Value.int .i64 0, Value.int .i64 0, Value.int .i64 0, Value.int .i64 0, Value.int .u64 0] (n * 5)).toList = (List.replicate n zeroPg).flatMap pgE.f := by
  apply List.ext_getElem?
  intro i
  rw [Array.getElem?_toList]
  by_cases hi : i < n * 5
  · have hq : (List.replicate n zeroPg)[i / 5]? = some zeroPg := by rw [List.getElem?_replicate, if_pos (by omega)]
    have hm : i % 5 = 0 ∨ i % 5 = 1 ∨ i % 5 = 2 ∨ i % 5 = 3 ∨ i % 5 = 4 := by omega
    have key : ∀ (j : Nat) (u : Value), i % 5 = j → (pgE.f zeroPg)[j]? = some u → (madeCells #[Value.int .i64 0, Value.int .i64 0, Value.int .i64 0, Value.int .i64 0, Value.int .u64 0] (n * 5))[i]? = some u → (madeCells #[Value.int .i64 0, Value.int .i64 0, Value.int .i64 0, Value.int .i64 0, Value.int .u64 0] (n * 5))[i]? = ((List.replicate n zeroPg).flatMap pgE.f)[i]? := by
      intro j u hj hu h
      have := flat_get pgE _ (i / 5) j zeroPg u hq hu
      rw [show i / 5 * pgE.sz + j = i from by show i / 5 * 5 + j = i; omega] at this
      rw [h, this]
    have cell : ∀ j, i % 5 = j → (madeCells #[Value.int .i64 0, Value.int .i64 0, Value.int .i64 0, Value.int .i64 0, Value.int .u64 0] (n * 5))[i]? = some (#[Value.int .i64 0, Value.int .i64 0, Value.int .i64 0, Value.int .i64 0, Value.int .u64 0][j]!) := by
      intro j hj
      unfold madeCells
      rw [Array.getElem?_map, Array.getElem?_range, if_pos hi]
      simp [hj]
    rcases hm with h | h | h | h | h
    · exact key 0 _ h rfl (cell 0 h)
    · exact key 1 _ h rfl (cell 1 h)
    · exact key 2 _ h rfl (cell 2 h)
    · exact key 3 _ h rfl (cell 3 h)
    · exact key 4 _ h rfl (cell 4 h)
  · rw [Array.getElem?_eq_none (by rw [size_madeCells]; omega), List.getElem?_eq_none (by rw [flat_len]; simp; show n * 5 ≤ i; omega)]
/-- make([]Page, n): free pages. -/
theorem make_pages {P : Program} {t e : TypeId} (ht : P.underlying t = some (.slice e)) (hi : (P.info? e).map (fun i => (i.zero, i.size, i.bytes)) = some (some (.agg #[.int .i64 0, .int .i64 0, .int .i64 0, .int .i64 0, .int .u64 0]), 5, 40)) (kl kc : IntKind) (n : Nat) (hn : n ≤ 1000000) (w : World) :
    ∃ cs, (Instr.makeSlice t (.int kl (n : Int)) (.int kc (n : Int))).run P w = .ok (.slice (some ⟨w.heap.size, 0, none⟩) n n) (w.alloc (.cells cs e)) ∧ cs.toList = (List.replicate n zeroPg).flatMap pgE.f := by
  obtain ⟨i, h1, h2, h3, h4⟩ := info_parts hi
  have hb : (i.bytes : Int) * (n : Int) ≤ 281474976710656 := by rw [h4]; omega
  have hr := run_make (P := P) w t e i _ ht h1 h2 kl kc n n (by omega) (by omega) hb (by omega)
  simp only [Int.toNat_natCast] at hr
  rw [h3] at hr
  exact ⟨_, hr, made_pages n⟩

set_option maxRecDepth 100000 in
set_option maxHeartbeats 4000000 in
theorem pawake_any (w : World) :
    Calls Try.prog 14 #[] w fun e w' => e = .returned (.bool true) ∧ Below w.heap.size w w' := by
  obtain ⟨cs, hmk0, hcs⟩ := make_pages (P := Try.prog) Try.underlying24 infoPg .i64 .i64 4 (by omega) w
  have hmk : (Instr.makeSlice 24 (.int .i64 4) (.int .i64 4)).run Try.prog w = .ok (.slice (some ⟨w.heap.size, 0, none⟩) 4 4) (w.alloc (.cells cs 65)) := hmk0
  clear hmk0
  have F0 : FreshG pgE 65 w.heap.size (w.alloc (.cells cs 65)) (.slice (some ⟨w.heap.size, 0, none⟩) 4 4) (List.replicate 4 zeroPg) := FreshG.of_blk (Blk.new _ _ _) (Nat.le_refl _) (by unfold maxLen; omega) (by simp) hcs
  have R0 : RdG pgE (w.alloc (.cells cs 65)) (some ⟨w.heap.size, 0, none⟩) 4 (List.replicate 4 zeroPg) := by
    obtain ⟨A, c, e, hR, _⟩ := F0.rdn 4 (by simp)
    injection e with e1 _ e3
    subst e1
    exact hR
  have e1 : takeErr (List.replicate 4 zeroPg) 1 300 1 = 0 := by decide +kernel
  have e2 : takeR (List.replicate 4 zeroPg) 1 300 1 = [zeroPg, (2, 0, 2, 300, 1), (3, 0, 0, 0, 0), zeroPg] := by decide +kernel
  have e3 : runsR [zeroPg, (2, 0, 2, 300, 1), (3, 0, 0, 0, 0), zeroPg] 4 = [(0, 1), (3, 1)] := by decide +kernel
  have E1 := Lib.hid e1
  have E2 := Lib.hid e2
  have E3 := Lib.hid e3
  clear e1 e2 e3 hcs F0
  go_enter Try.func14, Try.ntmps14
  go_wp2_with fail
  refine (take_any _ 4 4 _ 1 300 1 _ R0 (by omega) (by omega) (by unfold maxLen; omega) (by omega) (by omega) (by omega)).mono ?_
  rintro e w1 ⟨v, rfl, hF1, hb1⟩
  rw [E2.out] at hF1
  rw [E1.out]
  obtain ⟨A1, c1, rfl, hR1, _, hc1, hc2⟩ := hF1.rdn 4 rfl
  clear hmk R0 hF1
  go_wp2_with fail
  refine (runs_any _ 4 c1 _ _ hR1 (by omega)).mono ?_
  rintro e w2 ⟨v, rfl, hF2, hb2⟩
  rw [E3.out] at hF2
  obtain ⟨A2, c2, rfl, hR2, _, hc3, hc4⟩ := hF2.rdn 2 rfl
  have hR1' := hR1.below hb2
  obtain ⟨g, off, rfl, _, hc⟩ := hR1'.2 (by omega)
  obtain ⟨g2, off2, rfl, _, hd⟩ := hR2.2 (by omega)
  have x1 := hc 1 _ rfl 0 _ rfl
  have x2 := hc 1 _ rfl 2 _ rfl
  have x3 := hc 2 _ rfl 0 _ rfl
  have y1 := hd 1 _ rfl 0 _ rfl
  have y2 := hd 1 _ rfl 1 _ rfl
  simp only [show pgE.sz = 5 from rfl, show runE.sz = 2 from rfl, Nat.add_zero, Nat.one_mul, Nat.reduceMul] at x1 x2 x3 y1 y2
  have z3 : ((3 : Nat) : Int) = 3 := rfl
  have z1 : ((1 : Nat) : Int) = 1 := rfl
  rw [z3] at y1
  rw [z1] at y2
  clear hc hd hR1 hR2 hR1' z3 z1 hF2
  go_wp2_with fail
  go_ret
  exact ⟨rfl, (by (have q_hb2 := Below.size hb2; (try simp at q_hb2); have q_hb1 := Below.size hb1; (try simp at q_hb1); repeat (first | exact Below.refl _ _ | (refine Below.trans ?_ (Below.mono hb2 (by first | omega | (simp; omega) | simp))) | (refine Below.trans ?_ (Below.mono hb1 (by first | omega | (simp; omega) | simp))) | (refine Below.setCell ?_ (by first | omega | (simp; omega) | simp) _) | (refine Below.alloc ?_ (by first | omega | (simp; omega) | simp) _) | apply Below.drew | apply below_drewN)))⟩
end Go.Proofs.Ytidlcplamgajpaa
