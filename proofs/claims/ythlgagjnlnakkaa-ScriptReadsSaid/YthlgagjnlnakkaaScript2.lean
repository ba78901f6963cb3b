/- Scripts: a script cut; are two acts the same? -/
import Derived.Test.YthlgagjnlnakkaaScript1
namespace Go.Proofs.Ythlgagjnlnakkaa
open Go.RowKit

theorem RdG.boxed2 {α : Type} {E : Enc α} (w : World) (o : Obj) (T : TypeId) (a : α) (cs : Array Value) (h : cs.toList = E.f a) : RdG E ((w.alloc o).alloc (.cells cs T)) (some ⟨w.heap.size + 1, 0, none⟩) 1 [a] := by
  have := RdG.boxed (E := E) (w.alloc o) T a cs h
  simpa using this
def cutF (e : ActD) : ActD := (e.1, e.2.take 1030)
def cutA (m : Nat) (es : List ActD) : List ActD := (es.take m).map cutF
theorem cutA_len (m : Nat) (es : List ActD) : (cutA m es).length = min m es.length := by simp [cutA]
theorem cutA_le {m : Nat} {es : List ActD} : ∀ e ∈ cutA m es, e.2.length ≤ 1030 := by
  intro e he
  obtain ⟨x, _, rfl⟩ := List.mem_map.1 he
  simp [cutF]
  omega
theorem cutA_step {es : List ActD} {k : Nat} {e : ActD} (h : es[k]? = some e) : (es.take (k + 1)).map cutF = (es.take k).map cutF ++ [cutF e] := by rw [take_step h, List.map_append]; rfl

set_option maxRecDepth 100000 in
set_option maxHeartbeats 8000000 in
theorem acut_any (A : Option Addr) (n c B0 m : Nat) (es : List ActD) (w : World) (hr : RdR actK B0 5 w A n es) (hB00 : B0 ≤ w.heap.size) (hm : m ≤ 100) :
    Calls Try.prog 7 #[.slice A n c, .int .i64 (m : Int)] w fun e w' => ∃ v, e = .returned v ∧ OwnR actK 32 w.heap.size B0 5 w' v (cutA m es) ∧ Below w.heap.size w w' := by
  have hlen := hr.len
  go_enter Try.func7, Try.ntmps7
  go_wp2_with fail
  go_loopw [5, 10] (fun v i wr => ∃ k : Nat, k ≤ n ∧ k ≤ m ∧ i = .int .i64 k ∧ OwnR actK 32 w.heap.size B0 5 wr v ((es.take k).map cutF) ∧ Below w.heap.size w wr) (fun _ i _ => n - (intOf i).toNat)
  case atStart => exact ⟨0, by omega, by omega, rfl, OwnR.nil _, Below.refl _ _⟩
  case round =>
    obtain ⟨k, hk, hkm, rfl, hO, hbel⟩ := hrel
    have hbz := hbel.size
    by_cases hlt : k < n
    · obtain ⟨b, off, f1, f2, f3, f4, f5, f6, Ad, nd, cd, L, rfl, hb, he, c0, c1, c2, c3, c4, c5, c6, hX, hnd, hcd⟩ := (hr.below hbel).act hlt
      have hLl : L.length = nd := hX.1.len
      unfold maxLen at hcd
      have q1 : (k : Int) < n := by omega
      by_cases hkm2 : k < m
      · have q2 : (k : Int) < m := by omega
        obtain ⟨D, hD⟩ : ∃ D, D = L.take 1030 := ⟨_, rfl⟩
        have hst := Lib.hid (show (es.take (k + 1)).map cutF = (es.take k).map cutF ++ [((f1, f2, f3, f4, f5, f6), D)] by rw [cutA_step he, hD]; rfl)
        have hkl : ((es.take k).map cutF).length = k := by simp; omega
        obtain ⟨hs, hFr, hAll⟩ := hO
        have hsl : hs.length = k := by rw [hAll.1, hkl]
        by_cases h1030 : nd ≤ 1030
        · have q3 : (nd : Int) ≤ 1030 := by omega
          have hXa : RdX B0 5 (wr.alloc (.cells #[.int .i64 f1, .bool f2, .int .i64 f3, .int .i64 f4, .int .i64 f5, .int .i64 f6, .slice Ad nd cd] 32)) Ad nd D := by
            rw [hD, List.take_of_length_le (by omega)]
            exact hX.below (by (repeat (first | exact Below.refl _ _ | (refine Below.setCell ?_ (by first | omega | (simp; omega) | simp) _) | (refine Below.alloc ?_ (by first | omega | (simp; omega) | simp) _) | apply Below.drew | apply below_drewN)))
          obtain ⟨wa, hwa⟩ : ∃ wa, wa = wr.alloc (.cells #[.int .i64 f1, .bool f2, .int .i64 f3, .int .i64 f4, .int .i64 f5, .int .i64 f6, .slice Ad nd cd] 32) := ⟨_, rfl⟩
          have ba : Below wr.heap.size wr wa := by rw [hwa]; exact (Below.refl _ wr).alloc (Nat.le_refl _) _
          have hA2 := (hAll.below ba).below ((Below.refl _ wa).alloc (Nat.le_refl _) (.cells #[.int .i64 f1, .bool f2, .int .i64 f3, .int .i64 f4, .int .i64 f5, .int .i64 f6, .slice Ad nd cd] 32))
          have hF2 := (hFr.below ba).alloc (.cells #[.int .i64 f1, .bool f2, .int .i64 f3, .int .i64 f4, .int .i64 f5, .int .i64 f6, .slice Ad nd cd] 32)
          have hI2 : RItem actK B0 5 (wa.alloc (.cells #[.int .i64 f1, .bool f2, .int .i64 f3, .int .i64 f4, .int .i64 f5, .int .i64 f6, .slice Ad nd cd] 32)) ((f1, f2, f3, f4, f5, f6), (Ad, nd, cd)) ((f1, f2, f3, f4, f5, f6), D) := ⟨rfl, by rw [← hwa] at hXa; exact hXa.below ((Below.refl _ wa).alloc (Nat.le_refl _) _), hnd, by show cd ≤ maxLen; unfold maxLen; omega⟩
          have hRb : RdG actE (wa.alloc (.cells #[.int .i64 f1, .bool f2, .int .i64 f3, .int .i64 f4, .int .i64 f5, .int .i64 f6, .slice Ad nd cd] 32)) (some ⟨wr.heap.size + 1, 0, none⟩) 1 [((f1, f2, f3, f4, f5, f6), (Ad, nd, cd))] := by rw [hwa]; exact RdG.boxed2 _ _ _ _ _ rfl
          rw [hwa] at hA2 hF2 hI2 hRb
          clear hwa ba
          clear he hX hD
          go_wp2_with (at_builtin; refine wpList_append_G (E := actE) _ rfl (.tmp 26) (.tmp 28) _ rfl w.heap.size 32 Try.underlying22 infoRA rfl u5 hs rfl hF2 (some ⟨wr.heap.size + 1, 0, none⟩) 1 1 [((f1, f2, f3, f4, f5, f6), (Ad, nd, cd))] rfl hRb (by omega) (by omega) (by simp; omega) ?_; intro b' w3 hF3 hg3 hb3)
          have hO3 : OwnR actK 32 w.heap.size B0 5 w3 b' ((es.take k).map cutF ++ [((f1, f2, f3, f4, f5, f6), D)]) := by
            obtain ⟨A4, c4', e4, hown4⟩ := id hF2
            exact ⟨_, hF3, hA2.more hI2 hown4 hB00 (by decide) hg3⟩
          go_roundw
          case rel => exact ⟨k + 1, by omega, by omega, by go_num, by rw [hst.out]; exact hO3, (by (have q_hb3 := Below.size hb3; (try simp at q_hb3); have q_hbel := Below.size hbel; (try simp at q_hbel); repeat (first | exact Below.refl _ _ | (refine Below.trans ?_ (Below.mono hb3 (by first | omega | (simp; omega) | simp))) | (refine Below.trans ?_ (Below.mono hbel (by first | omega | (simp; omega) | simp))) | (refine Below.setCell ?_ (by first | omega | (simp; omega) | simp) _) | (refine Below.alloc ?_ (by first | omega | (simp; omega) | simp) _) | apply Below.drew | apply below_drewN)))⟩
          case measure => simp [intOf] <;> omega
        · have q3 : (1030 : Int) < nd := by omega
          have q4 : (1030 : Int) ≤ cd := by omega
          have q5 : 1030 ≤ cd := by omega
          have hXa : RdX B0 5 (wr.alloc (.cells #[.int .i64 f1, .bool f2, .int .i64 f3, .int .i64 f4, .int .i64 f5, .int .i64 f6, .slice Ad 1030 cd] 32)) Ad 1030 D := by rw [hD]; exact (hX.below (by (repeat (first | exact Below.refl _ _ | (refine Below.setCell ?_ (by first | omega | (simp; omega) | simp) _) | (refine Below.alloc ?_ (by first | omega | (simp; omega) | simp) _) | apply Below.drew | apply below_drewN)))).pre 1030 (by omega)
          obtain ⟨wa, hwa⟩ : ∃ wa, wa = wr.alloc (.cells #[.int .i64 f1, .bool f2, .int .i64 f3, .int .i64 f4, .int .i64 f5, .int .i64 f6, .slice Ad 1030 cd] 32) := ⟨_, rfl⟩
          have ba : Below wr.heap.size wr wa := by rw [hwa]; exact (Below.refl _ wr).alloc (Nat.le_refl _) _
          have hA2 := (hAll.below ba).below ((Below.refl _ wa).alloc (Nat.le_refl _) (.cells #[.int .i64 f1, .bool f2, .int .i64 f3, .int .i64 f4, .int .i64 f5, .int .i64 f6, .slice Ad 1030 cd] 32))
          have hF2 := (hFr.below ba).alloc (.cells #[.int .i64 f1, .bool f2, .int .i64 f3, .int .i64 f4, .int .i64 f5, .int .i64 f6, .slice Ad 1030 cd] 32)
          have hI2 : RItem actK B0 5 (wa.alloc (.cells #[.int .i64 f1, .bool f2, .int .i64 f3, .int .i64 f4, .int .i64 f5, .int .i64 f6, .slice Ad 1030 cd] 32)) ((f1, f2, f3, f4, f5, f6), (Ad, 1030, cd)) ((f1, f2, f3, f4, f5, f6), D) := ⟨rfl, by rw [← hwa] at hXa; exact hXa.below ((Below.refl _ wa).alloc (Nat.le_refl _) _), q5, by show cd ≤ maxLen; unfold maxLen; omega⟩
          have hRb : RdG actE (wa.alloc (.cells #[.int .i64 f1, .bool f2, .int .i64 f3, .int .i64 f4, .int .i64 f5, .int .i64 f6, .slice Ad 1030 cd] 32)) (some ⟨wr.heap.size + 1, 0, none⟩) 1 [((f1, f2, f3, f4, f5, f6), (Ad, 1030, cd))] := by rw [hwa]; exact RdG.boxed2 _ _ _ _ _ rfl
          rw [hwa] at hA2 hF2 hI2 hRb
          clear hwa ba
          clear he hX hD
          go_wp2_with (at_builtin; refine wpList_append_G (E := actE) _ rfl (.tmp 26) (.tmp 28) _ rfl w.heap.size 32 Try.underlying22 infoRA rfl u5 hs rfl hF2 (some ⟨wr.heap.size + 1, 0, none⟩) 1 1 [((f1, f2, f3, f4, f5, f6), (Ad, 1030, cd))] rfl hRb (by omega) (by omega) (by simp; omega) ?_; intro b' w3 hF3 hg3 hb3)
          have hO3 : OwnR actK 32 w.heap.size B0 5 w3 b' ((es.take k).map cutF ++ [((f1, f2, f3, f4, f5, f6), D)]) := by
            obtain ⟨A4, c4', e4, hown4⟩ := id hF2
            exact ⟨_, hF3, hA2.more hI2 hown4 hB00 (by decide) hg3⟩
          go_roundw
          case rel => exact ⟨k + 1, by omega, by omega, by go_num, by rw [hst.out]; exact hO3, (by (have q_hb3 := Below.size hb3; (try simp at q_hb3); have q_hbel := Below.size hbel; (try simp at q_hbel); repeat (first | exact Below.refl _ _ | (refine Below.trans ?_ (Below.mono hb3 (by first | omega | (simp; omega) | simp))) | (refine Below.trans ?_ (Below.mono hbel (by first | omega | (simp; omega) | simp))) | (refine Below.setCell ?_ (by first | omega | (simp; omega) | simp) _) | (refine Below.alloc ?_ (by first | omega | (simp; omega) | simp) _) | apply Below.drew | apply below_drewN)))⟩
          case measure => simp [intOf] <;> omega
      · obtain rfl : k = m := by omega
        have hT := Lib.hid (show (es.take k).map cutF = cutA k es from rfl)
        clear he
        go_wp2_with fail
        go_ret
        exact ⟨_, rfl, by rw [← hT.out]; exact hO.below (by (repeat (first | exact Below.refl _ _ | (refine Below.setCell ?_ (by first | omega | (simp; omega) | simp) _) | (refine Below.alloc ?_ (by first | omega | (simp; omega) | simp) _) | apply Below.drew | apply below_drewN))), (by (have q_hbel := Below.size hbel; (try simp at q_hbel); repeat (first | exact Below.refl _ _ | (refine Below.trans ?_ (Below.mono hbel (by first | omega | (simp; omega) | simp))) | (refine Below.setCell ?_ (by first | omega | (simp; omega) | simp) _) | (refine Below.alloc ?_ (by first | omega | (simp; omega) | simp) _) | apply Below.drew | apply below_drewN)))⟩
    · obtain rfl : k = n := by omega
      have hT := Lib.hid (show (es.take k).map cutF = cutA m es by unfold cutA; rw [List.take_of_length_le (by omega), List.take_of_length_le (by omega)])
      go_wp2_with fail
      go_ret
      exact ⟨_, rfl, by rw [← hT.out]; exact hO, hbel⟩
end Go.Proofs.Ythlgagjnlnakkaa
