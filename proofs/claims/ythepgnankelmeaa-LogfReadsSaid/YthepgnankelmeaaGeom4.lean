/- Contracts of the document's list of all blocks. -/
import Derived.Test.YthepgnankelmeaaGeom3
import Derived.Test.YthepgnankelmeaaSlices
namespace Go.Proofs.Ythepgnankelmeaa
open Go.RowKit

/-- A pair of numbers, in two cells. -/
def pairE : Enc (Int × Int) := ⟨2, fun x => [.int .i64 x.1, .int .i64 x.2], fun _ => rfl, by decide, by
  intro a u hu
  simp at hu
  rcases hu with rfl | rfl <;> rfl⟩
theorem infoPart : (Try.prog.info? 38).map (fun i => (i.zero, i.size, i.bytes)) = some (some (.agg #[.int .i64 0, .int .i64 0]), 2, 16) := by kernel_rfl

def run_ (kind : Int) (n : Nat) : List (Int × Int) := (List.range n).map fun k : Nat => (kind, (k : Int))
theorem run_snoc (kind : Int) (n : Nat) : run_ kind (n + 1) = run_ kind n ++ [(kind, (n : Int))] := by simp [run_, List.range_succ]
theorem run_len (kind : Int) (n : Nat) : (run_ kind n).length = n := by simp [run_]
/-- What each block is. -/
def allL (p t : Int) : List (Int × Int) := (1, 0) :: (run_ 2 (epochsI p).toNat ++ run_ 3 (sealedI p).toNat ++ run_ 4 (t + 1).toNat)

set_option maxRecDepth 100000 in
set_option maxHeartbeats 2000000 in
theorem all_yes (p t : Int) (w : World) (h : gmay p t = true) :
    Calls Try.prog 16 #[.agg #[.int .i64 p, .int .i64 t]] w (GivesG pairE 38 w (allL p t)) := by
  obtain ⟨h1, h2, h3, h4⟩ := gmay_true h
  obtain ⟨m0, m1, s0, s1, e0, e1⟩ := geo_range h1 h2
  obtain ⟨E, hE⟩ : ∃ E : Nat, (E : Int) = epochsI p := ⟨(epochsI p).toNat, by omega⟩
  obtain ⟨S, hS⟩ : ∃ S : Nat, (S : Int) = sealedI p := ⟨(sealedI p).toNat, by omega⟩
  obtain ⟨T, rfl⟩ := Int.eq_ofNat_of_zero_le (show 0 ≤ t by omega)
  have hall := Lib.hid (show allL p T = ([(1, 0)] ++ run_ 2 E ++ run_ 3 S ++ run_ 4 (T + 1) : List (Int × Int)) by
    unfold allL
    rw [← hE, ← hS]
    simp only [Int.toNat_natCast, show ((T : Int) + 1).toNat = T + 1 from by omega]
    simp [List.append_assoc])
  rw [← hE] at e0 e1
  rw [← hS] at s0 s1
  have HE := Lib.hid hE
  have HS := Lib.hid hS
  clear hE hS
  go_enter Try.func16, Try.ntmps16
  go_wp2_with fail
  refine (grmay_any _ _ _).mono ?_
  rintro e wa ⟨rfl, hba⟩
  rw [h]
  have hB0 := (Blk.new w _ _).on hba
  go_wp2_with fail
  go_loopw [3, 4] (fun b i wr => ∃ k : Nat, k ≤ E ∧ i = .int .i64 k ∧ FreshG pairE 38 (w.heap.size + 1) wr b ([(1, 0)] ++ run_ 2 k) ∧ Blk wr w.heap.size 23 #[.int .i64 p, .int .i64 T] ∧ Below w.heap.size w wr) (fun _ i _ => E - (intOf i).toNat)
  case atStart =>
    refine ⟨0, by omega, rfl, ?_, hB0.alloc _, (by (have q_hba := Below.size hba; (try simp at q_hba); repeat (first | exact Below.refl _ _ | (refine Below.trans ?_ (Below.mono hba (by first | omega | (simp; omega) | simp))) | (refine Below.setCell ?_ (by first | omega | (simp; omega) | simp) _) | (refine Below.alloc ?_ (by first | omega | (simp; omega) | simp) _) | apply Below.drew | apply below_drewN)))⟩
    exact FreshG.of_blk (Blk.new wa _ _) (by have := hba.size; simp at this; omega) (by unfold maxLen; omega) rfl rfl
  case round =>
    obtain ⟨k, hk, rfl, hF, hB, hbel⟩ := hrel
    have cc := hB.cell
    have hzB := hB.lt
    by_cases hlt : k < E
    · have hln : ([(1, 0)] ++ run_ 2 k : List (Int × Int)).length ≤ 200 := by simp only [List.length_append, run_len, List.length_cons, List.length_nil]; omega
      have hsn := Lib.hid (run_snoc 2 k)
      go_wp2_with fail
      refine (repochs_any p T _ h1 h2).mono ?_
      rintro e w1 ⟨rfl, hb1⟩
      rw [← HE.out]
      have hF1 := hF.below hb1
      have hB1 := hB.on hb1
      have hz1 := hB1.lt
      go_wp2_with (at_builtin; refine wpList_append_G _ rfl (.tmp 18) (.tmp 21) _ rfl (w.heap.size + 1) 38 Try.underlying27 infoPart rfl _ _ rfl (hF1.alloc _) _ _ _ [((2 : Int), (k : Int))] rfl (RdG.boxed _ _ _ _ rfl) (by omega) (by omega) (by simp; omega) ?_; intro b' w2 hF2 hg2 hb2)
      go_roundw
      case rel => exact ⟨k + 1, by omega, by go_num, by rw [hsn.out, ← List.append_assoc]; exact hF2, (hB1.alloc _).below hb2 (by omega), (by (have q_hb2 := Below.size hb2; (try simp at q_hb2); have q_hb1 := Below.size hb1; (try simp at q_hb1); have q_hbel := Below.size hbel; (try simp at q_hbel); repeat (first | exact Below.refl _ _ | (refine Below.trans ?_ (Below.mono hb2 (by first | omega | (simp; omega) | simp))) | (refine Below.trans ?_ (Below.mono hb1 (by first | omega | (simp; omega) | simp))) | (refine Below.trans ?_ (Below.mono hbel (by first | omega | (simp; omega) | simp))) | (refine Below.setCell ?_ (by first | omega | (simp; omega) | simp) _) | (refine Below.alloc ?_ (by first | omega | (simp; omega) | simp) _) | apply Below.drew | apply below_drewN)))⟩
      case measure => simp [intOf] <;> omega
    · have hkE := Lib.hid (show k = E by omega)
      rw [hkE.out] at hF
      go_wp2_with fail
      refine (repochs_any p T _ h1 h2).mono ?_
      rintro e w1 ⟨rfl, hb1⟩
      rw [← HE.out]
      have hFe2 := hF.below hb1
      have hBe2 := hB.on hb1
      have hbe2 : Below w.heap.size w w1 := (by (have q_hb1 := Below.size hb1; (try simp at q_hb1); have q_hbel := Below.size hbel; (try simp at q_hbel); repeat (first | exact Below.refl _ _ | (refine Below.trans ?_ (Below.mono hb1 (by first | omega | (simp; omega) | simp))) | (refine Below.trans ?_ (Below.mono hbel (by first | omega | (simp; omega) | simp))) | (refine Below.setCell ?_ (by first | omega | (simp; omega) | simp) _) | (refine Below.alloc ?_ (by first | omega | (simp; omega) | simp) _) | apply Below.drew | apply below_drewN)))
      go_wp2_with fail
      go_loopw [3, 5] (fun b i wr => ∃ k : Nat, k ≤ S ∧ i = .int .i64 k ∧ FreshG pairE 38 (w.heap.size + 1) wr b ([(1, 0)] ++ run_ 2 E ++ run_ 3 k) ∧ Blk wr w.heap.size 23 #[.int .i64 p, .int .i64 T] ∧ Below w.heap.size w wr) (fun _ i _ => S - (intOf i).toNat)
      case atStart =>
        exact ⟨0, by omega, rfl, by simpa [run_] using hFe2, hBe2, hbe2⟩
      case round =>
        obtain ⟨k, hk, rfl, hF, hB, hbel⟩ := hrel
        have cc := hB.cell
        have hzB := hB.lt
        by_cases hlt : k < S
        · have hln : ([(1, 0)] ++ run_ 2 E ++ run_ 3 k : List (Int × Int)).length ≤ 200 := by simp only [List.length_append, run_len, List.length_cons, List.length_nil]; omega
          have hsn := Lib.hid (run_snoc 3 k)
          go_wp2_with fail
          refine (rsealed_any p T _ h1 h2).mono ?_
          rintro e w1 ⟨rfl, hb1⟩
          rw [← HS.out]
          have hF1 := hF.below hb1
          have hB1 := hB.on hb1
          have hz1 := hB1.lt
          go_wp2_with (at_builtin; refine wpList_append_G _ rfl (.tmp 29) (.tmp 32) _ rfl (w.heap.size + 1) 38 Try.underlying27 infoPart rfl _ _ rfl (hF1.alloc _) _ _ _ [((3 : Int), (k : Int))] rfl (RdG.boxed _ _ _ _ rfl) (by omega) (by omega) (by simp; omega) ?_; intro b' w2 hF2 hg2 hb2)
          go_roundw
          case rel => exact ⟨k + 1, by omega, by go_num, by rw [hsn.out, ← List.append_assoc]; exact hF2, (hB1.alloc _).below hb2 (by omega), (by (have q_hb2 := Below.size hb2; (try simp at q_hb2); have q_hb1 := Below.size hb1; (try simp at q_hb1); have q_hbel := Below.size hbel; (try simp at q_hbel); repeat (first | exact Below.refl _ _ | (refine Below.trans ?_ (Below.mono hb2 (by first | omega | (simp; omega) | simp))) | (refine Below.trans ?_ (Below.mono hb1 (by first | omega | (simp; omega) | simp))) | (refine Below.trans ?_ (Below.mono hbel (by first | omega | (simp; omega) | simp))) | (refine Below.setCell ?_ (by first | omega | (simp; omega) | simp) _) | (refine Below.alloc ?_ (by first | omega | (simp; omega) | simp) _) | apply Below.drew | apply below_drewN)))⟩
          case measure => simp [intOf] <;> omega
        · have hkS := Lib.hid (show k = S by omega)
          rw [hkS.out] at hF
          go_wp2_with fail
          refine (rsealed_any p T _ h1 h2).mono ?_
          rintro e w1 ⟨rfl, hb1⟩
          rw [← HS.out]
          have hFe3 := hF.below hb1
          have hBe3 := hB.on hb1
          have hbe3 : Below w.heap.size w w1 := (by (have q_hb1 := Below.size hb1; (try simp at q_hb1); have q_hbel := Below.size hbel; (try simp at q_hbel); repeat (first | exact Below.refl _ _ | (refine Below.trans ?_ (Below.mono hb1 (by first | omega | (simp; omega) | simp))) | (refine Below.trans ?_ (Below.mono hbel (by first | omega | (simp; omega) | simp))) | (refine Below.setCell ?_ (by first | omega | (simp; omega) | simp) _) | (refine Below.alloc ?_ (by first | omega | (simp; omega) | simp) _) | apply Below.drew | apply below_drewN)))
          go_wp2_with fail
          go_loopw [3, 6] (fun b i wr => ∃ k : Nat, k ≤ (T + 1) ∧ i = .int .i64 k ∧ FreshG pairE 38 (w.heap.size + 1) wr b ([(1, 0)] ++ run_ 2 E ++ run_ 3 S ++ run_ 4 k) ∧ Blk wr w.heap.size 23 #[.int .i64 p, .int .i64 T] ∧ Below w.heap.size w wr) (fun _ i _ => (T + 1) - (intOf i).toNat)
          case atStart =>
            exact ⟨0, by omega, rfl, by simpa [run_] using hFe3, hBe3, hbe3⟩
          case round =>
            obtain ⟨k, hk, rfl, hF, hB, hbel⟩ := hrel
            have cc := hB.cell
            have hzB := hB.lt
            by_cases hlt : k < (T + 1)
            · have hln : ([(1, 0)] ++ run_ 2 E ++ run_ 3 S ++ run_ 4 k : List (Int × Int)).length ≤ 200 := by simp only [List.length_append, run_len, List.length_cons, List.length_nil]; omega
              have hsn := Lib.hid (run_snoc 4 k)
              go_wp2_with (at_builtin; refine wpList_append_G _ rfl (.tmp 40) (.tmp 43) _ rfl (w.heap.size + 1) 38 Try.underlying27 infoPart rfl _ _ rfl (hF.alloc _) _ _ _ [((4 : Int), (k : Int))] rfl (RdG.boxed _ _ _ _ rfl) (by omega) (by omega) (by simp; omega) ?_; intro b' w2 hF2 hg2 hb2)
              go_roundw
              case rel => exact ⟨k + 1, by omega, by go_num, by rw [hsn.out, ← List.append_assoc]; exact hF2, (hB.alloc _).below hb2 (by omega), (by (have q_hb2 := Below.size hb2; (try simp at q_hb2); have q_hbel := Below.size hbel; (try simp at q_hbel); repeat (first | exact Below.refl _ _ | (refine Below.trans ?_ (Below.mono hb2 (by first | omega | (simp; omega) | simp))) | (refine Below.trans ?_ (Below.mono hbel (by first | omega | (simp; omega) | simp))) | (refine Below.setCell ?_ (by first | omega | (simp; omega) | simp) _) | (refine Below.alloc ?_ (by first | omega | (simp; omega) | simp) _) | apply Below.drew | apply below_drewN)))⟩
              case measure => simp [intOf] <;> omega
            · have hkT := Lib.hid (show k = T + 1 by omega)
              rw [hkT.out] at hF
              have hkn : ¬ (k : Int) ≤ (T : Int) := by have := hkT.out; omega
              go_wp2_with fail
              go_ret
              exact ⟨_, rfl, by rw [hall.out]; exact hF.from_ (by omega), hbel⟩
end Go.Proofs.Ythepgnankelmeaa
