/- Heads: may one be, by the program and by the document. -/
import Derived.Test.YtdnjlhcmihmgdaaRoots3
import Derived.Test.YtdnjlhcmihmgdaaHandle2
namespace Go.Proofs.Ytdnjlhcmihmgdaa
open Go.RowKit

def hB (h : Int) : Bool := mayB (hP h) (hS h) (hN h)
def rtK (f : Nat → Int) (k : Nat) : Prop := ∀ i, i < k → f i = 0 ∨ hB (f i) = true
instance (f : Nat → Int) (k : Nat) : Decidable (rtK f k) := by unfold rtK; infer_instance
def rtB (n : Int) (f : Nat → Int) : Bool := decide (rtK f 16 ∧ 0 < n ∧ n ≤ 281474976710656)
theorem rtK_next {f : Nat → Int} {k : Nat} (h : rtK f k) (h1 : f k = 0 ∨ hB (f k) = true) : rtK f (k + 1) := fun i hi => by
  rcases Nat.lt_or_ge i k with h2 | h2
  · exact h i h2
  · obtain rfl : i = k := by omega
    exact h1
theorem rtB_not {n : Int} {f : Nat → Int} {k : Nat} (hk : k < 16) (h0 : f k ≠ 0) (h1 : hB (f k) = false) : rtB n f = false := decide_eq_false fun h => by
  rcases h.1 k hk with h2 | h2
  · exact h0 h2
  · rw [h1] at h2; cases h2
theorem rtB_num {n : Int} {f : Nat → Int} (h : rtK f 16) : rtB n f = decide (0 < n ∧ n ≤ 281474976710656) := by
  unfold rtB
  rw [decide_eq_decide]
  exact ⟨fun h2 => h2.2, fun h2 => ⟨h, h2⟩⟩

set_option maxRecDepth 100000 in
set_option maxHeartbeats 1000000 in
theorem smayR_any (n : Int) (f : Nat → Int) (w : World) (hf : ∀ i, i < 16 → 0 ≤ f i ∧ f i ≤ 18446744073709551615) :
    Calls Try.prog 53 #[.agg (hd n f)] w fun e w' => e = .returned (.bool (rtB n f)) ∧ Below w.heap.size w w' := by
  have H0 := Blk.new w 70 (hd n f)
  have hb0 : Below w.heap.size w (w.alloc (.cells (hd n f) 70)) := (by (repeat (first | exact Below.refl _ _ | (refine Below.setCell ?_ (by first | omega | (simp; omega) | simp) _) | (refine Below.alloc ?_ (by first | omega | (simp; omega) | simp) _) | apply Below.drew | apply below_drewN)))
  go_enter Try.func53, Try.ntmps53
  go_wp2_with (refine wpList_load_blk rfl 68 (.tmp 8) rfl w.heap.size 1 70 (hd n f) (ar f) _ rfl H0 (hd_ar n f) Try.underlying68 rfl (by kernel_rfl) ?_)
  go_loopw [10] (fun i wr => ∃ k : Nat, k ≤ 16 ∧ i = .int .i64 k ∧ rtK f k ∧ Blk wr w.heap.size 70 (hd n f) ∧ Below w.heap.size w wr) (fun i _ => 16 - (intOf i).toNat)
  case atStart => exact ⟨0, by omega, rfl, fun i hi => absurd hi (by omega), H0, hb0⟩
  case round =>
    clear H0 hb0
    obtain ⟨k, hk, rfl, hK, hB0, hbel⟩ := hrel
    have HK := Lib.hid hK
    clear hK
    by_cases hlt : k < 16
    · have q1 : (k : Int) < 16 := by omega
      have hix := ix_own f hlt
      obtain ⟨h0, h1⟩ := hf k hlt
      obtain ⟨x, hx⟩ : ∃ x, f k = x := ⟨_, rfl⟩
      rw [hx] at hix h0 h1
      have HX := Lib.hid hx
      clear hx
      by_cases hx0 : x = 0
      · subst hx0
        have q2 : ((0 : Int) != 0) = false := rfl
        go_wp2_with fail
        refine (place_no 0 _ (by omega) (by omega) (by decide)).mono ?_
        rintro e w2 ⟨rfl, hb2⟩
        have hB2 := hB0.on hb2
        have b2 : Below w.heap.size w w2 := (by (have q_hb2 := Below.size hb2; (try simp at q_hb2); have q_hbel := Below.size hbel; (try simp at q_hbel); repeat (first | exact Below.refl _ _ | (refine Below.trans ?_ (Below.mono hb2 (by first | omega | (simp; omega) | simp))) | (refine Below.trans ?_ (Below.mono hbel (by first | omega | (simp; omega) | simp))) | (refine Below.setCell ?_ (by first | omega | (simp; omega) | simp) _) | (refine Below.alloc ?_ (by first | omega | (simp; omega) | simp) _) | apply Below.drew | apply below_drewN)))
        clear hB0 hb2 hbel
        go_wp2_with fail
        go_roundw
        case rel => exact ⟨k + 1, by omega, by go_num, rtK_next HK.out (.inl HX.out), hB2.alloc _, (by (have q_b2 := Below.size b2; (try simp at q_b2); repeat (first | exact Below.refl _ _ | (refine Below.trans ?_ (Below.mono b2 (by first | omega | (simp; omega) | simp))) | (refine Below.setCell ?_ (by first | omega | (simp; omega) | simp) _) | (refine Below.alloc ?_ (by first | omega | (simp; omega) | simp) _) | apply Below.drew | apply below_drewN)))⟩
        case measure => simp [intOf] <;> omega
      · have q2 : (x != 0) = true := by simpa using hx0
        cases hm : hB x with
        | true =>
          have HM := Lib.hid hm
          clear hm
          go_wp2_with fail
          refine (place_yes x _ h0 h1 HM.out).mono ?_
          rintro e w2 ⟨rfl, hb2⟩
          have hB2 := hB0.on hb2
          have b2 : Below w.heap.size w w2 := (by (have q_hb2 := Below.size hb2; (try simp at q_hb2); have q_hbel := Below.size hbel; (try simp at q_hbel); repeat (first | exact Below.refl _ _ | (refine Below.trans ?_ (Below.mono hb2 (by first | omega | (simp; omega) | simp))) | (refine Below.trans ?_ (Below.mono hbel (by first | omega | (simp; omega) | simp))) | (refine Below.setCell ?_ (by first | omega | (simp; omega) | simp) _) | (refine Below.alloc ?_ (by first | omega | (simp; omega) | simp) _) | apply Below.drew | apply below_drewN)))
          clear hB0 hb2 hbel
          go_wp2_with fail
          go_roundw
          case rel => exact ⟨k + 1, by omega, by go_num, rtK_next HK.out (.inr (by rw [HX.out]; exact HM.out)), hB2.alloc _, (by (have q_b2 := Below.size b2; (try simp at q_b2); repeat (first | exact Below.refl _ _ | (refine Below.trans ?_ (Below.mono b2 (by first | omega | (simp; omega) | simp))) | (refine Below.setCell ?_ (by first | omega | (simp; omega) | simp) _) | (refine Below.alloc ?_ (by first | omega | (simp; omega) | simp) _) | apply Below.drew | apply below_drewN)))⟩
          case measure => simp [intOf] <;> omega
        | false =>
          have hr := Lib.hid (rtB_not (n := n) (f := f) hlt (by rw [HX.out]; exact hx0) (by rw [HX.out]; exact hm))
          have HM := Lib.hid hm
          clear hm
          go_wp2_with fail
          refine (place_no x _ h0 h1 HM.out).mono ?_
          rintro e w2 ⟨rfl, hb2⟩
          have b2 : Below w.heap.size w w2 := (by (have q_hb2 := Below.size hb2; (try simp at q_hb2); have q_hbel := Below.size hbel; (try simp at q_hbel); repeat (first | exact Below.refl _ _ | (refine Below.trans ?_ (Below.mono hb2 (by first | omega | (simp; omega) | simp))) | (refine Below.trans ?_ (Below.mono hbel (by first | omega | (simp; omega) | simp))) | (refine Below.setCell ?_ (by first | omega | (simp; omega) | simp) _) | (refine Below.alloc ?_ (by first | omega | (simp; omega) | simp) _) | apply Below.drew | apply below_drewN)))
          clear hB0 hb2 hbel
          go_wp2_with fail
          go_ret
          exact ⟨by rw [hr.out]; rfl, (by (have q_b2 := Below.size b2; (try simp at q_b2); repeat (first | exact Below.refl _ _ | (refine Below.trans ?_ (Below.mono b2 (by first | omega | (simp; omega) | simp))) | (refine Below.setCell ?_ (by first | omega | (simp; omega) | simp) _) | (refine Below.alloc ?_ (by first | omega | (simp; omega) | simp) _) | apply Below.drew | apply below_drewN)))⟩
    · skip
      obtain rfl : k = 16 := by omega
      have hr := Lib.hid (rtB_num (n := n) HK.out)
      have c0 : wr.cell? ⟨w.heap.size, 0, none⟩ = some (.int .u64 n) := hB0.cell 0
      clear HK hf
      by_cases hn0 : 0 < n
      · by_cases hn1 : n ≤ 281474976710656
        · have q1 : 1 ≤ n := by omega
          go_wp2_with fail
          go_ret
          exact ⟨by rw [hr.out, decide_eq_true ⟨hn0, hn1⟩]; rfl, hbel⟩
        · have q1 : 1 ≤ n := by omega
          go_wp2_with fail
          go_ret
          exact ⟨by rw [hr.out, decide_eq_false (by omega)]; rfl, hbel⟩
      · have q1 : ¬ 1 ≤ n := by omega
        go_wp2_with fail
        go_ret
        exact ⟨by rw [hr.out, decide_eq_false (by omega)]; rfl, hbel⟩
set_option maxRecDepth 100000 in
set_option maxHeartbeats 1000000 in
theorem rrightR_any (n : Int) (f : Nat → Int) (w : World) (hf : ∀ i, i < 16 → 0 ≤ f i ∧ f i ≤ 18446744073709551615) :
    Calls Try.prog 44 #[.agg (hd n f)] w fun e w' => e = .returned (.bool (rtB n f)) ∧ Below w.heap.size w w' := by
  have H0 := Blk.new w 66 (hd n f)
  have hb0 : Below w.heap.size w (w.alloc (.cells (hd n f) 66)) := (by (repeat (first | exact Below.refl _ _ | (refine Below.setCell ?_ (by first | omega | (simp; omega) | simp) _) | (refine Below.alloc ?_ (by first | omega | (simp; omega) | simp) _) | apply Below.drew | apply below_drewN)))
  go_enter Try.func44, Try.ntmps44
  go_wp2_with (refine wpList_load_blk rfl 64 (.tmp 7) rfl w.heap.size 1 66 (hd n f) (ar f) _ rfl H0 (hd_ar n f) Try.underlying64 rfl (by kernel_rfl) ?_)
  go_loopw [9] (fun i wr => ∃ k : Nat, k ≤ 16 ∧ i = .int .i64 k ∧ rtK f k ∧ Blk wr w.heap.size 66 (hd n f) ∧ Below w.heap.size w wr) (fun i _ => 16 - (intOf i).toNat)
  case atStart => exact ⟨0, by omega, rfl, fun i hi => absurd hi (by omega), H0, hb0⟩
  case round =>
    clear H0 hb0
    obtain ⟨k, hk, rfl, hK, hB0, hbel⟩ := hrel
    have HK := Lib.hid hK
    clear hK
    by_cases hlt : k < 16
    · have q1 : (k : Int) < 16 := by omega
      have hix := ix_doc f hlt
      obtain ⟨h0, h1⟩ := hf k hlt
      obtain ⟨x, hx⟩ : ∃ x, f k = x := ⟨_, rfl⟩
      rw [hx] at hix h0 h1
      have HX := Lib.hid hx
      clear hx
      by_cases hx0 : x = 0
      · subst hx0
        have q2 : ((0 : Int) != 0) = false := rfl
        go_wp2_with fail
        refine (of_no 0 _ (by omega) (by omega) (by decide)).mono ?_
        rintro e w2 ⟨rfl, hb2⟩
        have hB2 := hB0.on hb2
        have b2 : Below w.heap.size w w2 := (by (have q_hb2 := Below.size hb2; (try simp at q_hb2); have q_hbel := Below.size hbel; (try simp at q_hbel); repeat (first | exact Below.refl _ _ | (refine Below.trans ?_ (Below.mono hb2 (by first | omega | (simp; omega) | simp))) | (refine Below.trans ?_ (Below.mono hbel (by first | omega | (simp; omega) | simp))) | (refine Below.setCell ?_ (by first | omega | (simp; omega) | simp) _) | (refine Below.alloc ?_ (by first | omega | (simp; omega) | simp) _) | apply Below.drew | apply below_drewN)))
        clear hB0 hb2 hbel
        go_wp2_with fail
        go_roundw
        case rel => exact ⟨k + 1, by omega, by go_num, rtK_next HK.out (.inl HX.out), hB2.alloc _, (by (have q_b2 := Below.size b2; (try simp at q_b2); repeat (first | exact Below.refl _ _ | (refine Below.trans ?_ (Below.mono b2 (by first | omega | (simp; omega) | simp))) | (refine Below.setCell ?_ (by first | omega | (simp; omega) | simp) _) | (refine Below.alloc ?_ (by first | omega | (simp; omega) | simp) _) | apply Below.drew | apply below_drewN)))⟩
        case measure => simp [intOf] <;> omega
      · have q2 : (x != 0) = true := by simpa using hx0
        cases hm : hB x with
        | true =>
          have HM := Lib.hid hm
          clear hm
          go_wp2_with fail
          refine (of_yes x _ h0 h1 HM.out).mono ?_
          rintro e w2 ⟨rfl, hb2⟩
          have hB2 := hB0.on hb2
          have b2 : Below w.heap.size w w2 := (by (have q_hb2 := Below.size hb2; (try simp at q_hb2); have q_hbel := Below.size hbel; (try simp at q_hbel); repeat (first | exact Below.refl _ _ | (refine Below.trans ?_ (Below.mono hb2 (by first | omega | (simp; omega) | simp))) | (refine Below.trans ?_ (Below.mono hbel (by first | omega | (simp; omega) | simp))) | (refine Below.setCell ?_ (by first | omega | (simp; omega) | simp) _) | (refine Below.alloc ?_ (by first | omega | (simp; omega) | simp) _) | apply Below.drew | apply below_drewN)))
          clear hB0 hb2 hbel
          go_wp2_with fail
          go_roundw
          case rel => exact ⟨k + 1, by omega, by go_num, rtK_next HK.out (.inr (by rw [HX.out]; exact HM.out)), hB2.alloc _, (by (have q_b2 := Below.size b2; (try simp at q_b2); repeat (first | exact Below.refl _ _ | (refine Below.trans ?_ (Below.mono b2 (by first | omega | (simp; omega) | simp))) | (refine Below.setCell ?_ (by first | omega | (simp; omega) | simp) _) | (refine Below.alloc ?_ (by first | omega | (simp; omega) | simp) _) | apply Below.drew | apply below_drewN)))⟩
          case measure => simp [intOf] <;> omega
        | false =>
          have hr := Lib.hid (rtB_not (n := n) (f := f) hlt (by rw [HX.out]; exact hx0) (by rw [HX.out]; exact hm))
          have HM := Lib.hid hm
          clear hm
          go_wp2_with fail
          refine (of_no x _ h0 h1 HM.out).mono ?_
          rintro e w2 ⟨rfl, hb2⟩
          have b2 : Below w.heap.size w w2 := (by (have q_hb2 := Below.size hb2; (try simp at q_hb2); have q_hbel := Below.size hbel; (try simp at q_hbel); repeat (first | exact Below.refl _ _ | (refine Below.trans ?_ (Below.mono hb2 (by first | omega | (simp; omega) | simp))) | (refine Below.trans ?_ (Below.mono hbel (by first | omega | (simp; omega) | simp))) | (refine Below.setCell ?_ (by first | omega | (simp; omega) | simp) _) | (refine Below.alloc ?_ (by first | omega | (simp; omega) | simp) _) | apply Below.drew | apply below_drewN)))
          clear hB0 hb2 hbel
          go_wp2_with fail
          go_ret
          exact ⟨by rw [hr.out]; rfl, (by (have q_b2 := Below.size b2; (try simp at q_b2); repeat (first | exact Below.refl _ _ | (refine Below.trans ?_ (Below.mono b2 (by first | omega | (simp; omega) | simp))) | (refine Below.setCell ?_ (by first | omega | (simp; omega) | simp) _) | (refine Below.alloc ?_ (by first | omega | (simp; omega) | simp) _) | apply Below.drew | apply below_drewN)))⟩
    · skip
      obtain rfl : k = 16 := by omega
      have hr := Lib.hid (rtB_num (n := n) HK.out)
      have c0 : wr.cell? ⟨w.heap.size, 0, none⟩ = some (.int .u64 n) := hB0.cell 0
      clear HK hf
      by_cases hn0 : 0 < n
      · by_cases hn1 : n ≤ 281474976710656
        · have q1 : 1 ≤ n := by omega
          go_wp2_with fail
          go_ret
          exact ⟨by rw [hr.out, decide_eq_true ⟨hn0, hn1⟩]; rfl, hbel⟩
        · have q1 : 1 ≤ n := by omega
          go_wp2_with fail
          go_ret
          exact ⟨by rw [hr.out, decide_eq_false (by omega)]; rfl, hbel⟩
      · have q1 : ¬ 1 ≤ n := by omega
        go_wp2_with fail
        go_ret
        exact ⟨by rw [hr.out, decide_eq_false (by omega)]; rfl, hbel⟩
end Go.Proofs.Ytdnjlhcmihmgdaa
