/- Scripts: which acts may be. -/
import Derived.Test.YthlgagjnlnakkaaScript6
namespace Go.Proofs.Ythlgagjnlnakkaa
open Go.RowKit


theorem zero_any (f1 : Int) (f2 : Bool) (f3 f4 f5 f6 : Int) (A : Option Addr) (n c : Nat) (L : List UInt8) (w : World) (ha : Rd w A n L) :
    Calls Try.prog 26 #[actV f1 f2 f3 f4 f5 f6 A n c] w fun e w' => e = .returned (.bool (likeA false ((f1, f2, f3, f4, f5, f6), L) ((0, false, 0, 0, 0, 0), []))) ∧ Below w.heap.size w w' := by
  go_enter Try.func26, Try.ntmps26
  go_wp2_with fail
  refine (actsame_any f1 f2 f3 f4 f5 f6 A n c L 0 false 0 0 0 0 none 0 0 [] _ (ha.alloc _) Rd.nil).mono ?_
  rintro e w1 ⟨rfl, hb1⟩
  go_wp2_with fail
  go_ret
  exact ⟨rfl, (by (have q_hb1 := Below.size hb1; (try simp at q_hb1); repeat (first | exact Below.refl _ _ | (refine Below.trans ?_ (Below.mono hb1 (by first | omega | (simp; omega) | simp))) | (refine Below.setCell ?_ (by first | omega | (simp; omega) | simp) _) | (refine Below.alloc ?_ (by first | omega | (simp; omega) | simp) _) | apply Below.drew | apply below_drewN)))⟩

def numOk (n : Int) : Bool := decide (0 ≤ n) && decide (n ≤ 65535)
theorem snum_any (n : Int) (w : World) :
    Calls Try.prog 24 #[.int .i64 n] w fun e w' => e = .returned (.bool (numOk n)) ∧ w = w' := by
  by_cases h : 0 ≤ n
  · obtain ⟨X, hX⟩ : ∃ X, X = decide (n ≤ 65535) := ⟨_, rfl⟩
    have hr := Lib.hid (show numOk n = X by rw [hX]; simp [numOk, h])
    have hX2 := hX.symm
    clear hX
    go_enter Try.func24, Try.ntmps24
    go_wp2_with fail
    go_ret
    exact ⟨by rw [hr.out]; rfl, rfl⟩
  · have hr := Lib.hid (show numOk n = false by simp [numOk, h])
    go_enter Try.func24, Try.ntmps24
    go_wp2_with fail
    go_ret
    exact ⟨by rw [hr.out]; rfl, rfl⟩


def fieldsOk (f1 : Int) (f2 : Bool) (f3 f4 f5 f6 : Int) (n : Nat) : Bool := (hasY f1 || !f2) && ((hasW f1 || decide (f3 = 0)) && ((hasK f1 || decide (f4 = 0)) && ((hasN f1 || decide (f5 = 0)) && ((hasA f1 || decide (f6 = 0)) && (hasB f1 || decide (n = 0))))))
def mayA : ActD → Bool
  | ((f1, f2, f3, f4, f5, f6), L) => decide (0 ≤ f1) && decide (f1 ≤ 19) && decide (L.length ≤ 1024) && numOk f3 && numOk f4 && numOk f5 && numOk f6 && fieldsOk f1 f2 f3 f4 f5 f6 L.length
theorem likeA_bare (f1 : Int) (f2 : Bool) (f3 f4 f5 f6 : Int) (L : List UInt8) : likeA false ((0, (if hasY f1 then false else f2), (if hasW f1 then 0 else f3), (if hasK f1 then 0 else f4), (if hasN f1 then 0 else f5), (if hasA f1 then 0 else f6)), (if hasB f1 then [] else L)) ((0, false, 0, 0, 0, 0), []) = fieldsOk f1 f2 f3 f4 f5 f6 L.length := by
  unfold likeA fieldsOk
  rw [Bool.eq_iff_iff]
  cases hasY f1 <;> cases hasW f1 <;> cases hasK f1 <;> cases hasN f1 <;> cases hasA f1 <;> cases hasB f1 <;> simp [and_assoc] <;> (try (cases f2 <;> simp)) <;> (try (intros; simp_all))

set_option maxRecDepth 100000 in
set_option maxHeartbeats 4000000 in
theorem smay_any (f1 : Int) (f2 : Bool) (f3 f4 f5 f6 : Int) (A : Option Addr) (n c : Nat) (L : List UInt8) (w : World) (ha : Rd w A n L) :
    Calls Try.prog 13 #[actV f1 f2 f3 f4 f5 f6 A n c] w fun e w' => e = .returned (.bool (mayA ((f1, f2, f3, f4, f5, f6), L))) ∧ Below w.heap.size w w' := by
  have hl := ha.len
  by_cases c0 : 0 ≤ f1
  · by_cases c1 : f1 ≤ 19
    · by_cases c2 : n ≤ 1024
      · have hr := Lib.hid (show mayA ((f1, f2, f3, f4, f5, f6), L) = (numOk f3 && numOk f4 && numOk f5 && numOk f6 && fieldsOk f1 f2 f3 f4 f5 f6 L.length) by simp [mayA, c0, c1, hl, c2])
        obtain ⟨y2, hy2⟩ : ∃ y, y = if hasY f1 then false else f2 := ⟨_, rfl⟩
        obtain ⟨y3, hy3⟩ : ∃ y, y = if hasW f1 then 0 else f3 := ⟨_, rfl⟩
        obtain ⟨y4, hy4⟩ : ∃ y, y = if hasK f1 then 0 else f4 := ⟨_, rfl⟩
        obtain ⟨y5, hy5⟩ : ∃ y, y = if hasN f1 then 0 else f5 := ⟨_, rfl⟩
        obtain ⟨y6, hy6⟩ : ∃ y, y = if hasA f1 then 0 else f6 := ⟨_, rfl⟩
        obtain ⟨yA, hyA⟩ : ∃ y, y = if hasB f1 then none else A := ⟨_, rfl⟩
        obtain ⟨yn, hyn⟩ : ∃ y, y = if hasB f1 then 0 else n := ⟨_, rfl⟩
        obtain ⟨yc, hyc⟩ : ∃ y, y = if hasB f1 then 0 else c := ⟨_, rfl⟩
        obtain ⟨yL, hyL⟩ : ∃ y, y = if hasB f1 then [] else L := ⟨_, rfl⟩
        have hlike := Lib.hid (likeA_bare f1 f2 f3 f4 f5 f6 L)
        have hbare := fun w => bare_any f1 c0 c1 f2 f3 f4 f5 f6 A n c w
        rw [← hy2, ← hy3, ← hy4, ← hy5, ← hy6, ← hyL] at hlike
        rw [← hy2, ← hy3, ← hy4, ← hy5, ← hy6, ← hyA, ← hyn, ← hyc] at hbare
        have hBARE := Lib.hid hbare
        have hR : ∀ W, Rd W A n L → Rd W yA yn yL := by
          intro W h
          rw [hyA, hyn, hyL]
          cases hasB f1
          · exact h
          · exact Rd.nil
        have HR := Lib.hid hR
        have q2 : (n : Int) ≤ 1024 := by omega
        clear hy2 hy3 hy4 hy5 hy6 hyA hyn hyc hyL hbare hR
        have ha1 := ha.alloc (.cells #[.int .i64 f1, .bool f2, .int .i64 f3, .int .i64 f4, .int .i64 f5, .int .i64 f6, .slice A n c] 34)
        have B1 := Blk.new w 34 #[.int .i64 f1, .bool f2, .int .i64 f3, .int .i64 f4, .int .i64 f5, .int .i64 f6, .slice A n c]
        clear ha
        go_enter Try.func13, Try.ntmps13
        go_wp2_with fail
        refine (snum_any f3 _).mono ?_
        rintro e w1 ⟨rfl, rfl⟩
        cases h3 : numOk f3 with
        | false =>
          rw [h3] at hr
          go_wp2_with fail
          go_ret
          exact ⟨by rw [hr.out]; rfl, (by (repeat (first | exact Below.refl _ _ | (refine Below.setCell ?_ (by first | omega | (simp; omega) | simp) _) | (refine Below.alloc ?_ (by first | omega | (simp; omega) | simp) _) | apply Below.drew | apply below_drewN)))⟩
        | true =>
          rw [h3] at hr
          go_wp2_with fail
          refine (snum_any f4 _).mono ?_
          rintro e w1 ⟨rfl, rfl⟩
          cases h4 : numOk f4 with
          | false =>
            rw [h4] at hr
            go_wp2_with fail
            go_ret
            exact ⟨by rw [hr.out]; rfl, (by (repeat (first | exact Below.refl _ _ | (refine Below.setCell ?_ (by first | omega | (simp; omega) | simp) _) | (refine Below.alloc ?_ (by first | omega | (simp; omega) | simp) _) | apply Below.drew | apply below_drewN)))⟩
          | true =>
            rw [h4] at hr
            go_wp2_with fail
            refine (snum_any f5 _).mono ?_
            rintro e w1 ⟨rfl, rfl⟩
            cases h5 : numOk f5 with
            | false =>
              rw [h5] at hr
              go_wp2_with fail
              go_ret
              exact ⟨by rw [hr.out]; rfl, (by (repeat (first | exact Below.refl _ _ | (refine Below.setCell ?_ (by first | omega | (simp; omega) | simp) _) | (refine Below.alloc ?_ (by first | omega | (simp; omega) | simp) _) | apply Below.drew | apply below_drewN)))⟩
            | true =>
              rw [h5] at hr
              go_wp2_with fail
              refine (snum_any f6 _).mono ?_
              rintro e w1 ⟨rfl, rfl⟩
              cases h6 : numOk f6 with
              | false =>
                rw [h6] at hr
                go_wp2_with fail
                go_ret
                exact ⟨by rw [hr.out]; rfl, (by (repeat (first | exact Below.refl _ _ | (refine Below.setCell ?_ (by first | omega | (simp; omega) | simp) _) | (refine Below.alloc ?_ (by first | omega | (simp; omega) | simp) _) | apply Below.drew | apply below_drewN)))⟩
              | true =>
                rw [h6, ← hlike.out] at hr
                go_wp2_with fail
                refine (hBARE.out _).mono ?_
                rintro e w1 ⟨rfl, hb1⟩
                go_wp2_with fail
                refine (zero_any 0 y2 y3 y4 y5 y6 yA yn yc yL _ (HR.out _ (ha1.below hb1))).mono ?_
                rintro e w2 ⟨rfl, hb2⟩
                obtain ⟨X, hX⟩ : ∃ X, X = likeA false ((0, y2, y3, y4, y5, y6), yL) ((0, false, 0, 0, 0, 0), []) := ⟨_, rfl⟩
                rw [← hX]
                rw [← hX] at hr
                clear hX
                go_wp2_with fail
                go_ret
                exact ⟨by rw [hr.out]; rfl, (by (have q_hb2 := Below.size hb2; (try simp at q_hb2); have q_hb1 := Below.size hb1; (try simp at q_hb1); repeat (first | exact Below.refl _ _ | (refine Below.trans ?_ (Below.mono hb2 (by first | omega | (simp; omega) | simp))) | (refine Below.trans ?_ (Below.mono hb1 (by first | omega | (simp; omega) | simp))) | (refine Below.setCell ?_ (by first | omega | (simp; omega) | simp) _) | (refine Below.alloc ?_ (by first | omega | (simp; omega) | simp) _) | apply Below.drew | apply below_drewN)))⟩
      · have hr := Lib.hid (show mayA ((f1, f2, f3, f4, f5, f6), L) = false by simp [mayA, hl, c2])
        have q2 : (1024 : Int) < n := by omega
        go_enter Try.func13, Try.ntmps13
        go_wp2_with fail
        go_ret
        exact ⟨by rw [hr.out]; rfl, (by (repeat (first | exact Below.refl _ _ | (refine Below.setCell ?_ (by first | omega | (simp; omega) | simp) _) | (refine Below.alloc ?_ (by first | omega | (simp; omega) | simp) _) | apply Below.drew | apply below_drewN)))⟩
    · have hr := Lib.hid (show mayA ((f1, f2, f3, f4, f5, f6), L) = false by simp [mayA, c1])
      have q2 : (19 : Int) < f1 := by omega
      go_enter Try.func13, Try.ntmps13
      go_wp2_with fail
      go_ret
      exact ⟨by rw [hr.out]; rfl, (by (repeat (first | exact Below.refl _ _ | (refine Below.setCell ?_ (by first | omega | (simp; omega) | simp) _) | (refine Below.alloc ?_ (by first | omega | (simp; omega) | simp) _) | apply Below.drew | apply below_drewN)))⟩
  · have hr := Lib.hid (show mayA ((f1, f2, f3, f4, f5, f6), L) = false by simp [mayA, c0])
    have q2 : f1 < 0 := by omega
    go_enter Try.func13, Try.ntmps13
    go_wp2_with fail
    go_ret
    exact ⟨by rw [hr.out]; rfl, (by (repeat (first | exact Below.refl _ _ | (refine Below.setCell ?_ (by first | omega | (simp; omega) | simp) _) | (refine Below.alloc ?_ (by first | omega | (simp; omega) | simp) _) | apply Below.drew | apply below_drewN)))⟩

end Go.Proofs.Ythlgagjnlnakkaa
