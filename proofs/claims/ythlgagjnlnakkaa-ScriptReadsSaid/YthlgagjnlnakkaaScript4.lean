/- Scripts: the document's Same. -/
import Derived.Test.YthlgagjnlnakkaaScript3
namespace Go.Proofs.Ythlgagjnlnakkaa
open Go.RowKit

theorem eqRest_false {a b : ActF} {n m : Nat} (h : ¬ (a = b ∧ n = m)) : eqRest a b n m = false := by simp [eqRest]; intro e; exact fun e2 => h ⟨e, e2⟩
set_option maxRecDepth 100000 in
set_option maxHeartbeats 4000000 in
theorem rsame_any (li : Bool) (f1 : Int) (f2 : Bool) (f3 f4 f5 f6 : Int) (A : Option Addr) (n c : Nat) (L : List UInt8) (y1 : Int) (y2 : Bool) (y3 y4 y5 y6 : Int) (B : Option Addr) (m d : Nat) (M : List UInt8) (w : World) (ha : Rd w A n L) (hb' : Rd w B m M) :
    Calls Try.prog 23 #[actV f1 f2 f3 f4 f5 f6 A n c, actV y1 y2 y3 y4 y5 y6 B m d, .bool li] w fun e w' => e = .returned (.bool (likeA li ((f1, f2, f3, f4, f5, f6), L) ((y1, y2, y3, y4, y5, y6), M))) ∧ Below w.heap.size w w' := by
  have hl1 := ha.len
  have hl2 := hb'.len
  have RA : Rd ((w.alloc (.cells #[.int .i64 f1, .bool f2, .int .i64 f3, .int .i64 f4, .int .i64 f5, .int .i64 f6, .slice A n c] 32)).alloc (.cells #[.int .i64 y1, .bool y2, .int .i64 y3, .int .i64 y4, .int .i64 y5, .int .i64 y6, .slice B m d] 32)) A n L := (ha.alloc _).alloc _
  have RB : Rd ((w.alloc (.cells #[.int .i64 f1, .bool f2, .int .i64 f3, .int .i64 f4, .int .i64 f5, .int .i64 f6, .slice A n c] 32)).alloc (.cells #[.int .i64 y1, .bool y2, .int .i64 y3, .int .i64 y4, .int .i64 y5, .int .i64 y6, .slice B m d] 32)) B m M := (hb'.alloc _).alloc _
  have P0 := True.intro
  have Q0 := True.intro
  by_cases e1 : f1 = y1
  · subst e1
    by_cases e2 : f2 = y2
    · subst e2
      by_cases e3 : f3 = y3
      · subst e3
        by_cases e4 : f4 = y4
        · subst e4
          by_cases e5 : f5 = y5
          · subst e5
            by_cases e6 : f6 = y6
            · subst e6
              by_cases e7 : n = m
              · subst e7
                have hd : eqRest (f1, f2, f3, f4, f5, f6) (f1, f2, f3, f4, f5, f6) L.length M.length = true := by simp [eqRest, hl1, hl2]
                obtain ⟨X, hX⟩ : ∃ X, X = decide (L = M) := ⟨_, rfl⟩
                have HX := Lib.hid hX
                have hq : ((str L).toList == (str M).toList) = X := by rw [hX, Bool.eq_iff_iff]; simp [str_toL]
                have cv1 := conv c _ RA
                have cv2 := conv d _ RB
                cases li with
                | false =>
                  have hr := Lib.hid (likeA_same (x := ((f1, f2, f3, f4, f5, f6), L)) (y := ((f1, f2, f3, f4, f5, f6), M)) hd)
                  clear hd hX ha hb' hl1 hl2 P0 Q0
                  go_enter Try.func23, Try.ntmps23
                  go_wp2_with fail
                  go_ret
                  exact ⟨by rw [hr.out, ← HX.out]; rfl, (by (repeat (first | exact Below.refl _ _ | (refine Below.setCell ?_ (by first | omega | (simp; omega) | simp) _) | (refine Below.alloc ?_ (by first | omega | (simp; omega) | simp) _) | apply Below.drew | apply below_drewN)))⟩
                | true =>
                  by_cases h9 : f1 = 9
                  · subst h9
                    have hr := Lib.hid (likeA_nine (x := ((9, f2, f3, f4, f5, f6), L)) (y := ((9, f2, f3, f4, f5, f6), M)) hd rfl)
                    clear hd hX ha hb' hl1 hl2 P0 Q0
                    go_enter Try.func23, Try.ntmps23
                    go_wp2_with fail
                    go_ret
                    exact ⟨by rw [hr.out]; rfl, (by (repeat (first | exact Below.refl _ _ | (refine Below.setCell ?_ (by first | omega | (simp; omega) | simp) _) | (refine Below.alloc ?_ (by first | omega | (simp; omega) | simp) _) | apply Below.drew | apply below_drewN)))⟩
                  · have hr := Lib.hid (likeA_other (x := ((f1, f2, f3, f4, f5, f6), L)) (y := ((f1, f2, f3, f4, f5, f6), M)) hd h9)
                    have k9 : (f1 == 9) = false := by simp [h9]
                    clear hd hX ha hb' hl1 hl2 P0 Q0 h9
                    go_enter Try.func23, Try.ntmps23
                    go_wp2_with fail
                    go_ret
                    exact ⟨by rw [hr.out, ← HX.out]; rfl, (by (repeat (first | exact Below.refl _ _ | (refine Below.setCell ?_ (by first | omega | (simp; omega) | simp) _) | (refine Below.alloc ?_ (by first | omega | (simp; omega) | simp) _) | apply Below.drew | apply below_drewN)))⟩
              · have e7b : ¬ (n : Int) = (m : Int) := by omega
                have hr := Lib.hid (likeA_rest (li := li) (x := ((f1, f2, f3, f4, f5, f6), L)) (y := ((f1, f2, f3, f4, f5, f6), M)) (by rw [hl1, hl2]; exact eqRest_false (by simp [e7])))
                have hb : ((n : Int) != (m : Int)) = true := by simp [e7b]
                clear e7 e7b ha hb' hl1 hl2 RA RB P0 Q0
                go_enter Try.func23, Try.ntmps23
                go_wp2_with fail
                go_ret
                exact ⟨by rw [hr.out]; rfl, (by (repeat (first | exact Below.refl _ _ | (refine Below.setCell ?_ (by first | omega | (simp; omega) | simp) _) | (refine Below.alloc ?_ (by first | omega | (simp; omega) | simp) _) | apply Below.drew | apply below_drewN)))⟩
            · have hr := Lib.hid (likeA_rest (li := li) (x := ((f1, f2, f3, f4, f5, f6), L)) (y := ((f1, f2, f3, f4, f5, y6), M)) (by rw [hl1, hl2]; exact eqRest_false (by simp [e6])))
              have hb : (f6 != y6) = true := by simp [e6]
              clear e6 ha hb' hl1 hl2 RA RB P0 Q0
              go_enter Try.func23, Try.ntmps23
              go_wp2_with fail
              go_ret
              exact ⟨by rw [hr.out]; rfl, (by (repeat (first | exact Below.refl _ _ | (refine Below.setCell ?_ (by first | omega | (simp; omega) | simp) _) | (refine Below.alloc ?_ (by first | omega | (simp; omega) | simp) _) | apply Below.drew | apply below_drewN)))⟩
          · have hr := Lib.hid (likeA_rest (li := li) (x := ((f1, f2, f3, f4, f5, f6), L)) (y := ((f1, f2, f3, f4, y5, y6), M)) (by rw [hl1, hl2]; exact eqRest_false (by simp [e5])))
            have hb : (f5 != y5) = true := by simp [e5]
            clear e5 ha hb' hl1 hl2 RA RB P0 Q0
            go_enter Try.func23, Try.ntmps23
            go_wp2_with fail
            go_ret
            exact ⟨by rw [hr.out]; rfl, (by (repeat (first | exact Below.refl _ _ | (refine Below.setCell ?_ (by first | omega | (simp; omega) | simp) _) | (refine Below.alloc ?_ (by first | omega | (simp; omega) | simp) _) | apply Below.drew | apply below_drewN)))⟩
        · have hr := Lib.hid (likeA_rest (li := li) (x := ((f1, f2, f3, f4, f5, f6), L)) (y := ((f1, f2, f3, y4, y5, y6), M)) (by rw [hl1, hl2]; exact eqRest_false (by simp [e4])))
          have hb : (f4 != y4) = true := by simp [e4]
          clear e4 ha hb' hl1 hl2 RA RB P0 Q0
          go_enter Try.func23, Try.ntmps23
          go_wp2_with fail
          go_ret
          exact ⟨by rw [hr.out]; rfl, (by (repeat (first | exact Below.refl _ _ | (refine Below.setCell ?_ (by first | omega | (simp; omega) | simp) _) | (refine Below.alloc ?_ (by first | omega | (simp; omega) | simp) _) | apply Below.drew | apply below_drewN)))⟩
      · have hr := Lib.hid (likeA_rest (li := li) (x := ((f1, f2, f3, f4, f5, f6), L)) (y := ((f1, f2, y3, y4, y5, y6), M)) (by rw [hl1, hl2]; exact eqRest_false (by simp [e3])))
        have hb : (f3 != y3) = true := by simp [e3]
        clear e3 ha hb' hl1 hl2 RA RB P0 Q0
        go_enter Try.func23, Try.ntmps23
        go_wp2_with fail
        go_ret
        exact ⟨by rw [hr.out]; rfl, (by (repeat (first | exact Below.refl _ _ | (refine Below.setCell ?_ (by first | omega | (simp; omega) | simp) _) | (refine Below.alloc ?_ (by first | omega | (simp; omega) | simp) _) | apply Below.drew | apply below_drewN)))⟩
    · obtain ⟨rfl, rfl⟩ | ⟨rfl, rfl⟩ : (f2 = true ∧ y2 = false) ∨ (f2 = false ∧ y2 = true) := by cases f2 <;> cases y2 <;> simp at e2 ⊢
      · have hr := Lib.hid (likeA_rest (li := li) (x := ((f1, true, f3, f4, f5, f6), L)) (y := ((f1, false, y3, y4, y5, y6), M)) (by rw [hl1, hl2]; exact eqRest_false (by simp)))
        clear e2 ha hb' hl1 hl2 RA RB P0 Q0
        go_enter Try.func23, Try.ntmps23
        go_wp2_with fail
        go_ret
        exact ⟨by rw [hr.out]; rfl, (by (repeat (first | exact Below.refl _ _ | (refine Below.setCell ?_ (by first | omega | (simp; omega) | simp) _) | (refine Below.alloc ?_ (by first | omega | (simp; omega) | simp) _) | apply Below.drew | apply below_drewN)))⟩
      · have hr := Lib.hid (likeA_rest (li := li) (x := ((f1, false, f3, f4, f5, f6), L)) (y := ((f1, true, y3, y4, y5, y6), M)) (by rw [hl1, hl2]; exact eqRest_false (by simp)))
        clear e2 ha hb' hl1 hl2 RA RB P0 Q0
        go_enter Try.func23, Try.ntmps23
        go_wp2_with fail
        go_ret
        exact ⟨by rw [hr.out]; rfl, (by (repeat (first | exact Below.refl _ _ | (refine Below.setCell ?_ (by first | omega | (simp; omega) | simp) _) | (refine Below.alloc ?_ (by first | omega | (simp; omega) | simp) _) | apply Below.drew | apply below_drewN)))⟩
  · have hr := Lib.hid (likeA_rest (li := li) (x := ((f1, f2, f3, f4, f5, f6), L)) (y := ((y1, y2, y3, y4, y5, y6), M)) (by rw [hl1, hl2]; exact eqRest_false (by simp [e1])))
    have hb : (f1 != y1) = true := by simp [e1]
    clear e1 ha hb' hl1 hl2 RA RB P0 Q0
    go_enter Try.func23, Try.ntmps23
    go_wp2_with fail
    go_ret
    exact ⟨by rw [hr.out]; rfl, (by (repeat (first | exact Below.refl _ _ | (refine Below.setCell ?_ (by first | omega | (simp; omega) | simp) _) | (refine Below.alloc ?_ (by first | omega | (simp; omega) | simp) _) | apply Below.drew | apply below_drewN)))⟩
end Go.Proofs.Ythlgagjnlnakkaa
