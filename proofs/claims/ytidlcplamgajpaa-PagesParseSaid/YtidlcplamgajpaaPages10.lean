/- Pages: the document's One, May, Lay. -/
import Derived.Test.YtidlcplamgajpaaPages7
import Derived.Outline
namespace Go.Proofs.Ytidlcplamgajpaa
open Go.RowKit

theorem may0 (b c d s : Int) : mayB (0, b, c, d, s) = eqPg (0, b, c, d, s) (0, 0, 0, 0, 0) := by
  unfold mayB freeB slotsB headB tailB eqPg; simp
theorem may3 (b c d s : Int) : mayB (3, b, c, d, s) = eqPg (3, b, c, d, s) (3, 0, 0, 0, 0) := by
  unfold mayB freeB slotsB headB tailB eqPg; simp
theorem may1 (b c d s : Int) : mayB (1, b, c, d, s) = (eqPg (1, b, c, d, s) (1, b, 0, 0, 0) && decide (sizeI b > 0)) := by
  unfold mayB freeB slotsB headB tailB eqPg; simp
theorem may2 (b c d s : Int) : mayB (2, b, c, d, s) = (longB d && (decide (c = pagesC d) && (decide (b = 0) && (decide (0 < s) && decide (s < 281474976710656))))) := by
  unfold mayB freeB slotsB headB tailB eqPg
  rw [Bool.eq_iff_iff]
  simp
  omega
theorem mayx (a b c d s : Int) (h0 : a ≠ 0) (h1 : a ≠ 1) (h2 : a ≠ 2) (h3 : a ≠ 3) : mayB (a, b, c, d, s) = false := by
  unfold mayB freeB slotsB headB tailB eqPg; simp [h0, h1, h2, h3]

set_option maxRecDepth 100000 in
set_option maxHeartbeats 4000000 in
theorem rone_any (a b c d s : Int) (w : World) :
    Calls Try.prog 23 #[.agg #[.int .i64 a, .int .i64 b, .int .i64 c, .int .i64 d, .int .u64 s]] w fun e w' => e = .returned (.bool (mayB (a, b, c, d, s))) ∧ Below w.heap.size w w' := by
  by_cases h0 : a = 0
  · subst h0
    have hq := run_eql_rp 0 b c d s 0 0 0 0 0
    have HM := Lib.hid (may0 b c d s)
    go_enter Try.func23, Try.ntmps23
    go_wp2_with fail
    go_ret
    exact ⟨by rw [HM.out]; rfl, (by (repeat (first | exact Below.refl _ _ | (refine Below.setCell ?_ (by first | omega | (simp; omega) | simp) _) | (refine Below.alloc ?_ (by first | omega | (simp; omega) | simp) _) | apply Below.drew | apply below_drewN)))⟩
  · by_cases h3 : a = 3
    · subst h3
      have hq := run_eql_rp 3 b c d s 3 0 0 0 0
      have HM := Lib.hid (may3 b c d s)
      go_enter Try.func23, Try.ntmps23
      go_wp2_with fail
      go_ret
      exact ⟨by rw [HM.out]; rfl, (by (repeat (first | exact Below.refl _ _ | (refine Below.setCell ?_ (by first | omega | (simp; omega) | simp) _) | (refine Below.alloc ?_ (by first | omega | (simp; omega) | simp) _) | apply Below.drew | apply below_drewN)))⟩
    · by_cases h1 : a = 1
      · subst h1
        have hq := run_eql_rp 1 b c d s 1 b 0 0 0
        have HM := Lib.hid (may1 b c d s)
        cases he : eqPg (1, b, c, d, s) (1, b, 0, 0, 0)
        · go_enter Try.func23, Try.ntmps23
          go_wp2_with fail
          go_ret
          exact ⟨by rw [HM.out, he]; rfl, (by (repeat (first | exact Below.refl _ _ | (refine Below.setCell ?_ (by first | omega | (simp; omega) | simp) _) | (refine Below.alloc ?_ (by first | omega | (simp; omega) | simp) _) | apply Below.drew | apply below_drewN)))⟩
        · go_enter Try.func23, Try.ntmps23
          go_wp2_with fail
          refine (rsize_any b _).mono ?_
          rintro e w1 ⟨rfl, rfl⟩
          go_wp2_with fail
          go_ret
          exact ⟨by rw [HM.out, he]; rfl, (by (repeat (first | exact Below.refl _ _ | (refine Below.setCell ?_ (by first | omega | (simp; omega) | simp) _) | (refine Below.alloc ?_ (by first | omega | (simp; omega) | simp) _) | apply Below.drew | apply below_drewN)))⟩
      · by_cases h2 : a = 2
        · subst h2
          have HM := Lib.hid (may2 b c d s)
          cases hl : longB d
          · have hlong : d < 121 ∨ 4096 < d := by unfold longB at hl; simp at hl; omega
            go_enter Try.func23, Try.ntmps23
            go_wp2_with fail
            refine (rpages_no d _ hlong).mono ?_
            rintro e w1 ⟨rfl, rfl⟩
            go_wp2_with fail
            go_ret
            exact ⟨by rw [HM.out, hl]; rfl, (by (repeat (first | exact Below.refl _ _ | (refine Below.setCell ?_ (by first | omega | (simp; omega) | simp) _) | (refine Below.alloc ?_ (by first | omega | (simp; omega) | simp) _) | apply Below.drew | apply below_drewN)))⟩
          · have hlong : 121 ≤ d ∧ d ≤ 4096 := by unfold longB at hl; simpa using hl
            obtain ⟨P, hP⟩ : ∃ P, P = pagesC d := ⟨_, rfl⟩
            have HP := Lib.hid hP
            clear hP
            by_cases hc : c = P
            · have hc' : (c == P) = true := by simp [hc]
              by_cases hb : b = 0
              · have hcase : s ≤ 0 ∨ (0 < s ∧ s < 281474976710656) ∨ (0 < s ∧ 281474976710656 ≤ s) := by omega
                have HC := Lib.hid hc
                clear hc
                subst hb
                rcases hcase with h | ⟨h, h'⟩ | ⟨h, h'⟩
                all_goals
                  go_enter Try.func23, Try.ntmps23
                  go_wp2_with fail
                  refine (rpages_yes d _ hlong.1 hlong.2).mono ?_
                  rintro e w1 ⟨rfl, rfl⟩
                  rw [← HP.out]
                  go_wp2_with fail
                  go_ret
                  refine ⟨?_, (by (repeat (first | exact Below.refl _ _ | (refine Below.setCell ?_ (by first | omega | (simp; omega) | simp) _) | (refine Below.alloc ?_ (by first | omega | (simp; omega) | simp) _) | apply Below.drew | apply below_drewN)))⟩
                  rw [HM.out, hl, ← HP.out, decide_eq_true HC.out]
                  refine ret_bool ?_
                  symm
                  simp
                  omega
              · have hb' : (b == 0) = false := by simp [hb]
                have HR := Lib.hid (show mayB (2, b, c, d, s) = false by rw [HM.out, decide_eq_false hb]; simp)
                clear hc hb
                go_enter Try.func23, Try.ntmps23
                go_wp2_with fail
                refine (rpages_yes d _ hlong.1 hlong.2).mono ?_
                rintro e w1 ⟨rfl, rfl⟩
                rw [← HP.out]
                go_wp2_with fail
                go_ret
                exact ⟨by rw [HR.out]; rfl, (by (repeat (first | exact Below.refl _ _ | (refine Below.setCell ?_ (by first | omega | (simp; omega) | simp) _) | (refine Below.alloc ?_ (by first | omega | (simp; omega) | simp) _) | apply Below.drew | apply below_drewN)))⟩
            · have hc' : (c == P) = false := by simp [hc]
              have HR := Lib.hid (show mayB (2, b, c, d, s) = false by rw [HM.out, ← HP.out, decide_eq_false hc]; simp)
              clear hc
              go_enter Try.func23, Try.ntmps23
              go_wp2_with fail
              refine (rpages_yes d _ hlong.1 hlong.2).mono ?_
              rintro e w1 ⟨rfl, rfl⟩
              rw [← HP.out]
              go_wp2_with fail
              go_ret
              exact ⟨by rw [HR.out]; rfl, (by (repeat (first | exact Below.refl _ _ | (refine Below.setCell ?_ (by first | omega | (simp; omega) | simp) _) | (refine Below.alloc ?_ (by first | omega | (simp; omega) | simp) _) | apply Below.drew | apply below_drewN)))⟩
        · have e0 : (a == 0) = false := by simp [h0]
          have e1 : (a == 1) = false := by simp [h1]
          have e2 : (a == 2) = false := by simp [h2]
          have e3 : (a == 3) = false := by simp [h3]
          have HR := Lib.hid (mayx a b c d s h0 h1 h2 h3)
          clear h0 h1 h2 h3
          go_enter Try.func23, Try.ntmps23
          go_wp2_with fail
          go_ret
          exact ⟨by rw [HR.out]; rfl, (by (repeat (first | exact Below.refl _ _ | (refine Below.setCell ?_ (by first | omega | (simp; omega) | simp) _) | (refine Below.alloc ?_ (by first | omega | (simp; omega) | simp) _) | apply Below.drew | apply below_drewN)))⟩

theorem want_left : ∀ (r : List Pg) (x y : Int), r.any badB = false → 0 ≤ x → x ≤ 15 → wantF x r = some y → x ≤ y + r.length
  | [], x, y, _, _, _, h => by simp [wantF] at h; simp; omega
  | p :: r, x, y, hb, h0, h1, h => by
    have hy := want_range _ x y hb h0 h1 h
    have hr : r.any badB = false := by rw [List.any_cons, Bool.or_eq_false_iff] at hb; exact hb.2
    rw [List.length_cons]
    by_cases hx : x > 0
    · rw [wantF] at h
      split at h
      · have := want_left r (x - 1) y hr (by omega) (by omega) h
        omega
      · cases h
    · omega
theorem want_split : ∀ (l1 l2 : List Pg) (x : Int), wantF x (l1 ++ l2) = match wantF x l1 with | some y => wantF y l2 | none => none
  | [], l2, x => by simp [wantF]
  | p :: l1, l2, x => by
    rw [List.cons_append, wantF, wantF]
    split
    · exact want_split l1 l2 _
    · rfl
theorem okL_parts {l : List Pg} (h : okL l = true) : l.length ≤ 64 ∧ l.any badB = false ∧ wantF 0 l = some 0 := by
  unfold okL at h
  simp only [Bool.and_eq_true, decide_eq_true_eq, Bool.not_eq_true'] at h
  exact ⟨h.1, h.2.1, h.2.2⟩
theorem okL_bad {l : List Pg} {k : Nat} {p : Pg} (hp : l[k]? = some p) (h : mayB p = false) : okL l = false := by
  cases ho : okL l
  · rfl
  · exfalso
    have h2 := (okL_parts ho).2.1
    rw [List.any_eq_false] at h2
    have := h2 p (List.mem_of_getElem? hp)
    simp [badB, h] at this
theorem okL_none {l : List Pg} {k : Nat} {p : Pg} (hp : l[k]? = some p) (h : wantF 0 (l.take (k + 1)) = none) : okL l = false := by
  cases ho : okL l
  · rfl
  · exfalso
    have h2 := (okL_parts ho).2.2
    rw [want_none_take hp h] at h2
    cases h2
theorem okL_room {l : List Pg} {k : Nat} {y : Int} (h : wantF 0 (l.take k) = some y) (hk : k ≤ l.length) (hy : (l.length : Int) - k < y) : okL l = false := by
  cases ho : okL l
  · rfl
  · exfalso
    have h2 := (okL_parts ho).2.2
    rw [← List.take_append_drop k l, want_split, h] at h2
    have hnb := (okL_parts ho).2.1
    rw [List.any_eq_false] at hnb
    have hy2 := want_range _ 0 y (by rw [List.any_eq_false]; exact fun x hx => hnb x (List.mem_of_mem_take hx)) (by omega) (by omega) h
    have := want_left _ _ _ (by rw [List.any_eq_false]; exact fun x hx => hnb x (List.mem_of_mem_drop hx)) hy2.1 hy2.2 h2
    rw [List.length_drop] at this
    omega
theorem tail_of {p : Pg} (h : mayB p = true) : tailB p = decide (p.1 = 3) := by
  obtain ⟨a, b, c, d, s⟩ := p
  simp only
  by_cases h3 : a = 3
  · subst h3
    rw [may3] at h
    unfold tailB
    rw [h]
    rfl
  · unfold tailB eqPg
    simp [h3]

set_option maxRecDepth 100000 in
set_option maxHeartbeats 8000000 in
theorem rmay_any (A : Option Addr) (n c : Nat) (l : List Pg) (w : World) (hr : RdG pgE w A n l) (hn : n ≤ 1000000) :
    Calls Try.prog 18 #[.slice A n c] w fun e w' => e = .returned (.bool (okL l)) ∧ Below w.heap.size w w' := by
  have hlen := hr.len
  by_cases h64 : n ≤ 64
  · go_enter Try.func18, Try.ntmps18
    go_wp2_with fail
    go_loopw [3] (fun i wr => ∃ k : Nat, k ≤ n ∧ i = .int .i64 k ∧ (l.take k).any badB = false ∧ wantF 0 (l.take k) = some 0 ∧ Below w.heap.size w wr) (fun i _ => n - (intOf i).toNat)
    case atStart => exact ⟨0, by omega, rfl, rfl, rfl, Below.refl _ _⟩
    case round =>
      obtain ⟨k, hk, rfl, hnb, hw0, hbel⟩ := hrel
      have HNB := Lib.hid hnb
      have HW := Lib.hid hw0
      clear hnb hw0
      by_cases hlt : k < n
      · obtain ⟨b, off, p, rfl, hbk, hp, hcell⟩ := (hr.below hbel).at_ hlt
        have c0 := hcell 0 _ rfl
        have c1 := hcell 1 _ rfl
        have c2 := hcell 2 _ rfl
        have c3 := hcell 3 _ rfl
        have c4 := hcell 4 _ rfl
        simp only [show pgE.sz = 5 from rfl, Nat.add_zero] at c0 c1 c2 c3 c4
        have HP := Lib.hid hp
        have hst := Lib.hid (show wantF 0 (l.take (k + 1)) = wantF 0 [p] by rw [take_step hp, wantF_snoc, HW.out])
        have hst2 := Lib.hid (show (l.take (k + 1)).any badB = badB p by rw [take_step hp, List.any_append, HNB.out]; simp)
        clear hcell hp
        obtain ⟨p1, p2, p3, p4, p5⟩ := p
        go_wp2_with fail
        refine (rone_any _ _ _ _ _ _).mono ?_
        rintro e w2 ⟨rfl, hb2⟩
        have hbel2 : Below w.heap.size w w2 := (by (have q_hb2 := Below.size hb2; (try simp at q_hb2); have q_hbel := Below.size hbel; (try simp at q_hbel); repeat (first | exact Below.refl _ _ | (refine Below.trans ?_ (Below.mono hb2 (by first | omega | (simp; omega) | simp))) | (refine Below.trans ?_ (Below.mono hbel (by first | omega | (simp; omega) | simp))) | (refine Below.setCell ?_ (by first | omega | (simp; omega) | simp) _) | (refine Below.alloc ?_ (by first | omega | (simp; omega) | simp) _) | apply Below.drew | apply below_drewN)))
        have d0 := (hb2.cell (p := ⟨b, off + k * 5, none⟩) hbk).trans c0
        have d2 := (hb2.cell (p := ⟨b, off + k * 5 + 2, none⟩) hbk).trans c2
        clear c0 c1 c2 c3 c4
        cases hm : mayB (p1, p2, p3, p4, p5)
        · have hno := Lib.hid (okL_bad HP.out hm)
          go_wp2_with fail
          go_ret
          exact ⟨by rw [hno.out]; rfl, hbel2⟩
        · have htl := tail_of hm
          simp only at htl
          have hbad : badB (p1, p2, p3, p4, p5) = false := by unfold badB; rw [hm]; rfl
          have hrun := may_run hbad
          simp only at hrun
          by_cases h3 : p1 = 3
          · have hno := Lib.hid (okL_none HP.out (show wantF 0 (l.take (k + 1)) = none by rw [hst.out, wantF, htl, h3]; simp))
            subst h3
            clear htl hbad hrun
            go_wp2_with fail
            go_ret
            exact ⟨by rw [hno.out]; rfl, hbel2⟩
          · have e3 : (p1 == 3) = false := by simp [h3]
            rw [decide_eq_false h3] at htl
            have hw1 := Lib.hid (show wantF 0 (l.take (k + 1)) = some (if p1 = 2 then p3 - 1 else 0) by rw [hst.out, wantF, htl]; simp [wantF])
            have hbb := Lib.hid (show (l.take (k + 1)).any badB = false by rw [hst2.out, hbad])
            clear h3 htl hbad hst hst2
            by_cases hp2 : p1 = 2
            · subst hp2
              obtain ⟨hr1, hr2⟩ := hrun rfl
              obtain ⟨R, rfl⟩ := Int.eq_ofNat_of_zero_le (show 0 ≤ p3 by omega)
              have hw2 := Lib.hid (show wantF 0 (l.take (k + 1)) = some ((R : Int) - 1) by rw [hw1.out]; rfl)
              clear hw1 hrun
              have q0 : (0 : Int) ≤ k := by omega
              by_cases hroom : (n : Int) - k < R
              · have hno := Lib.hid (okL_room hw2.out (by omega) (by rw [hlen]; omega))
                go_wp2_with fail
                go_ret
                exact ⟨by rw [hno.out]; rfl, hbel2⟩
              · have hkR : k + R ≤ n := by omega
                have q1 : (R : Int) ≤ (n : Int) - k := by omega
                clear hroom
                go_wp2_with fail
                go_loopw [5] (fun i wr => ∃ j : Nat, 1 ≤ j ∧ j ≤ R ∧ i = .int .i64 ((k : Int) + j) ∧ (l.take (k + j)).any badB = false ∧ wantF 0 (l.take (k + j)) = some ((R : Int) - j) ∧ Below w.heap.size w wr) (fun i _ => k + R - (intOf i).toNat)
                case atStart => exact ⟨1, by omega, by omega, rfl, hbb.out, hw2.out, hbel2⟩
                case round =>
                  obtain ⟨j, hj1, hj2, rfl, hnb, hwj, hbj⟩ := hrel
                  have HNJ := Lib.hid hnb
                  have HWJ := Lib.hid hwj
                  clear hnb hwj hbb hw2
                  by_cases hjR : j < R
                  · obtain ⟨b', off', q, hA', hbk', hq, hcell⟩ := (hr.below hbj).at_ (show k + j < n by omega)
                    injection hA' with hA'
                    injection hA' with e1' e2'
                    subst e1' e2'
                    have c0 := hcell 0 _ rfl
                    have c1 := hcell 1 _ rfl
                    have c2 := hcell 2 _ rfl
                    have c3 := hcell 3 _ rfl
                    have c4 := hcell 4 _ rfl
                    simp only [show pgE.sz = 5 from rfl, Nat.add_zero] at c0 c1 c2 c3 c4
                    have HQ := Lib.hid hq
                    have hst := Lib.hid (show wantF 0 (l.take (k + j + 1)) = wantF ((R : Int) - j) [q] by rw [take_step hq, wantF_snoc, HWJ.out])
                    have hst2 := Lib.hid (show (l.take (k + j + 1)).any badB = badB q by rw [take_step hq, List.any_append, HNJ.out]; simp)
                    clear hcell hq
                    obtain ⟨q1', q2', q3', q4', q5'⟩ := q
                    have g1 : (0 : Int) ≤ (k : Int) + j := by omega
                    have g2 : ((k : Int) + j).toNat = k + j := by omega
                    have g3 : (k : Int) + j < n := by omega
                    go_wp2_with fail
                    refine (rone_any _ _ _ _ _ _).mono ?_
                    rintro e w3 ⟨rfl, hb3⟩
                    have hbel3 : Below w.heap.size w w3 := (by (have q_hb3 := Below.size hb3; (try simp at q_hb3); have q_hbj := Below.size hbj; (try simp at q_hbj); repeat (first | exact Below.refl _ _ | (refine Below.trans ?_ (Below.mono hb3 (by first | omega | (simp; omega) | simp))) | (refine Below.trans ?_ (Below.mono hbj (by first | omega | (simp; omega) | simp))) | (refine Below.setCell ?_ (by first | omega | (simp; omega) | simp) _) | (refine Below.alloc ?_ (by first | omega | (simp; omega) | simp) _) | apply Below.drew | apply below_drewN)))
                    have d0 := (hb3.cell (p := ⟨b, off + (k + j) * 5, none⟩) hbk').trans c0
                    clear c0 c1 c2 c3 c4
                    cases hmq : mayB (q1', q2', q3', q4', q5')
                    · have hno := Lib.hid (okL_bad HQ.out hmq)
                      go_wp2_with fail
                      go_ret
                      exact ⟨by rw [hno.out]; rfl, hbel3⟩
                    · have htl := tail_of hmq
                      simp only at htl
                      by_cases h3 : q1' = 3
                      · rw [decide_eq_true h3] at htl
                        have hn1 := Lib.hid (show wantF 0 (l.take (k + j + 1)) = some ((R : Int) - j - 1) by rw [hst.out, wantF, htl, if_pos (by simp; omega), if_pos (by omega)]; rfl)
                        have hn2 := Lib.hid (show (l.take (k + j + 1)).any badB = false by rw [hst2.out]; unfold badB; rw [hmq]; rfl)
                        subst h3
                        clear hst hst2 htl
                        go_wp2_with fail
                        go_roundw
                        case rel => exact ⟨j + 1, by omega, by omega, int_eq (by omega), hn2.out, by rw [show k + (j + 1) = k + j + 1 from rfl, hn1.out]; congr 1; omega, hbel3⟩
                        case measure => simp [intOf]; omega
                      · have e3' : (q1' == 3) = false := by simp [h3]
                        have e3'' : (q1' != 3) = true := by simp [h3]
                        rw [decide_eq_false h3] at htl
                        have hno := Lib.hid (okL_none HQ.out (show wantF 0 (l.take (k + j + 1)) = none by rw [hst.out, wantF, htl, if_neg (by simp; omega)]))
                        clear h3 hst hst2 htl
                        go_wp2_with fail
                        go_ret
                        exact ⟨by rw [hno.out]; rfl, hbel3⟩
                  · obtain rfl : j = R := by omega
                    have hn1 := Lib.hid (show wantF 0 (l.take (k + j)) = some 0 by rw [HWJ.out]; congr 1; omega)
                    go_wp2_with fail
                    go_roundw
                    case rel => exact ⟨k + j, by omega, int_eq (by omega), HNJ.out, hn1.out, hbj⟩
                    case measure => simp [intOf] <;> omega
            · have e2 : (p1 == 2) = false := by simp [hp2]
              have hw2 := Lib.hid (show wantF 0 (l.take (k + 1)) = some 0 by rw [hw1.out, if_neg hp2])
              clear hw1 hp2 hrun
              have q1 : ¬ ((n : Int) - k < 1) := by omega
              go_wp2_with fail
              refine wp_loop_rounds 1 ?_; rw [rounds_succ]
              go_wp2_with fail
              go_roundw
              case rel => exact ⟨k + 1, by omega, int_eq (by omega), hbb.out, hw2.out, hbel2⟩
              case measure => simp [intOf] <;> omega
      · obtain rfl : k = n := by omega
        have hyes := Lib.hid (show okL l = true by
          have h1 := HNB.out
          have h2 := HW.out
          rw [List.take_of_length_le (by omega)] at h1 h2
          unfold okL
          rw [h1, h2, decide_eq_true (by omega)]
          rfl)
        go_wp2_with fail
        go_ret
        exact ⟨by rw [hyes.out]; rfl, hbel⟩
  · have hno := Lib.hid (show okL l = false by unfold okL; rw [decide_eq_false (by omega)]; rfl)
    go_enter Try.func18, Try.ntmps18
    go_wp2_with fail
    go_ret
    exact ⟨by rw [hno.out]; rfl, Below.refl _ _⟩
end Go.Proofs.Ytidlcplamgajpaa
