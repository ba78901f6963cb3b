/- Pages: which lists may be; an object's pages taken. -/
import Derived.Test.YtidlcplamgajpaaPages5

namespace Go.Proofs.Ytidlcplamgajpaa
open Go.RowKit

/-- How many tails must still come, behind pages; none: they may not be. -/
def wantF : Int → List Pg → Option Int
  | x, [] => some x
  | x, p :: r => if decide (x > 0) = tailB p then wantF (if x > 0 then x - 1 else if p.1 = 2 then p.2.2.1 - 1 else x) r else none
theorem wantF_snoc : ∀ (l : List Pg) (x : Int) (p : Pg), wantF x (l ++ [p]) = match wantF x l with | some y => wantF y [p] | none => none
  | [], x, p => by simp [wantF]
  | q :: l, x, p => by
    rw [List.cons_append, wantF, wantF]
    split
    · exact wantF_snoc l _ p
    · rfl
/-- May a list of pages be? -/
def okL (l : List Pg) : Bool := decide (l.length ≤ 64) && (!l.any badB && decide (wantF 0 l = some 0))
/-- Check's answer. -/
def chkE (l : List Pg) : Int := if okL l = true then 0 else 4
theorem may_run {p : Pg} (h : badB p = false) (h2 : p.1 = 2) : 1 ≤ p.2.2.1 ∧ p.2.2.1 ≤ 16 := by
  have hm : mayB p = true := by simpa [badB] using h
  obtain ⟨a, b, c, d, s⟩ := p
  simp only at h2
  subst h2
  unfold mayB freeB slotsB headB tailB eqPg longB pagesC at hm
  simp at hm
  simp only []
  omega
theorem want_range : ∀ (l : List Pg) (x y : Int), l.any badB = false → 0 ≤ x → x ≤ 15 → wantF x l = some y → 0 ≤ y ∧ y ≤ 15
  | [], x, y, _, h0, h1, h => by simp [wantF] at h; omega
  | p :: l, x, y, hb, h0, h1, h => by
    rw [List.any_cons, Bool.or_eq_false_iff] at hb
    rw [wantF] at h
    split at h
    · refine want_range l _ y hb.2 ?_ ?_ h
      · split
        · omega
        · split
          · have := may_run hb.1 (by assumption); omega
          · exact h0
      · split
        · omega
        · split
          · have := may_run hb.1 (by assumption); omega
          · exact h1
    · cases h
theorem want_none_take {l : List Pg} {x : Int} {k : Nat} {p : Pg} (hk : l[k]? = some p) (h : wantF x (l.take (k + 1)) = none) : wantF x l = none := by
  have : ∀ (l1 l2 : List Pg) (x : Int), wantF x l1 = none → wantF x (l1 ++ l2) = none := by
    intro l1
    induction l1 with
    | nil => intro l2 x h; simp [wantF] at h
    | cons q l1 ih =>
      intro l2 x h
      rw [List.cons_append, wantF]
      rw [wantF] at h
      split
      · rename_i hq
        rw [if_pos hq] at h
        exact ih l2 _ h
      · rfl
  rw [← List.take_append_drop (k + 1) l]
  exact this _ _ _ h

set_option maxRecDepth 100000 in
set_option maxHeartbeats 4000000 in
theorem check_any (A : Option Addr) (n c : Nat) (l : List Pg) (w : World) (hr : RdG pgE w A n l) (hn : n ≤ 1000000) :
    Calls Try.prog 17 #[.slice A n c] w fun e w' => e = .returned (.int .i64 (chkE l)) ∧ Below w.heap.size w w' := by
  have hlen := hr.len
  by_cases h64 : n ≤ 64
  · cases hb : l.any badB
    · go_enter Try.func17, Try.ntmps17
      go_wp2_with fail
      refine (any_bad A n c l _ hr (by unfold maxLen; omega)).mono ?_
      rintro e w1 ⟨rfl, hb1⟩
      have HB := Lib.hid hb
      rw [HB.out]
      go_wp2_with fail
      go_loopw [3, 15] (fun v i wr => ∃ (k : Nat) (x : Int), k ≤ n ∧ i = .int .i64 k ∧ v = .int .i64 x ∧ wantF 0 (l.take k) = some x ∧ 0 ≤ x ∧ x ≤ 15 ∧ Below w.heap.size w wr ∧ Below w1.heap.size w1 wr) (fun _ i _ => n - (intOf i).toNat)
      case atStart => exact ⟨0, 0, by omega, rfl, rfl, rfl, by omega, by omega, hb1, Below.refl _ _⟩
      case round =>
        obtain ⟨k, x, hk, rfl, rfl, hwant, hx0, hx1, hbel, hbel1⟩ := hrel
        have HW := Lib.hid hwant
        clear hwant
        by_cases hlt : k < n
        · obtain ⟨b, off, p, rfl, hbk, hp, hcell⟩ := (hr.below hbel).at_ hlt
          have c0 := hcell 0 _ rfl
          have c1 := hcell 1 _ rfl
          have c2 := hcell 2 _ rfl
          have c3 := hcell 3 _ rfl
          have c4 := hcell 4 _ rfl
          simp only [show pgE.sz = 5 from rfl, Nat.add_zero] at c0 c1 c2 c3 c4
          have hst := Lib.hid (show wantF 0 (l.take (k + 1)) = wantF x [p] by rw [take_step hp, wantF_snoc, HW.out])
          have hbad : badB p = false := by
            have := HB.out
            rw [List.any_eq_false] at this
            have := this p (List.mem_of_getElem? hp)
            simpa using this
          have hrun : p.1 = 2 → 1 ≤ p.2.2.1 ∧ p.2.2.1 ≤ 16 := may_run hbad
          have HP := Lib.hid hp
          clear hcell hp hbad
          obtain ⟨p1, p2, p3, p4, p5⟩ := p
          go_wp2_with fail
          refine (tail_any _ _ _ _ _ _).mono ?_
          rintro e w2 ⟨rfl, hb2⟩
          have Bp := (Blk.new wr 65 #[.int .i64 p1, .int .i64 p2, .int .i64 p3, .int .i64 p4, .int .u64 p5]).on hb2
          have cp := Bp.cell
          have hq : wantF x [(p1, p2, p3, p4, p5)] = if decide (x > 0) = tailB (p1, p2, p3, p4, p5) then some (if x > 0 then x - 1 else if p1 = 2 then p3 - 1 else x) else none := by
            rw [wantF]; split <;> simp [wantF]
          rw [hq] at hst
          clear hq
          have hbelN : Below w.heap.size w w2 := (by (have q_hb2 := Below.size hb2; (try simp at q_hb2); have q_hbel := Below.size hbel; (try simp at q_hbel); repeat (first | exact Below.refl _ _ | (refine Below.trans ?_ (Below.mono hb2 (by first | omega | (simp; omega) | simp))) | (refine Below.trans ?_ (Below.mono hbel (by first | omega | (simp; omega) | simp))) | (refine Below.setCell ?_ (by first | omega | (simp; omega) | simp) _) | (refine Below.alloc ?_ (by first | omega | (simp; omega) | simp) _) | apply Below.drew | apply below_drewN)))
          have hbel1N : Below w1.heap.size w1 w2 := (by (have q_hb2 := Below.size hb2; (try simp at q_hb2); have q_hbel1 := Below.size hbel1; (try simp at q_hbel1); repeat (first | exact Below.refl _ _ | (refine Below.trans ?_ (Below.mono hb2 (by first | omega | (simp; omega) | simp))) | (refine Below.trans ?_ (Below.mono hbel1 (by first | omega | (simp; omega) | simp))) | (refine Below.setCell ?_ (by first | omega | (simp; omega) | simp) _) | (refine Below.alloc ?_ (by first | omega | (simp; omega) | simp) _) | apply Below.drew | apply below_drewN)))
          clear c0 c1 c2 c3 c4
          by_cases hxp : 0 < x
          · cases ht : tailB (p1, p2, p3, p4, p5)
            · have hno := Lib.hid (show chkE l = 4 by
                have h1 := hst.out
                rw [ht, if_neg (by simp [hxp])] at h1
                have := want_none_take HP.out h1
                unfold chkE okL
                simp [this])
              clear hst
              go_wp2_with fail
              go_ret
              exact ⟨by rw [hno.out]; rfl, hbelN⟩
            · have h1 := hst.out
              rw [ht, if_pos (by simp [hxp]), if_pos hxp] at h1
              have H1 := Lib.hid h1
              clear hst h1
              go_wp2_with fail
              go_roundw
              case rel => exact ⟨k + 1, x - 1, by omega, by go_num, rfl, H1.out, by omega, by omega, hbelN, hbel1N⟩
              case measure => simp [intOf] <;> omega
          · obtain rfl : x = 0 := by omega
            cases ht : tailB (p1, p2, p3, p4, p5)
            · have h1 := hst.out
              rw [ht, if_pos (by simp), if_neg (by omega)] at h1
              have H1 := Lib.hid h1
              clear hst h1 hxp
              by_cases hp2 : p1 = 2
              · have hr2 := hrun hp2
                subst hp2
                clear hrun
                go_wp2_with fail
                go_roundw
                case rel => exact ⟨k + 1, p3 - 1, by omega, by go_num, rfl, by rw [H1.out]; rfl, by omega, by omega, hbelN, hbel1N⟩
                case measure => simp [intOf] <;> omega
              · have hq2 : (p1 == 2) = false := by simp [hp2]
                have H2 := Lib.hid (show (if p1 = 2 then p3 - 1 else (0 : Int)) = 0 by rw [if_neg hp2])
                clear hrun hp2
                go_wp2_with fail
                go_roundw
                case rel => exact ⟨k + 1, 0, by omega, by go_num, rfl, by rw [H1.out, H2.out], by omega, by omega, hbelN, hbel1N⟩
                case measure => simp [intOf] <;> omega
            · have hno := Lib.hid (show chkE l = 4 by
                have h1 := hst.out
                rw [ht, if_neg (by simp)] at h1
                have := want_none_take HP.out h1
                unfold chkE okL
                simp [this])
              clear hst
              go_wp2_with fail
              go_ret
              exact ⟨by rw [hno.out]; rfl, hbelN⟩
        · obtain rfl : k = n := by omega
          have hT := HW.out
          rw [List.take_of_length_le (by omega)] at hT
          by_cases hxp : 0 < x
          · have hno := Lib.hid (show chkE l = 4 by unfold chkE; rw [if_neg]; unfold okL; rw [hT]; simp; intro _ _; omega)
            clear hT
            go_wp2_with fail
            go_ret
            exact ⟨by rw [hno.out]; rfl, hbel⟩
          · obtain rfl : x = 0 := by omega
            have hyes := Lib.hid (show chkE l = 0 by unfold chkE; rw [if_pos]; unfold okL; rw [hT, HB.out, decide_eq_true (by omega)]; rfl)
            clear hT
            go_wp2_with fail
            go_ret
            exact ⟨by rw [hyes.out]; rfl, hbel⟩
    · have hno := Lib.hid (show chkE l = 4 by unfold chkE; rw [if_neg]; unfold okL; rw [hb]; simp)
      go_enter Try.func17, Try.ntmps17
      go_wp2_with fail
      refine (any_bad A n c l _ hr (by unfold maxLen; omega)).mono ?_
      rintro e w1 ⟨rfl, hb1⟩
      rw [hb]
      go_wp2_with fail
      go_ret
      exact ⟨by rw [hno.out]; rfl, hb1⟩
  · have hno := Lib.hid (show chkE l = 4 by unfold chkE; rw [if_neg]; unfold okL; rw [decide_eq_false (by omega)]; simp)
    go_enter Try.func17, Try.ntmps17
    go_wp2_with fail
    go_ret
    exact ⟨by rw [hno.out]; rfl, Below.refl _ _⟩
end Go.Proofs.Ytidlcplamgajpaa
