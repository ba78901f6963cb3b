/- Pages: which may be; a list of pages looked through. -/
import Derived.Test.YtidlcplamgajpaaPages

namespace Go.Proofs.Ytidlcplamgajpaa
open Go.RowKit

/-- Is it one of the four, from number k on? -/
def mayF (p : Pg) : Nat → Bool
  | 0 => mayB p
  | 1 => slotsB p || (headB p || tailB p)
  | 2 => headB p || tailB p
  | 3 => tailB p
  | _ => false
theorem mayF0 (p : Pg) : mayF p 0 = (freeB p || (slotsB p || (headB p || tailB p))) := rfl

set_option maxHeartbeats 2000000 in
theorem mayP_any (a b c d s : Int) (w : World) :
    Calls Try.prog 55 #[.agg #[.int .i64 a, .int .i64 b, .int .i64 c, .int .i64 d, .int .u64 s]] w fun e w' => e = .returned (.bool (mayB (a, b, c, d, s))) ∧ Below w.heap.size w w' := by
  go_enter Try.func55, Try.ntmps55
  go_wp2_with fail
  go_loopw [7] (fun i wr => ∃ k : Nat, k ≤ 4 ∧ i = .int .i64 k ∧ mayF (a, b, c, d, s) k = mayB (a, b, c, d, s) ∧ Blk wr w.heap.size 65 #[.int .i64 a, .int .i64 b, .int .i64 c, .int .i64 d, .int .u64 s] ∧
    Blk wr (w.heap.size + 1) 73 #[.func (Fn.func 28) #[] #[], .func (Fn.func 62) #[] #[], .func (Fn.func 63) #[] #[], .func (Fn.func 36) #[] #[]] ∧ Below w.heap.size w wr) (fun i _ => 4 - (intOf i).toNat)
  case atStart => exact ⟨0, by omega, rfl, rfl, (Blk.new w _ _).alloc _, by simpa using Blk.new (w.alloc _) _ _, (by (repeat (first | exact Below.refl _ _ | (refine Below.setCell ?_ (by first | omega | (simp; omega) | simp) _) | (refine Below.alloc ?_ (by first | omega | (simp; omega) | simp) _) | apply Below.drew | apply below_drewN)))⟩
  case round =>
    obtain ⟨k, hk, rfl, hm, hP, hF, hbel⟩ := hrel
    have cp := hP.cell
    have cf := hF.cell
    have zF := hF.lt
    have hcases : k = 0 ∨ k = 1 ∨ k = 2 ∨ k = 3 ∨ k = 4 := by omega
    rcases hcases with rfl | rfl | rfl | rfl | rfl
    · have hm0 : mayF (a, b, c, d, s) 0 = mayB (a, b, c, d, s) := hm
      have HM := Lib.hid hm0
      clear hm hm0
      go_wp2_with fail
      refine (free_any a b c d s _).mono ?_
      rintro e w1 ⟨rfl, hb1⟩
      cases hx : freeB (a, b, c, d, s)
      · go_wp2_with fail
        go_roundw
        case rel => exact ⟨1, by omega, rfl, by rw [← HM.out]; simp [mayF, mayB, hx], hP.on hb1, hF.on hb1, (by (have q_hb1 := Below.size hb1; (try simp at q_hb1); have q_hbel := Below.size hbel; (try simp at q_hbel); repeat (first | exact Below.refl _ _ | (refine Below.trans ?_ (Below.mono hb1 (by first | omega | (simp; omega) | simp))) | (refine Below.trans ?_ (Below.mono hbel (by first | omega | (simp; omega) | simp))) | (refine Below.setCell ?_ (by first | omega | (simp; omega) | simp) _) | (refine Below.alloc ?_ (by first | omega | (simp; omega) | simp) _) | apply Below.drew | apply below_drewN)))⟩
        case measure => simp [intOf]
      · go_wp2_with fail
        go_ret
        exact ⟨by rw [← HM.out]; simp [mayF, mayB, hx], (by (have q_hb1 := Below.size hb1; (try simp at q_hb1); have q_hbel := Below.size hbel; (try simp at q_hbel); repeat (first | exact Below.refl _ _ | (refine Below.trans ?_ (Below.mono hb1 (by first | omega | (simp; omega) | simp))) | (refine Below.trans ?_ (Below.mono hbel (by first | omega | (simp; omega) | simp))) | (refine Below.setCell ?_ (by first | omega | (simp; omega) | simp) _) | (refine Below.alloc ?_ (by first | omega | (simp; omega) | simp) _) | apply Below.drew | apply below_drewN)))⟩
    · have hm0 : mayF (a, b, c, d, s) 1 = mayB (a, b, c, d, s) := hm
      have HM := Lib.hid hm0
      clear hm hm0
      go_wp2_with fail
      refine (slotsP_any a b c d s _).mono ?_
      rintro e w1 ⟨rfl, hb1⟩
      cases hx : slotsB (a, b, c, d, s)
      · go_wp2_with fail
        go_roundw
        case rel => exact ⟨2, by omega, rfl, by rw [← HM.out]; simp [mayF, hx], hP.on hb1, hF.on hb1, (by (have q_hb1 := Below.size hb1; (try simp at q_hb1); have q_hbel := Below.size hbel; (try simp at q_hbel); repeat (first | exact Below.refl _ _ | (refine Below.trans ?_ (Below.mono hb1 (by first | omega | (simp; omega) | simp))) | (refine Below.trans ?_ (Below.mono hbel (by first | omega | (simp; omega) | simp))) | (refine Below.setCell ?_ (by first | omega | (simp; omega) | simp) _) | (refine Below.alloc ?_ (by first | omega | (simp; omega) | simp) _) | apply Below.drew | apply below_drewN)))⟩
        case measure => simp [intOf]
      · go_wp2_with fail
        go_ret
        exact ⟨by rw [← HM.out]; simp [mayF, hx], (by (have q_hb1 := Below.size hb1; (try simp at q_hb1); have q_hbel := Below.size hbel; (try simp at q_hbel); repeat (first | exact Below.refl _ _ | (refine Below.trans ?_ (Below.mono hb1 (by first | omega | (simp; omega) | simp))) | (refine Below.trans ?_ (Below.mono hbel (by first | omega | (simp; omega) | simp))) | (refine Below.setCell ?_ (by first | omega | (simp; omega) | simp) _) | (refine Below.alloc ?_ (by first | omega | (simp; omega) | simp) _) | apply Below.drew | apply below_drewN)))⟩
    · have hm0 : mayF (a, b, c, d, s) 2 = mayB (a, b, c, d, s) := hm
      have HM := Lib.hid hm0
      clear hm hm0
      go_wp2_with fail
      refine (headP_any a b c d s _).mono ?_
      rintro e w1 ⟨rfl, hb1⟩
      cases hx : headB (a, b, c, d, s)
      · go_wp2_with fail
        go_roundw
        case rel => exact ⟨3, by omega, rfl, by rw [← HM.out]; simp [mayF, hx], hP.on hb1, hF.on hb1, (by (have q_hb1 := Below.size hb1; (try simp at q_hb1); have q_hbel := Below.size hbel; (try simp at q_hbel); repeat (first | exact Below.refl _ _ | (refine Below.trans ?_ (Below.mono hb1 (by first | omega | (simp; omega) | simp))) | (refine Below.trans ?_ (Below.mono hbel (by first | omega | (simp; omega) | simp))) | (refine Below.setCell ?_ (by first | omega | (simp; omega) | simp) _) | (refine Below.alloc ?_ (by first | omega | (simp; omega) | simp) _) | apply Below.drew | apply below_drewN)))⟩
        case measure => simp [intOf]
      · go_wp2_with fail
        go_ret
        exact ⟨by rw [← HM.out]; simp [mayF, hx], (by (have q_hb1 := Below.size hb1; (try simp at q_hb1); have q_hbel := Below.size hbel; (try simp at q_hbel); repeat (first | exact Below.refl _ _ | (refine Below.trans ?_ (Below.mono hb1 (by first | omega | (simp; omega) | simp))) | (refine Below.trans ?_ (Below.mono hbel (by first | omega | (simp; omega) | simp))) | (refine Below.setCell ?_ (by first | omega | (simp; omega) | simp) _) | (refine Below.alloc ?_ (by first | omega | (simp; omega) | simp) _) | apply Below.drew | apply below_drewN)))⟩
    · have hm0 : mayF (a, b, c, d, s) 3 = mayB (a, b, c, d, s) := hm
      have HM := Lib.hid hm0
      clear hm hm0
      go_wp2_with fail
      refine (tail_any a b c d s _).mono ?_
      rintro e w1 ⟨rfl, hb1⟩
      cases hx : tailB (a, b, c, d, s)
      · go_wp2_with fail
        go_roundw
        case rel => exact ⟨4, by omega, rfl, by rw [← HM.out]; simp [mayF, hx], hP.on hb1, hF.on hb1, (by (have q_hb1 := Below.size hb1; (try simp at q_hb1); have q_hbel := Below.size hbel; (try simp at q_hbel); repeat (first | exact Below.refl _ _ | (refine Below.trans ?_ (Below.mono hb1 (by first | omega | (simp; omega) | simp))) | (refine Below.trans ?_ (Below.mono hbel (by first | omega | (simp; omega) | simp))) | (refine Below.setCell ?_ (by first | omega | (simp; omega) | simp) _) | (refine Below.alloc ?_ (by first | omega | (simp; omega) | simp) _) | apply Below.drew | apply below_drewN)))⟩
        case measure => simp [intOf]
      · go_wp2_with fail
        go_ret
        exact ⟨by rw [← HM.out]; simp [mayF, hx], (by (have q_hb1 := Below.size hb1; (try simp at q_hb1); have q_hbel := Below.size hbel; (try simp at q_hbel); repeat (first | exact Below.refl _ _ | (refine Below.trans ?_ (Below.mono hb1 (by first | omega | (simp; omega) | simp))) | (refine Below.trans ?_ (Below.mono hbel (by first | omega | (simp; omega) | simp))) | (refine Below.setCell ?_ (by first | omega | (simp; omega) | simp) _) | (refine Below.alloc ?_ (by first | omega | (simp; omega) | simp) _) | apply Below.drew | apply below_drewN)))⟩
    · have HM := Lib.hid hm
      clear hm
      go_wp2_with fail
      go_ret
      exact ⟨by rw [← HM.out]; rfl, hbel⟩

theorem bad_any (a b c d s : Int) (w : World) :
    Calls Try.prog 35 #[.agg #[.int .i64 a, .int .i64 b, .int .i64 c, .int .i64 d, .int .u64 s]] w fun e w' => e = .returned (.bool (!mayB (a, b, c, d, s))) ∧ Below w.heap.size w w' := by
  go_enter Try.func35, Try.ntmps35
  go_wp2_with fail
  refine (mayP_any a b c d s _).mono ?_
  rintro e w1 ⟨rfl, hb1⟩
  go_wp2_with fail
  go_ret
  exact ⟨rfl, (by (have q_hb1 := Below.size hb1; (try simp at q_hb1); repeat (first | exact Below.refl _ _ | (refine Below.trans ?_ (Below.mono hb1 (by first | omega | (simp; omega) | simp))) | (refine Below.setCell ?_ (by first | omega | (simp; omega) | simp) _) | (refine Below.alloc ?_ (by first | omega | (simp; omega) | simp) _) | apply Below.drew | apply below_drewN)))⟩

/-- The place of the first page that is so, from place k on; -1: there is none. -/
def firstI (f : Pg → Bool) (l : List Pg) : Int := if l.any f then (l.findIdx f : Int) else -1
theorem firstI_hit {f : Pg → Bool} {l : List Pg} {k : Nat} {x : Pg} (hx : l[k]? = some x) (hf : f x = true) (hn : (l.take k).any f = false) : firstI f l = k := by
  have hk : k < l.length := (List.getElem?_eq_some_iff.1 hx).1
  have e : l[k] = x := (List.getElem?_eq_some_iff.1 hx).2
  have h1 : l.findIdx f = k := by
    rw [List.findIdx_eq hk]
    refine ⟨by rw [e]; exact hf, fun j hj => ?_⟩
    rw [List.any_eq_false] at hn
    have hjl : j < (l.take k).length := by simp; omega
    have := hn ((l.take k)[j]) (List.getElem_mem hjl)
    simpa using this
  have h2 : l.any f = true := List.any_eq_true.2 ⟨x, e ▸ List.getElem_mem hk, hf⟩
  unfold firstI
  rw [if_pos h2, h1]
theorem firstI_none {f : Pg → Bool} {l : List Pg} (h : l.any f = false) : firstI f l = -1 := by unfold firstI; rw [h]; rfl
theorem any_step {f : Pg → Bool} {l : List Pg} {k : Nat} {x : Pg} (hx : l[k]? = some x) : (l.take (k + 1)).any f = ((l.take k).any f || f x) := by rw [take_step hx]; simp

def badB (p : Pg) : Bool := !mayB p
def takenB (p : Pg) : Bool := !freeB p
set_option maxRecDepth 100000 in
set_option maxHeartbeats 2000000 in
theorem idx_bad (A : Option Addr) (n c : Nat) (l : List Pg) (w : World) (hr : RdG pgE w A n l) (hn : n ≤ maxLen) :
    Calls Try.prog 54 #[.slice A n c, .func (Fn.func 35) #[] #[]] w fun e w' => e = .returned (.int .i64 (firstI badB l)) ∧ Below w.heap.size w w' := by
  unfold maxLen at hn
  go_enter Try.func54, Try.ntmps54
  go_wp2_with fail
  go_loopw [8] (fun i wr => ∃ k : Nat, k ≤ n ∧ i = .int .i64 k ∧ (l.take k).any badB = false ∧ Below w.heap.size w wr) (fun i _ => n - (intOf i).toNat)
  case atStart => exact ⟨0, by omega, rfl, rfl, Below.refl _ _⟩
  case round =>
    obtain ⟨k, hk, rfl, hno, hbel⟩ := hrel
    have HNO := Lib.hid hno
    clear hno
    by_cases hlt : k < n
    · obtain ⟨b, off, x, rfl, hb, hx, hcell⟩ := (hr.below hbel).at_ hlt
      have c0 := hcell 0 _ rfl
      have c1 := hcell 1 _ rfl
      have c2 := hcell 2 _ rfl
      have c3 := hcell 3 _ rfl
      have c4 := hcell 4 _ rfl
      simp only [show pgE.sz = 5 from rfl, Nat.add_zero] at c0 c1 c2 c3 c4
      have HX := Lib.hid hx
      clear hcell hx
      go_wp2_with fail
      refine (bad_any _ _ _ _ _ _).mono ?_
      rintro e w1 ⟨rfl, hb1⟩
      cases hf : badB (x.1, x.2.1, x.2.2.1, x.2.2.2.1, x.2.2.2.2)
      · have hst := Lib.hid (show (l.take (k + 1)).any badB = false by rw [any_step HX.out, HNO.out]; simpa using hf)
        have hf' := hf
        simp only [badB] at hf'
        go_wp2_with fail
        go_roundw
        case rel => exact ⟨k + 1, by omega, by go_num, hst.out, (by (have q_hb1 := Below.size hb1; (try simp at q_hb1); have q_hbel := Below.size hbel; (try simp at q_hbel); repeat (first | exact Below.refl _ _ | (refine Below.trans ?_ (Below.mono hb1 (by first | omega | (simp; omega) | simp))) | (refine Below.trans ?_ (Below.mono hbel (by first | omega | (simp; omega) | simp))) | (refine Below.setCell ?_ (by first | omega | (simp; omega) | simp) _) | (refine Below.alloc ?_ (by first | omega | (simp; omega) | simp) _) | apply Below.drew | apply below_drewN)))⟩
        case measure => simp [intOf] <;> omega
      · have hst := Lib.hid (firstI_hit HX.out hf HNO.out)
        have hf' := hf
        simp only [badB] at hf'
        go_wp2_with fail
        go_ret
        exact ⟨by rw [hst.out]; rfl, (by (have q_hb1 := Below.size hb1; (try simp at q_hb1); have q_hbel := Below.size hbel; (try simp at q_hbel); repeat (first | exact Below.refl _ _ | (refine Below.trans ?_ (Below.mono hb1 (by first | omega | (simp; omega) | simp))) | (refine Below.trans ?_ (Below.mono hbel (by first | omega | (simp; omega) | simp))) | (refine Below.setCell ?_ (by first | omega | (simp; omega) | simp) _) | (refine Below.alloc ?_ (by first | omega | (simp; omega) | simp) _) | apply Below.drew | apply below_drewN)))⟩
    · obtain rfl : k = n := by omega
      have hst := Lib.hid (firstI_none (show l.any badB = false by have := HNO.out; rw [List.take_of_length_le (by rw [hr.len]; omega)] at this; exact this))
      go_wp2_with fail
      go_ret
      exact ⟨by rw [hst.out]; rfl, hbel⟩
theorem any_bad (A : Option Addr) (n c : Nat) (l : List Pg) (w : World) (hr : RdG pgE w A n l) (hn : n ≤ maxLen) :
    Calls Try.prog 34 #[.slice A n c, .func (Fn.func 35) #[] #[]] w fun e w' => e = .returned (.bool (l.any badB)) ∧ Below w.heap.size w w' := by
  have hst := Lib.hid (show decide (firstI badB l ≥ 0) = l.any badB by unfold firstI; cases h : l.any badB <;> simp)
  go_enter Try.func34, Try.ntmps34
  go_wp2_with fail
  refine (idx_bad A n c l _ hr hn).mono ?_
  rintro e w1 ⟨rfl, hb1⟩
  go_wp2_with fail
  go_ret
  exact ⟨ret_bool hst.out, (by (have q_hb1 := Below.size hb1; (try simp at q_hb1); repeat (first | exact Below.refl _ _ | (refine Below.trans ?_ (Below.mono hb1 (by first | omega | (simp; omega) | simp))) | (refine Below.setCell ?_ (by first | omega | (simp; omega) | simp) _) | (refine Below.alloc ?_ (by first | omega | (simp; omega) | simp) _) | apply Below.drew | apply below_drewN)))⟩
set_option maxRecDepth 100000 in
set_option maxHeartbeats 2000000 in
theorem idx_taken (A : Option Addr) (n c : Nat) (l : List Pg) (w : World) (hr : RdG pgE w A n l) (hn : n ≤ maxLen) :
    Calls Try.prog 54 #[.slice A n c, .func (Fn.func 38) #[] #[]] w fun e w' => e = .returned (.int .i64 (firstI takenB l)) ∧ Below w.heap.size w w' := by
  unfold maxLen at hn
  go_enter Try.func54, Try.ntmps54
  go_wp2_with fail
  go_loopw [8] (fun i wr => ∃ k : Nat, k ≤ n ∧ i = .int .i64 k ∧ (l.take k).any takenB = false ∧ Below w.heap.size w wr) (fun i _ => n - (intOf i).toNat)
  case atStart => exact ⟨0, by omega, rfl, rfl, Below.refl _ _⟩
  case round =>
    obtain ⟨k, hk, rfl, hno, hbel⟩ := hrel
    have HNO := Lib.hid hno
    clear hno
    by_cases hlt : k < n
    · obtain ⟨b, off, x, rfl, hb, hx, hcell⟩ := (hr.below hbel).at_ hlt
      have c0 := hcell 0 _ rfl
      have c1 := hcell 1 _ rfl
      have c2 := hcell 2 _ rfl
      have c3 := hcell 3 _ rfl
      have c4 := hcell 4 _ rfl
      simp only [show pgE.sz = 5 from rfl, Nat.add_zero] at c0 c1 c2 c3 c4
      have HX := Lib.hid hx
      clear hcell hx
      go_wp2_with fail
      refine (taken_any _ _ _ _ _ _).mono ?_
      rintro e w1 ⟨rfl, hb1⟩
      cases hf : takenB (x.1, x.2.1, x.2.2.1, x.2.2.2.1, x.2.2.2.2)
      · have hst := Lib.hid (show (l.take (k + 1)).any takenB = false by rw [any_step HX.out, HNO.out]; simpa using hf)
        have hf' := hf
        simp only [takenB] at hf'
        go_wp2_with fail
        go_roundw
        case rel => exact ⟨k + 1, by omega, by go_num, hst.out, (by (have q_hb1 := Below.size hb1; (try simp at q_hb1); have q_hbel := Below.size hbel; (try simp at q_hbel); repeat (first | exact Below.refl _ _ | (refine Below.trans ?_ (Below.mono hb1 (by first | omega | (simp; omega) | simp))) | (refine Below.trans ?_ (Below.mono hbel (by first | omega | (simp; omega) | simp))) | (refine Below.setCell ?_ (by first | omega | (simp; omega) | simp) _) | (refine Below.alloc ?_ (by first | omega | (simp; omega) | simp) _) | apply Below.drew | apply below_drewN)))⟩
        case measure => simp [intOf] <;> omega
      · have hst := Lib.hid (firstI_hit HX.out hf HNO.out)
        have hf' := hf
        simp only [takenB] at hf'
        go_wp2_with fail
        go_ret
        exact ⟨by rw [hst.out]; rfl, (by (have q_hb1 := Below.size hb1; (try simp at q_hb1); have q_hbel := Below.size hbel; (try simp at q_hbel); repeat (first | exact Below.refl _ _ | (refine Below.trans ?_ (Below.mono hb1 (by first | omega | (simp; omega) | simp))) | (refine Below.trans ?_ (Below.mono hbel (by first | omega | (simp; omega) | simp))) | (refine Below.setCell ?_ (by first | omega | (simp; omega) | simp) _) | (refine Below.alloc ?_ (by first | omega | (simp; omega) | simp) _) | apply Below.drew | apply below_drewN)))⟩
    · obtain rfl : k = n := by omega
      have hst := Lib.hid (firstI_none (show l.any takenB = false by have := HNO.out; rw [List.take_of_length_le (by rw [hr.len]; omega)] at this; exact this))
      go_wp2_with fail
      go_ret
      exact ⟨by rw [hst.out]; rfl, hbel⟩
theorem any_taken (A : Option Addr) (n c : Nat) (l : List Pg) (w : World) (hr : RdG pgE w A n l) (hn : n ≤ maxLen) :
    Calls Try.prog 34 #[.slice A n c, .func (Fn.func 38) #[] #[]] w fun e w' => e = .returned (.bool (l.any takenB)) ∧ Below w.heap.size w w' := by
  have hst := Lib.hid (show decide (firstI takenB l ≥ 0) = l.any takenB by unfold firstI; cases h : l.any takenB <;> simp)
  go_enter Try.func34, Try.ntmps34
  go_wp2_with fail
  refine (idx_taken A n c l _ hr hn).mono ?_
  rintro e w1 ⟨rfl, hb1⟩
  go_wp2_with fail
  go_ret
  exact ⟨ret_bool hst.out, (by (have q_hb1 := Below.size hb1; (try simp at q_hb1); repeat (first | exact Below.refl _ _ | (refine Below.trans ?_ (Below.mono hb1 (by first | omega | (simp; omega) | simp))) | (refine Below.setCell ?_ (by first | omega | (simp; omega) | simp) _) | (refine Below.alloc ?_ (by first | omega | (simp; omega) | simp) _) | apply Below.drew | apply below_drewN)))⟩
end Go.Proofs.Ytidlcplamgajpaa
