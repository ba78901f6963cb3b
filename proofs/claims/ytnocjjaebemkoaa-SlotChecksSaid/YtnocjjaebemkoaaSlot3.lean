/- Slots: how many objects; a page of one's own, and a slot in it. -/
import Derived.Test.YtnocjjaebemkoaaSlot2
import Derived.Test.YtnocjjaebemkoaaClone
import Derived.Test.YtnocjjaebemkoaaFresh
import Derived.OwnWalk
namespace Go.Proofs.Ytnocjjaebemkoaa
open Go.RowKit

/-- How many windows are not free. -/
def usedW (z : Nat) (p : List UInt8) (k : Nat) : Nat := (List.range k).countP fun j => !freeW (win z p j)
theorem usedW_step (z : Nat) (p : List UInt8) (k : Nat) : usedW z p (k + 1) = usedW z p k + (if freeW (win z p k) = true then 0 else 1) := by
  unfold usedW
  rw [List.range_succ, List.countP_append]
  cases h : freeW (win z p k) <;> simp [h]
theorem usedW_le (z : Nat) (p : List UInt8) (k : Nat) : usedW z p k ≤ k := by
  unfold usedW
  have := List.countP_le_length (p := fun j => !freeW (win z p j)) (l := List.range k)
  simpa using this
/-- What a page that may be tells of itself. -/
theorem mayP_true {c : Int} {p : List UInt8} (h : mayP c p = true) : p.length = 256 ∧ sizeI c ≠ 0 := by
  unfold mayP at h
  simp only [Bool.and_eq_true, decide_eq_true_eq] at h
  exact ⟨h.1, h.2.1⟩

set_option maxHeartbeats 1000000 in
theorem used_no (A : Option Addr) (n cp : Nat) (p : List UInt8) (c : Int) (w : World) (hr : Rd w A n p) (hn : n ≤ cp) (hcp : cp ≤ maxLen) (hm : mayP c p = false) :
    Calls Try.prog 33 #[.slice A n cp, .int .i64 c] w fun e w' => e = .returned (.int .i64 0) ∧ w = w' := by
  have hC := check_any A n cp p c w hr hn hcp
  rw [hm, if_neg (by decide)] at hC
  obtain ⟨S, hS⟩ : ∃ S : Nat, (S : Int) = slotsI c := ⟨(slotsI c).toNat, by have := (slotsI_range c).1; omega⟩
  have hN := slots_any c w
  have hS16 := (slotsI_range c).2
  rw [← hS] at hN hS16
  clear hS hm hr
  go_enter Try.func33, Try.ntmps33
  go_wp2_with fail
  refine hN.mono ?_
  rintro e w1 ⟨rfl, rfl⟩
  go_wp2_with fail
  go_loop [5, 9] (fun m i => ∃ k : Nat, k ≤ S ∧ i = .int .i64 k ∧ m = .int .i64 0) (fun _ i => S - (intOf i).toNat)
  case atStart => exact ⟨0, by omega, rfl, rfl⟩
  case round =>
    obtain ⟨k, hk, rfl, rfl⟩ := hrel
    by_cases hlt : k < S
    · go_wp2_with fail
      refine hC.mono ?_
      rintro e w1 ⟨rfl, rfl⟩
      go_wp2_with fail
      go_round
      case rel => exact ⟨k + 1, by omega, by go_num, rfl⟩
      case measure => simp [intOf] <;> omega
    · obtain rfl : k = S := by omega
      go_wp2_with fail
      go_ret
      exact ⟨rfl, rfl⟩
set_option maxHeartbeats 1000000 in
theorem used_yes {c : Int} {z N : Nat} (hc : ClassOK c z N) (b off cp : Nat) (p : List UInt8) (w : World) (hr : Rd w (some ⟨b, off, none⟩) 256 p) (hn : 256 ≤ cp) (hcp : cp ≤ maxLen) (hm : mayP c p = true) :
    Calls Try.prog 33 #[.slice (some ⟨b, off, none⟩) 256 cp, .int .i64 c] w fun e w' => e = .returned (.int .i64 (usedW z p N : Int)) ∧ w = w' := by
  have hC := check_any _ 256 cp p c w hr hn hcp
  rw [hm, if_pos rfl] at hC
  have hN := slots_any c w
  have hz1 := hc.z128
  have hz2 := hc.z16
  have hN1 := hc.few
  rw [hc.slots] at hN
  clear hm
  go_enter Try.func33, Try.ntmps33
  go_wp2_with fail
  refine hN.mono ?_
  rintro e w1 ⟨rfl, rfl⟩
  go_wp2_with fail
  go_loop [5, 9] (fun m i => ∃ k : Nat, k ≤ N ∧ i = .int .i64 k ∧ m = .int .i64 (usedW z p k : Int)) (fun _ i => N - (intOf i).toNat)
  case atStart => exact ⟨0, by omega, rfl, rfl⟩
  case round =>
    obtain ⟨k, hk, rfl, rfl⟩ := hrel
    by_cases hlt : k < N
    · have hfit := hc.at_ hlt
      have hW := window_yes hc b off cp k w hlt (by omega)
      have hF := free_any b (off + k * z) z z (win z p k) w (hr.win k hfit (by omega)) (by omega) (Nat.le_refl _) (by omega)
      have hU := usedW_le z p k
      have hST := usedW_step z p k
      obtain ⟨K, hK⟩ : ∃ K, K = k * z := ⟨_, rfl⟩
      rw [← hK] at hW hF
      clear hK
      obtain ⟨U, hU0⟩ : ∃ U, U = usedW z p k := ⟨_, rfl⟩
      rw [← hU0] at hU hST ⊢
      clear hU0
      cases hq : freeW (win z p k) with
      | false =>
        rw [hq] at hF hST
        rw [if_neg (by decide)] at hST
        have HST := Lib.hid hST
        clear hST hq
        go_wp2_with fail
        refine hC.mono ?_
        rintro e w1 ⟨rfl, rfl⟩
        go_wp2_with fail
        refine hW.mono ?_
        rintro e w1 ⟨rfl, rfl⟩
        go_wp2_with fail
        refine hF.mono ?_
        rintro e w1 ⟨rfl, rfl⟩
        go_wp2_with fail
        go_round
        case rel => exact ⟨k + 1, by omega, by go_num, by rw [HST.out]; go_num⟩
        case measure => simp [intOf] <;> omega
      | true =>
        rw [hq] at hF hST
        rw [if_pos rfl] at hST
        have HST := Lib.hid hST
        clear hST hq
        go_wp2_with fail
        refine hC.mono ?_
        rintro e w1 ⟨rfl, rfl⟩
        go_wp2_with fail
        refine hW.mono ?_
        rintro e w1 ⟨rfl, rfl⟩
        go_wp2_with fail
        refine hF.mono ?_
        rintro e w1 ⟨rfl, rfl⟩
        go_wp2_with fail
        go_round
        case rel => exact ⟨k + 1, by omega, by go_num, by rw [HST.out]; go_num⟩
        case measure => simp [intOf] <;> omega
    · obtain rfl : k = N := by omega
      go_wp2_with fail
      go_ret
      exact ⟨rfl, rfl⟩

/-- Where nothing is: an error, and no slot. -/
def NoObj (x : Int) (w : World) (e : Ending) (w' : World) : Prop := e = .returned (.tuple #[.slice none 0 0, .slice none 0 0, .int .i64 x]) ∧ Below w.heap.size w w'
/-- A page of one's own, and slot k in it. -/
def IsObj (T : TypeId) (z k : Nat) (p : List UInt8) (w : World) (e : Ending) (w' : World) : Prop :=
  ∃ g c, e = .returned (.tuple #[.slice (some ⟨g, 0, none⟩) 256 c, .slice (some ⟨g, k * z, none⟩) z z, .int .i64 0]) ∧ Fresh T w.heap.size w' (.slice (some ⟨g, 0, none⟩) 256 c) p ∧ Below w.heap.size w w'
set_option maxHeartbeats 1000000 in
theorem object_bad (A : Option Addr) (n cp : Nat) (p : List UInt8) (c : Int) (k : Int) (w : World) (hr : Rd w A n p) (hn : n ≤ cp) (hcp : cp ≤ maxLen) (hm : mayP c p = false) :
    Calls Try.prog 43 #[.slice A n cp, .int .i64 c, .int .i64 k] w (NoObj 4 w) := by
  have hC := check_any A n cp p c w hr hn hcp
  rw [hm, if_neg (by decide)] at hC
  go_enter Try.func43, Try.ntmps43
  go_wp2_with fail
  refine hC.mono ?_
  rintro e w1 ⟨rfl, rfl⟩
  go_wp2_with fail
  go_ret3
  exact ⟨rfl, (by (repeat (first | exact Below.refl _ _ | (refine Below.setCell ?_ (by first | omega | (simp; omega) | simp) _) | (refine Below.alloc ?_ (by first | omega | (simp; omega) | simp) _) | apply Below.drew | apply below_drewN)))⟩
set_option maxHeartbeats 1000000 in
theorem object_out (A : Option Addr) (n cp : Nat) (p : List UInt8) (c : Int) (k : Int) (w : World) (hr : Rd w A n p) (hn : n ≤ cp) (hcp : cp ≤ maxLen) (hm : mayP c p = true) (hk : k < 0 ∨ slotsI c ≤ k) :
    Calls Try.prog 43 #[.slice A n cp, .int .i64 c, .int .i64 k] w (NoObj 6 w) := by
  have hC := check_any A n cp p c w hr hn hcp
  rw [hm, if_pos rfl] at hC
  have hq := fun W : World => Lib.run_eql_slice_nil (P := Try.prog) W 32 5 none 0 0 0 0 Try.underlying32
  have hlen := (mayP_true hm).1
  have hl2 := hr.len
  obtain rfl : n = 256 := by omega
  have hCl := clone_any A 256 cp p w hr (by omega)
  clear hm hlen hl2
  go_enter Try.func43, Try.ntmps43
  go_wp2_with fail
  refine hC.mono ?_
  rintro e w1 ⟨rfl, rfl⟩
  go_wp2_with fail
  refine hCl.mono ?_
  rintro e w1 ⟨v1, rfl, hF1, hb1⟩
  go_wp2_with fail
  refine (window_no k v1 w1 hk).mono ?_
  rintro e w2 ⟨rfl, rfl⟩
  go_wp2_with fail
  go_ret3
  exact ⟨rfl, (by (have q_hb1 := Below.size hb1; (try simp at q_hb1); repeat (first | exact Below.refl _ _ | (refine Below.trans ?_ (Below.mono hb1 (by first | omega | (simp; omega) | simp))) | (refine Below.setCell ?_ (by first | omega | (simp; omega) | simp) _) | (refine Below.alloc ?_ (by first | omega | (simp; omega) | simp) _) | apply Below.drew | apply below_drewN)))⟩
set_option maxHeartbeats 1000000 in
theorem object_free {c : Int} {z N : Nat} (hc : ClassOK c z N) (A : Option Addr) (cp : Nat) (p : List UInt8) (k : Nat) (w : World) (hr : Rd w A 256 p) (hn : 256 ≤ cp) (hcp : cp ≤ maxLen) (hm : mayP c p = true) (hk : k < N) (hf : freeW (win z p k) = true) :
    Calls Try.prog 43 #[.slice A 256 cp, .int .i64 c, .int .i64 k] w (NoObj 6 w) := by
  have hC := check_any A 256 cp p c w hr hn hcp
  rw [hm, if_pos rfl] at hC
  have hfit := hc.at_ hk
  have hz1 := hc.z128
  have hz2 := hc.z16
  have hq := fun (W : World) (b o : Nat) => Lib.run_eql_slice_nil (P := Try.prog) W 32 5 (some ⟨b, o, none⟩) z z 0 0 Try.underlying32
  have hlen := hr.len
  have hCl := clone_any A 256 cp p w hr (by omega)
  clear hm
  go_enter Try.func43, Try.ntmps43
  go_wp2_with fail
  refine hC.mono ?_
  rintro e w1 ⟨rfl, rfl⟩
  go_wp2_with fail
  refine hCl.mono ?_
  rintro e w1 ⟨v1, rfl, hF1, hb1⟩
  obtain ⟨A1, c1, rfl, hR1, hown1, hn1, hm1⟩ := hF1.rdn 256 hlen
  obtain ⟨b, off, rfl, hb, _⟩ := hR1.2 (by omega)
  have hW := window_yes hc b off c1 k w1 hk hn1
  have hFr := free_any b (off + k * z) z z (win z p k) w1 (hR1.win k hfit (by omega)) (by omega) (Nat.le_refl _) (by omega)
  rw [hf] at hFr
  clear hf
  go_wp2_with fail
  refine hW.mono ?_
  rintro e w2 ⟨rfl, rfl⟩
  go_wp2_with fail
  refine hFr.mono ?_
  rintro e w2 ⟨rfl, rfl⟩
  go_wp2_with fail
  go_ret3
  exact ⟨rfl, (by (have q_hb1 := Below.size hb1; (try simp at q_hb1); repeat (first | exact Below.refl _ _ | (refine Below.trans ?_ (Below.mono hb1 (by first | omega | (simp; omega) | simp))) | (refine Below.setCell ?_ (by first | omega | (simp; omega) | simp) _) | (refine Below.alloc ?_ (by first | omega | (simp; omega) | simp) _) | apply Below.drew | apply below_drewN)))⟩
set_option maxHeartbeats 1000000 in
theorem object_yes {c : Int} {z N : Nat} (hc : ClassOK c z N) (A : Option Addr) (cp : Nat) (p : List UInt8) (k : Nat) (w : World) (hr : Rd w A 256 p) (hn : 256 ≤ cp) (hcp : cp ≤ maxLen) (hm : mayP c p = true) (hk : k < N) (hf : freeW (win z p k) = false) :
    Calls Try.prog 43 #[.slice A 256 cp, .int .i64 c, .int .i64 k] w (IsObj 5 z k p w) := by
  have hC := check_any A 256 cp p c w hr hn hcp
  rw [hm, if_pos rfl] at hC
  have hfit := hc.at_ hk
  have hz1 := hc.z128
  have hz2 := hc.z16
  have hq := fun (W : World) (b o : Nat) => Lib.run_eql_slice_nil (P := Try.prog) W 32 5 (some ⟨b, o, none⟩) z z 0 0 Try.underlying32
  have hlen := hr.len
  have hCl := clone_any A 256 cp p w hr (by omega)
  clear hm
  go_enter Try.func43, Try.ntmps43
  go_wp2_with fail
  refine hC.mono ?_
  rintro e w1 ⟨rfl, rfl⟩
  go_wp2_with fail
  refine hCl.mono ?_
  rintro e w1 ⟨v1, rfl, hF1, hb1⟩
  obtain ⟨A1, c1, rfl, hR1, hown1, hn1, hm1⟩ := hF1.rdn 256 hlen
  obtain ⟨b, cur, rfl, hbg, hBlk, hcs, hcc, _⟩ := hF1.open_ hlen (by omega)
  have hW := window_yes hc b 0 c1 k w1 hk hn1
  have hFr := free_any b (0 + k * z) z z (win z p k) w1 (hR1.win k hfit (by omega)) (by omega) (Nat.le_refl _) (by omega)
  rw [hf] at hFr
  rw [Nat.zero_add] at hW hFr
  clear hf hcc
  go_wp2_with fail
  refine hW.mono ?_
  rintro e w2 ⟨rfl, rfl⟩
  go_wp2_with fail
  refine hFr.mono ?_
  rintro e w2 ⟨rfl, rfl⟩
  go_wp2_with fail
  go_ret3
  exact ⟨b, c1, rfl, hF1, (by (have q_hb1 := Below.size hb1; (try simp at q_hb1); repeat (first | exact Below.refl _ _ | (refine Below.trans ?_ (Below.mono hb1 (by first | omega | (simp; omega) | simp))) | (refine Below.setCell ?_ (by first | omega | (simp; omega) | simp) _) | (refine Below.alloc ?_ (by first | omega | (simp; omega) | simp) _) | apply Below.drew | apply below_drewN)))⟩
end Go.Proofs.Ytnocjjaebemkoaa
