/- The walks of the statements on words and bytes: WordPut, WordGet, WordBack, WordPad. -/
import Derived.Test.YtdnjlhcmihmgdaaWord3
import Derived.Test.YtdnjlhcmihmgdaaTurned
import Derived.Test.YtdnjlhcmihmgdaaWordHigh
import Derived.Deep.RegionWith
import Derived.Test.YtdnjlhcmihmgdaaConv
namespace Go.Proofs.Ytdnjlhcmihmgdaa
open Go.RowKit

set_option maxHeartbeats 400000 in
theorem short_any (A : Option Addr) (n c : Nat) (w : World) (hc : n ≤ c) (hm : c ≤ maxLen) :
    Calls Try.prog 26 #[.slice A n c] w fun e w' => e = .returned (.slice A (min n 80) c) ∧ w = w' := by
  unfold maxLen at hm
  by_cases h : 80 < n
  · have e := Lib.hid (show min n 80 = 80 by omega)
    go_enter Try.func26, Try.ntmps26
    go_wp2_with fail
    go_ret
    exact ⟨by rw [e.out]; rfl, rfl⟩
  · have e := Lib.hid (show min n 80 = n by omega)
    go_enter Try.func26, Try.ntmps26
    go_wp2_with fail
    go_ret
    exact ⟨by rw [e.out]; rfl, rfl⟩
theorem Rd.short {w : World} {A : Option Addr} {n : Nat} {l : List UInt8} (h : Rd w A n l) : Rd w A (min n 80) (l.take 80) := by
  have h1 := h.cut (k := 0) (m := min n 80) (cap := min n 80 + 1) (by omega) (by omega) (by omega)
  rw [if_neg (by omega)] at h1
  have e : l.take (min n 80) = l.take 80 := by
    have := h.len
    by_cases h8 : n ≤ 80
    · rw [List.take_of_length_le (by omega), List.take_of_length_le (by omega)]
    · rw [show min n 80 = 80 from by omega]
  rw [e] at h1
  cases A <;> simpa [Addr.add] using h1

set_option maxHeartbeats 400000 in
theorem wawake_any (w : World) :
    Calls Try.prog 25 #[] w fun e w' => e = .returned (.bool true) ∧ Below w.heap.size w w' := by
  go_enter Try.func25, Try.ntmps25
  go_wp2_with fail
  refine (put_any 2 258 _ (by omega) (by omega) (by omega) (by omega)).mono ?_
  rintro e w1 ⟨v, rfl, hF, hb1⟩
  rw [show putL 2 258 = [2, 1] from by decide] at hF
  obtain ⟨A1, c1, rfl, hR, _⟩ := hF.rdn 2 rfl
  have hs := conv c1 _ hR
  rw [show str [2, 1] = ⟨#[2, 1]⟩ from rfl] at hs
  go_wp2_with fail
  refine (high_any 2 258 _ (by omega) (by omega) (by omega) (by omega)).mono ?_
  rintro e w2 ⟨v, rfl, hF2, hb2⟩
  rw [show highL 2 258 = [1, 2] from by decide] at hF2
  obtain ⟨A2, c2, rfl, hR2, _⟩ := hF2.rdn 2 rfl
  have hs2 := conv c2 _ hR2
  rw [show str [1, 2] = ⟨#[1, 2]⟩ from rfl] at hs2
  go_wp2_with fail
  go_ret
  exact ⟨rfl, (by (have q_hb2 := Below.size hb2; (try simp at q_hb2); have q_hb1 := Below.size hb1; (try simp at q_hb1); repeat (first | exact Below.refl _ _ | (refine Below.trans ?_ (Below.mono hb2 (by first | omega | (simp; omega) | simp))) | (refine Below.trans ?_ (Below.mono hb1 (by first | omega | (simp; omega) | simp))) | (refine Below.setCell ?_ (by first | omega | (simp; omega) | simp) _) | (refine Below.alloc ?_ (by first | omega | (simp; omega) | simp) _) | apply Below.drew | apply below_drewN)))⟩

set_option maxHeartbeats 1000000 in
theorem law_get (A : Option Addr) (n c : Nat) (l : List UInt8) (w : World) (hr : Rd w A n l) (hc : n ≤ c) (hm : c ≤ maxLen) :
    Calls Try.prog 9 #[.slice A n c] w fun e w' => e = .returned (.bool true) ∧ Below w.heap.size w w' := by
  have hR := hr.short
  unfold maxLen at hm
  go_enter Try.func9, Try.ntmps9
  go_wp2_with fail
  refine (short_any _ _ _ _ hc (by unfold maxLen; omega)).mono ?_
  rintro e w1 ⟨rfl, rfl⟩
  go_wp2_with fail
  refine (get_any _ _ _ _ _ hR (by unfold maxLen; omega)).mono ?_
  rintro e w1 ⟨rfl, rfl⟩
  go_wp2_with fail
  refine (rget_any _ _ _ _ _ hR (by omega) (by omega)).mono ?_
  rintro e w1 ⟨rfl, rfl⟩
  go_wp2_with fail
  refine (wawake_any _).mono ?_
  rintro e w5 ⟨rfl, hb5⟩
  go_wp2_with fail
  go_ret
  exact ⟨rfl, (by (have q_hb5 := Below.size hb5; (try simp at q_hb5); repeat (first | exact Below.refl _ _ | (refine Below.trans ?_ (Below.mono hb5 (by first | omega | (simp; omega) | simp))) | (refine Below.setCell ?_ (by first | omega | (simp; omega) | simp) _) | (refine Below.alloc ?_ (by first | omega | (simp; omega) | simp) _) | apply Below.drew | apply below_drewN)))⟩
end Go.Proofs.Ytdnjlhcmihmgdaa
