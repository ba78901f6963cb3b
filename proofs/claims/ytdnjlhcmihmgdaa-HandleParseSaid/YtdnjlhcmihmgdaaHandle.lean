/- Contracts of the functions on handles and places. -/
import Derived.Test.YtdnjlhcmihmgdaaProg
import Derived.Test.YtdnjlhcmihmgdaaBase
namespace Go.Proofs.Ytdnjlhcmihmgdaa
open Go.RowKit

def mayB (p s n : Int) : Bool := decide (0 ≤ p ∧ p < 64 ∧ 0 ≤ s ∧ s < 16 ∧ 0 < n ∧ n ≤ 281474976710655)
theorem mayB_true {p s n : Int} (h : mayB p s n = true) : 0 ≤ p ∧ p < 64 ∧ 0 ≤ s ∧ s < 16 ∧ 0 < n ∧ n ≤ 281474976710655 := by simpa [mayB] using h

set_option maxHeartbeats 400000 in
theorem may_any (p s n : Int) (w : World) :
    Calls Try.prog 47 #[.agg #[.int .i64 p, .int .i64 s, .int .u64 n]] w fun e w' => e = .returned (.bool (mayB p s n)) ∧ Below w.heap.size w w' := by
  go_enter Try.func47, Try.ntmps47
  go_wp2
  all_goals
    go_ret
    refine ⟨ret_bool ?_, by repeat (first | exact Below.refl _ _ | apply Below.drew | (refine Below.alloc ?_ (by simp) _))⟩
    rw [Bool.eq_iff_iff]; simp [mayB]; omega

set_option maxHeartbeats 400000 in
theorem rmay_any (p s n : Int) (w : World) :
    Calls Try.prog 16 #[.agg #[.int .i64 p, .int .i64 s, .int .u64 n]] w fun e w' => e = .returned (.bool (mayB p s n)) ∧ Below w.heap.size w w' := by
  go_enter Try.func16, Try.ntmps16
  go_wp2
  all_goals
    go_ret
    refine ⟨ret_bool ?_, by repeat (first | exact Below.refl _ _ | apply Below.drew | (refine Below.alloc ?_ (by simp) _))⟩
    rw [Bool.eq_iff_iff]; simp [mayB]; omega

def mk (p s n : Int) : Int := (p * 256 + s) * 281474976710656 + n

theorem mk_or (p s n : Int) (h : mayB p s n = true) :
    bits .or .u64 (bits .or .u64 (p * 72057594037927936) (s * 281474976710656)) n = mk p s n := by
  obtain ⟨h1, h2, h3, h4, h5, h6⟩ := mayB_true h
  obtain ⟨p, rfl⟩ := Int.eq_ofNat_of_zero_le h1
  obtain ⟨s, rfl⟩ := Int.eq_ofNat_of_zero_le h3
  obtain ⟨n, rfl⟩ := Int.eq_ofNat_of_zero_le (by omega : 0 ≤ n)
  have e1 : bits .or .u64 ((p : Int) * 72057594037927936) ((s : Int) * 281474976710656) = (((p * 256 + s) * 2 ^ 48 : Nat) : Int) := by
    rw [show ((p : Int) * 72057594037927936) = ((p * 2 ^ 56 : Nat) : Int) from by omega, show ((s : Int) * 281474976710656) = ((s * 2 ^ 48 : Nat) : Int) from by omega]
    rw [u64_or_nat _ _ (by omega) (by omega), or_add p (s * 2 ^ 48) 56 (by omega)]
    omega
  rw [e1, u64_or_nat _ _ (by omega) (by omega), or_add _ n 48 (by omega)]
  unfold mk
  omega

set_option maxHeartbeats 400000 in
theorem make_yes (p s n : Int) (w : World) (h : mayB p s n = true) :
    Calls Try.prog 15 #[.agg #[.int .i64 p, .int .i64 s, .int .u64 n]] w fun e w' => e = .returned (.tuple #[.int .u64 (mk p s n), .int .i64 0]) ∧ Below w.heap.size w w' := by
  have hmk := Lib.hid (mk_or p s n h)
  obtain ⟨h1, h2, h3, h4, h5, h6⟩ := mayB_true h
  go_enter Try.func15, Try.ntmps15
  go_wp2_with fail
  refine (may_any _ _ _ _).mono ?_
  rintro e w1 ⟨rfl, hb⟩
  obtain ⟨hc, hf⟩ := bcell hb
  rw [h]
  go_wp2
  go_ret2
  exact ⟨ret2 (int_eq hmk.out) rfl, ((Below.refl _ _).alloc (Nat.le_refl _) _).trans (hb.mono (by simp))⟩

set_option maxHeartbeats 400000 in
theorem make_no (p s n : Int) (w : World) (h : mayB p s n = false) :
    Calls Try.prog 15 #[.agg #[.int .i64 p, .int .i64 s, .int .u64 n]] w fun e w' => e = .returned (.tuple #[.int .u64 0, .int .i64 1]) ∧ Below w.heap.size w w' := by
  go_enter Try.func15, Try.ntmps15
  go_wp2_with fail
  refine (may_any _ _ _ _).mono ?_
  rintro e w1 ⟨rfl, hb⟩
  obtain ⟨hc, hf⟩ := bcell hb
  rw [h]
  go_wp2
  go_ret2
  exact ⟨rfl, ((Below.refl _ _).alloc (Nat.le_refl _) _).trans (hb.mono (by simp))⟩

set_option maxHeartbeats 400000 in
theorem rmake_any (p s n : Int) (w : World) (h : mayB p s n = true) :
    Calls Try.prog 19 #[.agg #[.int .i64 p, .int .i64 s, .int .u64 n]] w fun e w' => e = .returned (.int .u64 (mk p s n)) ∧ Below w.heap.size w w' := by
  obtain ⟨h1, h2, h3, h4, h5, h6⟩ := mayB_true h
  go_enter Try.func19, Try.ntmps19
  go_wp2
  go_ret
  exact ⟨ret1 (int_eq rfl), (Below.refl _ _).alloc (Nat.le_refl _) _⟩

set_option maxHeartbeats 400000 in
theorem hawake_any (w : World) :
    Calls Try.prog 17 #[] w fun e w' => e = .returned (.bool true) ∧ Below w.heap.size w w' := by
  go_enter Try.func17, Try.ntmps17
  go_wp2_with fail
  refine (make_yes _ _ _ _ (by decide)).mono ?_
  rintro e w1 ⟨rfl, hb⟩
  rw [show mk 1 2 3 = 72620543991349251 from rfl]
  go_wp2
  go_ret
  exact ⟨rfl, hb⟩

end Go.Proofs.Ytdnjlhcmihmgdaa
