/- Contracts of the functions on handles and places: a number's place. -/
import Derived.Test.YtdnjlhcmihmgdaaHandle
namespace Go.Proofs.Ytdnjlhcmihmgdaa
open Go.RowKit

def hP (h : Int) : Int := h / 72057594037927936
def hS (h : Int) : Int := h / 281474976710656 % 256
def hN (h : Int) : Int := h % 281474976710656

theorem and_low (a k : Nat) (ha : a < 18446744073709551616) (hk : k ≤ 63) : bits .and .u64 (a : Int) ((2 ^ k - 1 : Nat) : Int) = ((a % 2 ^ k : Nat) : Int) := by
  have h2 : 2 ^ k ≤ 2 ^ 63 := Nat.pow_le_pow_right (by omega) hk
  rw [u64_and_nat a _ ha (by omega), Nat.and_two_pow_sub_one_eq_mod]

theorem place_bits (h : Int) (h0 : 0 ≤ h) (h1 : h ≤ 18446744073709551615) :
    wrap64 (bits .and .u64 (h / 281474976710656) 255) = hS h ∧ bits .and .u64 h 281474976710655 = hN h ∧ h / 72057594037927936 = hP h ∧ h / 281474976710656 % 256 = hS h ∧ h % 281474976710656 = hN h ∧ h / 281474976710656 / 256 = hP h := by
  obtain ⟨n, rfl⟩ := Int.eq_ofNat_of_zero_le h0
  refine ⟨?_, ?_, rfl, rfl, rfl, ?_⟩
  · rw [show ((n : Int) / 281474976710656) = ((n / 281474976710656 : Nat) : Int) from by omega, show (255 : Int) = ((2 ^ 8 - 1 : Nat) : Int) from rfl, and_low _ 8 (by omega) (by omega)]
    unfold hS
    rw [IntWalk.wrap64_in _ ⟨by omega, by omega⟩]
    omega
  · rw [show (281474976710655 : Int) = ((2 ^ 48 - 1 : Nat) : Int) from rfl, and_low _ 48 (by omega) (by omega)]
    unfold hN
    omega
  · unfold hP
    omega

theorem mk_place (h : Int) : mk (hP h) (hS h) (hN h) = h := by unfold mk hP hS hN; omega
theorem place_mk (p s n : Int) (h : mayB p s n = true) : hP (mk p s n) = p ∧ hS (mk p s n) = s ∧ hN (mk p s n) = n := by
  obtain ⟨h1, h2, h3, h4, h5, h6⟩ := mayB_true h
  unfold mk hP hS hN
  omega
theorem mk_range (p s n : Int) (h : mayB p s n = true) : 1 ≤ mk p s n ∧ mk p s n ≤ 18446744073709551615 := by
  obtain ⟨h1, h2, h3, h4, h5, h6⟩ := mayB_true h
  unfold mk
  omega

set_option maxHeartbeats 400000 in
theorem place_yes (h : Int) (w : World) (h0 : 0 ≤ h) (h1 : h ≤ 18446744073709551615) (hm : mayB (hP h) (hS h) (hN h) = true) :
    Calls Try.prog 18 #[.int .u64 h] w fun e w' => e = .returned (.tuple #[.agg #[.int .i64 (hP h), .int .i64 (hS h), .int .u64 (hN h)], .bool true]) ∧ Below w.heap.size w w' := by
  obtain ⟨e1, e2, e3, e4, e5, e6⟩ := place_bits h h0 h1
  have H1 := Lib.hid e1
  have H2 := Lib.hid e2
  have H3 := Lib.hid e3
  have H4 := Lib.hid e4
  have H5 := Lib.hid e5
  have H6 := Lib.hid e6
  clear e1 e2 e3 e4 e5 e6
  go_enter Try.func18, Try.ntmps18
  go_wp2_with fail
  rw [H1.out, H2.out, H3.out]
  refine (may_any _ _ _ _).mono ?_
  rintro e w1 ⟨rfl, hb⟩
  obtain ⟨hc, hf⟩ := bcell hb
  have hz := hb.size
  simp at hz
  rw [hm]
  have c0 := hc w.heap.size 0 (by simp; omega)
  have c1 := hc w.heap.size 1 (by simp; omega)
  have c2 := hc w.heap.size 2 (by simp; omega)
  simp [go_sem] at c0 c1 c2
  go_wp2
  refine bodyPost_ret (v := .tuple #[.agg #[.int .i64 (hP h), .int .i64 (hS h), .int .u64 (hN h)], .bool true]) (by simp [results, Try.results18, go_sem, c0, c1, c2]) rfl ⟨rfl, (by (have q_hb := Below.size hb; (try simp at q_hb); repeat (first | exact Below.refl _ _ | (refine Below.trans ?_ (Below.mono hb (by first | omega | (simp; omega) | simp))) | (refine Below.setCell ?_ (by first | omega | (simp; omega) | simp) _) | (refine Below.alloc ?_ (by first | omega | (simp; omega) | simp) _) | apply Below.drew | apply below_drewN)))⟩
set_option maxHeartbeats 400000 in
theorem place_no (h : Int) (w : World) (h0 : 0 ≤ h) (h1 : h ≤ 18446744073709551615) (hm : mayB (hP h) (hS h) (hN h) = false) :
    Calls Try.prog 18 #[.int .u64 h] w fun e w' => e = .returned (.tuple #[.agg #[.int .i64 0, .int .i64 0, .int .u64 0], .bool false]) ∧ Below w.heap.size w w' := by
  obtain ⟨e1, e2, e3, e4, e5, e6⟩ := place_bits h h0 h1
  have H1 := Lib.hid e1
  have H2 := Lib.hid e2
  have H3 := Lib.hid e3
  have H4 := Lib.hid e4
  have H5 := Lib.hid e5
  have H6 := Lib.hid e6
  clear e1 e2 e3 e4 e5 e6
  go_enter Try.func18, Try.ntmps18
  go_wp2_with fail
  rw [H1.out, H2.out, H3.out]
  refine (may_any _ _ _ _).mono ?_
  rintro e w1 ⟨rfl, hb⟩
  obtain ⟨hc, hf⟩ := bcell hb
  have hz := hb.size
  simp at hz
  rw [hm]
  have c0 := hc w.heap.size 0 (by simp; omega)
  have c1 := hc w.heap.size 1 (by simp; omega)
  have c2 := hc w.heap.size 2 (by simp; omega)
  simp [go_sem] at c0 c1 c2
  go_wp2
  refine bodyPost_ret (v := .tuple #[.agg #[.int .i64 0, .int .i64 0, .int .u64 0], .bool false]) (by simp [results, Try.results18, go_sem, c0, c1, c2]) rfl ⟨rfl, (by (have q_hb := Below.size hb; (try simp at q_hb); repeat (first | exact Below.refl _ _ | (refine Below.trans ?_ (Below.mono hb (by first | omega | (simp; omega) | simp))) | (refine Below.setCell ?_ (by first | omega | (simp; omega) | simp) _) | (refine Below.alloc ?_ (by first | omega | (simp; omega) | simp) _) | apply Below.drew | apply below_drewN)))⟩
set_option maxHeartbeats 400000 in
theorem of_yes (h : Int) (w : World) (h0 : 0 ≤ h) (h1 : h ≤ 18446744073709551615) (hm : mayB (hP h) (hS h) (hN h) = true) :
    Calls Try.prog 20 #[.int .u64 h] w fun e w' => e = .returned (.tuple #[.agg #[.int .i64 (hP h), .int .i64 (hS h), .int .u64 (hN h)], .bool true]) ∧ Below w.heap.size w w' := by
  obtain ⟨e1, e2, e3, e4, e5, e6⟩ := place_bits h h0 h1
  have H1 := Lib.hid e1
  have H2 := Lib.hid e2
  have H3 := Lib.hid e3
  have H4 := Lib.hid e4
  have H5 := Lib.hid e5
  have H6 := Lib.hid e6
  clear e1 e2 e3 e4 e5 e6
  go_enter Try.func20, Try.ntmps20
  go_wp2_with fail
  rw [H4.out, H5.out, H6.out]
  refine (rmay_any _ _ _ _).mono ?_
  rintro e w1 ⟨rfl, hb⟩
  obtain ⟨hc, hf⟩ := bcell hb
  have hz := hb.size
  simp at hz
  rw [hm]
  have c0 := hc w.heap.size 0 (by simp; omega)
  have c1 := hc w.heap.size 1 (by simp; omega)
  have c2 := hc w.heap.size 2 (by simp; omega)
  simp [go_sem] at c0 c1 c2
  go_wp2
  refine bodyPost_ret (v := .tuple #[.agg #[.int .i64 (hP h), .int .i64 (hS h), .int .u64 (hN h)], .bool true]) (by simp [results, Try.results20, go_sem, c0, c1, c2]) rfl ⟨rfl, (by (have q_hb := Below.size hb; (try simp at q_hb); repeat (first | exact Below.refl _ _ | (refine Below.trans ?_ (Below.mono hb (by first | omega | (simp; omega) | simp))) | (refine Below.setCell ?_ (by first | omega | (simp; omega) | simp) _) | (refine Below.alloc ?_ (by first | omega | (simp; omega) | simp) _) | apply Below.drew | apply below_drewN)))⟩
set_option maxHeartbeats 400000 in
theorem of_no (h : Int) (w : World) (h0 : 0 ≤ h) (h1 : h ≤ 18446744073709551615) (hm : mayB (hP h) (hS h) (hN h) = false) :
    Calls Try.prog 20 #[.int .u64 h] w fun e w' => e = .returned (.tuple #[.agg #[.int .i64 0, .int .i64 0, .int .u64 0], .bool false]) ∧ Below w.heap.size w w' := by
  obtain ⟨e1, e2, e3, e4, e5, e6⟩ := place_bits h h0 h1
  have H1 := Lib.hid e1
  have H2 := Lib.hid e2
  have H3 := Lib.hid e3
  have H4 := Lib.hid e4
  have H5 := Lib.hid e5
  have H6 := Lib.hid e6
  clear e1 e2 e3 e4 e5 e6
  go_enter Try.func20, Try.ntmps20
  go_wp2_with fail
  rw [H4.out, H5.out, H6.out]
  refine (rmay_any _ _ _ _).mono ?_
  rintro e w1 ⟨rfl, hb⟩
  obtain ⟨hc, hf⟩ := bcell hb
  have hz := hb.size
  simp at hz
  rw [hm]
  have c0 := hc w.heap.size 0 (by simp; omega)
  have c1 := hc w.heap.size 1 (by simp; omega)
  have c2 := hc w.heap.size 2 (by simp; omega)
  simp [go_sem] at c0 c1 c2
  go_wp2
  refine bodyPost_ret (v := .tuple #[.agg #[.int .i64 0, .int .i64 0, .int .u64 0], .bool false]) (by simp [results, Try.results20, go_sem, c0, c1, c2]) rfl ⟨rfl, (by (have q_hb := Below.size hb; (try simp at q_hb); repeat (first | exact Below.refl _ _ | (refine Below.trans ?_ (Below.mono hb (by first | omega | (simp; omega) | simp))) | (refine Below.setCell ?_ (by first | omega | (simp; omega) | simp) _) | (refine Below.alloc ?_ (by first | omega | (simp; omega) | simp) _) | apply Below.drew | apply below_drewN)))⟩
end Go.Proofs.Ytdnjlhcmihmgdaa
