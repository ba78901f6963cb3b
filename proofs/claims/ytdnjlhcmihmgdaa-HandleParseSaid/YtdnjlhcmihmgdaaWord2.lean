/- Contracts of the functions on words and bytes: Xor. -/
import Derived.Test.YtdnjlhcmihmgdaaGet
import Derived.Test.YtdnjlhcmihmgdaaZero
namespace Go.Proofs.Ytdnjlhcmihmgdaa
open Go.RowKit

/-- Byte by byte, as many as the shorter one has. -/
def xorL (a b : List UInt8) : List UInt8 := List.zipWith (· ^^^ ·) a b
theorem xorL_get {a b : List UInt8} {k : Nat} {x y : UInt8} (h : a[k]? = some x) (h' : b[k]? = some y) : (xorL a b)[k]? = some (x ^^^ y) := by
  simp [xorL, List.getElem?_zipWith, h, h']
theorem u8_xor (x y : UInt8) : bits .xor .u8 (x.toNat : Int) (y.toNat : Int) = ((x ^^^ y).toNat : Int) := by
  have hx : x.toNat ^^^ y.toNat < 2 ^ 8 := Nat.xor_lt_two_pow x.toNat_lt y.toNat_lt
  have ea : ∀ x : UInt8, (BitVec.ofInt 8 (x.toNat : Int)).toNat = x.toNat := by
    intro x
    rw [BitVec.ofInt_natCast, BitVec.toNat_ofNat]; exact Nat.mod_eq_of_lt x.toNat_lt
  show IntKind.u8.wrap ((BitVec.ofInt 8 (x.toNat : Int) ^^^ BitVec.ofInt 8 (y.toNat : Int)).toNat : Int) = _
  rw [BitVec.toNat_xor, ea, ea, UInt8.toNat_xor]
  simp [IntKind.wrap, IntKind.signed, IntKind.bits]
  omega

set_option maxHeartbeats 400000 in
theorem xor_lt (A B : Option Addr) (n m c d : Nat) (a b : List UInt8) (w : World) (ha : Rd w A n a) (hb : Rd w B m b) (hn : n ≤ 140737488355328) (hm : m ≤ 140737488355328) (hlt : m < n) :
    Calls Try.prog 27 #[.slice A n c, .slice B m d] w (Gives 5 w (xorL a b)) := by
  have hl : (xorL a b).length = m := by have := ha.len; have := hb.len; simp [xorL]; omega
  have hmk := make_bytes (P := Try.prog) Try.underlying39 info8 .i64 .i64 m (by omega) (xorL a b) hl
  go_enter Try.func27, Try.ntmps27
  go_wp2_with fail
  clear hmk
  go_loopw [15] (fun i wr => ∃ k : Nat, k ≤ m ∧ i = .int .i64 k ∧ Blk wr w.heap.size 5 (part (xorL a b) k) ∧ Below w.heap.size w wr) (fun i _ => m - (intOf i).toNat)
  case atStart => exact ⟨0, by omega, rfl, Blk.new w _ _, (by (repeat (first | exact Below.refl _ _ | (refine Below.setCell ?_ (by first | omega | (simp; omega) | simp) _) | (refine Below.alloc ?_ (by first | omega | (simp; omega) | simp) _) | apply Below.drew | apply below_drewN)))⟩
  case round =>
    obtain ⟨k, hk, rfl, hB, hbel⟩ := hrel
    by_cases hkl : k < m
    · obtain ⟨b1, o1, x, rfl, hb1, hx, hc1⟩ := (ha.below hbel).at_ (show k < n by omega)
      obtain ⟨b2, o2, y, rfl, hb2, hy, hc2⟩ := (hb.below hbel).at_ (show k < m by omega)
      have hS := Lib.hid (part_set (xorL a b) k _ (xorL_get hx hy))
      have hxy := Lib.hid (u8_xor x y)
      obtain ⟨u, hu⟩ := part_get (xorL a b) k k (by rw [hl]; exact hkl)
      have cc : wr.cell? ⟨w.heap.size, k, none⟩ = some u := (hB.cell k).trans hu
      have ff := hB.frozen k
      have zz := hB.lt
      have S1 := (hB.set_ k (.int .u8 ((x ^^^ y).toNat : Int))).drew
      have q1 : k < n := by omega
      have q2 : k < m := by omega
      clear hu hx hy
      go_wp2_with fail
      go_region
      go_wp2
      go_roundw
      case rel => exact ⟨k + 1, by omega, by go_num, by rw [← hS.out, hxy.out]; exact S1, (by (have q_hbel := Below.size hbel; (try simp at q_hbel); repeat (first | exact Below.refl _ _ | (refine Below.trans ?_ (Below.mono hbel (by first | omega | (simp; omega) | simp))) | (refine Below.setCell ?_ (by first | omega | (simp; omega) | simp) _) | (refine Below.alloc ?_ (by first | omega | (simp; omega) | simp) _) | apply Below.drew | apply below_drewN)))⟩
      case measure => simp [intOf]; omega
    · go_wp2_with fail
      go_ret
      obtain rfl : k = m := by omega
      exact ⟨_, rfl, Fresh.of_blk hB (by omega) (by unfold maxLen; omega) hl (part_done _ _ (by omega)), hbel⟩

set_option maxHeartbeats 400000 in
theorem xor_ge (A B : Option Addr) (n m c d : Nat) (a b : List UInt8) (w : World) (ha : Rd w A n a) (hb : Rd w B m b) (hn : n ≤ 140737488355328) (hm : m ≤ 140737488355328) (hlt : ¬ m < n) :
    Calls Try.prog 27 #[.slice A n c, .slice B m d] w (Gives 5 w (xorL a b)) := by
  have hl : (xorL a b).length = n := by have := ha.len; have := hb.len; simp [xorL]; omega
  have hmk := make_bytes (P := Try.prog) Try.underlying39 info8 .i64 .i64 n (by omega) (xorL a b) hl
  go_enter Try.func27, Try.ntmps27
  go_wp2_with fail
  clear hmk
  go_loopw [15] (fun i wr => ∃ k : Nat, k ≤ n ∧ i = .int .i64 k ∧ Blk wr w.heap.size 5 (part (xorL a b) k) ∧ Below w.heap.size w wr) (fun i _ => n - (intOf i).toNat)
  case atStart => exact ⟨0, by omega, rfl, Blk.new w _ _, (by (repeat (first | exact Below.refl _ _ | (refine Below.setCell ?_ (by first | omega | (simp; omega) | simp) _) | (refine Below.alloc ?_ (by first | omega | (simp; omega) | simp) _) | apply Below.drew | apply below_drewN)))⟩
  case round =>
    obtain ⟨k, hk, rfl, hB, hbel⟩ := hrel
    by_cases hkl : k < n
    · obtain ⟨b1, o1, x, rfl, hb1, hx, hc1⟩ := (ha.below hbel).at_ (show k < n by omega)
      obtain ⟨b2, o2, y, rfl, hb2, hy, hc2⟩ := (hb.below hbel).at_ (show k < m by omega)
      have hS := Lib.hid (part_set (xorL a b) k _ (xorL_get hx hy))
      have hxy := Lib.hid (u8_xor x y)
      obtain ⟨u, hu⟩ := part_get (xorL a b) k k (by rw [hl]; exact hkl)
      have cc : wr.cell? ⟨w.heap.size, k, none⟩ = some u := (hB.cell k).trans hu
      have ff := hB.frozen k
      have zz := hB.lt
      have S1 := (hB.set_ k (.int .u8 ((x ^^^ y).toNat : Int))).drew
      have q1 : k < n := by omega
      have q2 : k < m := by omega
      clear hu hx hy
      go_wp2_with fail
      go_region
      go_wp2
      go_roundw
      case rel => exact ⟨k + 1, by omega, by go_num, by rw [← hS.out, hxy.out]; exact S1, (by (have q_hbel := Below.size hbel; (try simp at q_hbel); repeat (first | exact Below.refl _ _ | (refine Below.trans ?_ (Below.mono hbel (by first | omega | (simp; omega) | simp))) | (refine Below.setCell ?_ (by first | omega | (simp; omega) | simp) _) | (refine Below.alloc ?_ (by first | omega | (simp; omega) | simp) _) | apply Below.drew | apply below_drewN)))⟩
      case measure => simp [intOf]; omega
    · go_wp2_with fail
      go_ret
      obtain rfl : k = n := by omega
      exact ⟨_, rfl, Fresh.of_blk hB (by omega) (by unfold maxLen; omega) hl (part_done _ _ (by omega)), hbel⟩

theorem xor_any (A B : Option Addr) (n m c d : Nat) (a b : List UInt8) (w : World) (ha : Rd w A n a) (hb : Rd w B m b) (hn : n ≤ 140737488355328) (hm : m ≤ 140737488355328) :
    Calls Try.prog 27 #[.slice A n c, .slice B m d] w (Gives 5 w (xorL a b)) := by
  by_cases h : m < n
  · exact xor_lt A B n m c d a b w ha hb hn hm h
  · exact xor_ge A B n m c d a b w ha hb hn hm h
end Go.Proofs.Ytdnjlhcmihmgdaa
