/- Contracts of the functions on words and bytes: what only reads. -/
import Derived.Test.YtdnjlhcmihmgdaaWord
namespace Go.Proofs.Ytdnjlhcmihmgdaa
open Go.RowKit

/-- The number of bytes, the lowest first. -/
def getL : List UInt8 → Nat
  | [] => 0
  | c :: r => c.toNat + 256 * getL r
theorem getL_snoc : ∀ (l : List UInt8) (c : UInt8), getL (l ++ [c]) = getL l + c.toNat * 256 ^ l.length
  | [], c => by simp [getL]
  | d :: r, c => by
    rw [List.cons_append, getL, getL_snoc r c, getL, List.length_cons, Nat.pow_succ, Nat.mul_add, Nat.add_assoc, Nat.mul_comm 256 (c.toNat * 256 ^ r.length), Nat.mul_assoc, Nat.mul_comm (256 ^ r.length) 256]
theorem getL_lt : ∀ l : List UInt8, getL l < 256 ^ l.length
  | [] => by simp [getL]
  | c :: r => by
    have h := getL_lt r
    have hc := c.toNat_lt
    rw [getL, List.length_cons, Nat.pow_succ]
    omega
theorem pow8_le (k : Nat) (h : k ≤ 7) : (256 : Nat) ^ (k + 1) ≤ 18446744073709551616 :=
  Nat.le_trans (Nat.pow_le_pow_right (by omega) (show k + 1 ≤ 8 by omega)) (by decide)
theorem get_step (l : List UInt8) (k : Nat) (c : UInt8) (h : l[k]? = some c) (hk : k ≤ 7) :
    bits .or .u64 (getL (l.take k) : Int) ((c.toNat : Int) * 2 ^ (8 * k)) = (getL (l.take (k + 1)) : Int) ∧ (c.toNat : Int) * 2 ^ (8 * k) < 18446744073709551616 := by
  have hl : (l.take k).length = k := by have := (List.getElem?_eq_some_iff.1 h).1; simp; omega
  have h1 := getL_lt (l.take k)
  rw [hl] at h1
  have e : (256 : Nat) ^ k = 2 ^ (8 * k) := by rw [Nat.pow_mul]
  have h2 := pow8_le k hk
  rw [Nat.pow_succ] at h2
  have hc := c.toNat_lt
  have h3 : c.toNat * 256 ^ k < 18446744073709551616 := Nat.lt_of_lt_of_le (Nat.mul_lt_mul_of_pos_right hc (Nat.pow_pos (by omega))) (by omega)
  rw [take_step h, getL_snoc, hl]
  have e2 : (c.toNat : Int) * 2 ^ (8 * k) = ((c.toNat * 2 ^ (8 * k) : Nat) : Int) := by simp
  rw [e2]
  refine ⟨?_, by rw [← e]; omega⟩
  rw [u64_or_nat _ _ (by omega) (by rw [← e]; omega), Nat.or_comm, or_add _ _ (8 * k) (by rw [← e]; exact h1), ← e]
  congr 1
  omega

set_option maxHeartbeats 400000 in
theorem get_any (A : Option Addr) (n c : Nat) (l : List UInt8) (w : World) (hr : Rd w A n l) (hn : n ≤ maxLen) :
    Calls Try.prog 30 #[.slice A n c] w fun e w' => e = .returned (.int .u64 (getL (l.take 8) : Int)) ∧ w = w' := by
  unfold maxLen at hn
  go_enter Try.func30, Try.ntmps30
  go_wp2
  go_loop [3, 8] (fun v i => ∃ k : Nat, k ≤ n ∧ k ≤ 8 ∧ i = .int .i64 k ∧ v = .int .u64 (getL (l.take k) : Int)) (fun _ i => n - (intOf i).toNat)
  case atStart => exact ⟨0, by omega, by omega, rfl, rfl⟩
  case round =>
    obtain ⟨k, hk, hk8, rfl, rfl⟩ := hrel
    by_cases hlt : k < n
    · by_cases h8 : k = 8
      · subst h8
        obtain ⟨b, off, x, rfl, hb, hx, hc⟩ := hr.at_ hlt
        have hX := Lib.hid hx
        clear hx
        go_wp2
        go_ret
        exact ⟨rfl, rfl⟩
      · obtain ⟨b, off, x, rfl, hb, hx, hc⟩ := hr.at_ hlt
        have hX := Lib.hid hx
        have h8' : ((k : Int) == 8) = false := by simp; omega
        have hs := get_step l k x hx (by omega)
        have hS := Lib.hid hs
        clear hx hs
        have hx0 : (x.toNat : Int) ≤ 255 := by have := x.toNat_lt; omega
        go_wp2
        go_round
        case rel =>
          refine ⟨k + 1, by omega, by omega, by go_num, int_eq ?_⟩
          obtain ⟨e1, e2⟩ := hS.out
          rw [IntKind.wrap_u64, Int.emod_eq_of_lt (Int.mul_nonneg (by omega) (Int.pow_nonneg (by omega))) e2, e1]
        case measure => simp [intOf]; omega
    · obtain rfl : k = n := by omega
      have he := Lib.hid (show l.take 8 = l.take k by rw [List.take_of_length_le (by rw [hr.len]; omega), List.take_of_length_le (by rw [hr.len]; omega)])
      go_wp2
      go_ret
      exact ⟨by rw [he.out]; rfl, rfl⟩

/-- Are all noughts? -/
def zeroB (l : List UInt8) : Bool := l.all (· == 0)
def orL (l : List UInt8) : Nat := l.foldl (fun a c => a ||| c.toNat) 0
theorem orL_snoc (l : List UInt8) (c : UInt8) : orL (l ++ [c]) = orL l ||| c.toNat := by simp [orL]
theorem orL_lt (l : List UInt8) : orL l < 256 := by
  suffices ∀ (l : List UInt8) (a : Nat), a < 256 → l.foldl (fun a c => a ||| c.toNat) a < 256 from this l 0 (by omega)
  intro l
  induction l with
  | nil => intro a h; exact h
  | cons c r ih => intro a h; exact ih _ (Nat.or_lt_two_pow (n := 8) h c.toNat_lt)
theorem or_zero (a b : Nat) : a ||| b = 0 ↔ a = 0 ∧ b = 0 := Nat.or_eq_zero_iff
theorem orL_zero (l : List UInt8) : (orL l == 0) = zeroB l := by
  have : ∀ (l : List UInt8) (a : Nat), (l.foldl (fun a c => a ||| c.toNat) a = 0) ↔ (a = 0 ∧ zeroB l = true) := by
    intro l
    induction l with
    | nil => intro a; simp [zeroB]
    | cons c r ih =>
      intro a
      rw [List.foldl_cons, ih, Nat.or_eq_zero_iff]
      simp only [zeroB, List.all_cons, Bool.and_eq_true, beq_iff_eq, and_assoc]
      refine and_congr_right fun _ => and_congr_left fun _ => ?_
      exact ⟨fun h => UInt8.toNat_inj.1 h, fun h => by rw [h]; rfl⟩
  rw [Bool.eq_iff_iff, beq_iff_eq]
  have h := this l 0
  simp only [true_and] at h
  exact h

theorem u8_or_nat (a b : Nat) (ha : a < 256) (hb : b < 256) : bits .or .u8 (a : Int) (b : Int) = ((a ||| b : Nat) : Int) := by
  have hx : a ||| b < 2 ^ 8 := Nat.or_lt_two_pow (by omega) (by omega)
  have ea : ∀ x : Nat, x < 256 → (BitVec.ofInt 8 (x : Int)).toNat = x := by
    intro x hx
    rw [BitVec.ofInt_natCast, BitVec.toNat_ofNat]; exact Nat.mod_eq_of_lt (by omega)
  show IntKind.u8.wrap ((BitVec.ofInt 8 (a : Int) ||| BitVec.ofInt 8 (b : Int)).toNat : Int) = _
  rw [BitVec.toNat_or, ea a ha, ea b hb]
  simp [IntKind.wrap, IntKind.signed, IntKind.bits]
  omega

set_option maxHeartbeats 400000 in
theorem zero_any (A : Option Addr) (n c : Nat) (l : List UInt8) (w : World) (hr : Rd w A n l) (hn : n ≤ maxLen) :
    Calls Try.prog 33 #[.slice A n c] w fun e w' => e = .returned (.bool (zeroB l)) ∧ w = w' := by
  unfold maxLen at hn
  go_enter Try.func33, Try.ntmps33
  go_wp2
  go_loop [3, 8] (fun v i => ∃ k : Nat, k ≤ n ∧ i = .int .i64 k ∧ v = .int .u8 (orL (l.take k) : Int)) (fun _ i => n - (intOf i).toNat)
  case atStart => exact ⟨0, by omega, rfl, rfl⟩
  case round =>
    obtain ⟨k, hk, rfl, rfl⟩ := hrel
    by_cases hlt : k < n
    · obtain ⟨b, off, x, rfl, hb, hx, hc⟩ := hr.at_ hlt
      have hS := Lib.hid (show bits .or .u8 (orL (l.take k) : Int) (x.toNat : Int) = (orL (l.take (k + 1)) : Int) by rw [u8_or_nat _ _ (orL_lt _) x.toNat_lt, take_step hx, orL_snoc])
      clear hx
      go_wp2
      go_round
      case rel => exact ⟨k + 1, by omega, by go_num, int_eq hS.out⟩
      case measure => simp [intOf]; omega
    · obtain rfl : k = n := by omega
      have he := Lib.hid (show l.take k = l from List.take_of_length_le (by rw [hr.len]; omega))
      have hz := Lib.hid (orL_zero l)
      go_wp2
      go_ret
      refine ⟨ret_bool ?_, rfl⟩
      rw [he.out, ← hz.out, Bool.eq_iff_iff]
      simp only [beq_iff_eq]
      omega

/-- Byte by byte, as many as the shorter one has. -/
def xorL (a b : List UInt8) : List UInt8 := List.zipWith (· ^^^ ·) a b
theorem xorL_get {a b : List UInt8} {k : Nat} {x y : UInt8} (h : a[k]? = some x) (h' : b[k]? = some y) : (xorL a b)[k]? = some (x ^^^ y) := by
  simp [xorL, List.getElem?_zipWith, h, h']
theorem u8_xor (x y : UInt8) : bits .xor .u8 (x.toNat : Int) (y.toNat : Int) = ((x ^^^ y).toNat : Int) := by
  have hx : x.toNat ^^^ y.toNat < 2 ^ 8 := Nat.xor_lt_two_pow x.toNat_lt y.toNat_lt
  have ea : ∀ x : UInt8, (BitVec.ofInt 8 (x.toNat : Int)).toNat = x.toNat := by
    intro x
    rw [BitVec.ofInt_natCast, BitVec.toNat_ofNat]; exact Nat.mod_eq_of_lt x.toNat_lt
  show IntKind.u8.wrap ((BitVec.ofInt 8 (x.toNat : Int) ^^^ BitVec.ofInt 8 (y.toNat : Int)).toNat : Int) = _
  rw [BitVec.toNat_xor, ea, ea, UInt8.toNat_xor]
  simp [IntKind.wrap, IntKind.signed, IntKind.bits]
  omega

set_option maxHeartbeats 400000 in
theorem xor_lt (A B : Option Addr) (n m c d : Nat) (a b : List UInt8) (w : World) (ha : Rd w A n a) (hb : Rd w B m b) (hn : n ≤ 140737488355328) (hm : m ≤ 140737488355328) (hlt : m < n) :
    Calls Try.prog 27 #[.slice A n c, .slice B m d] w (Gives 5 w (xorL a b)) := by
  have hl : (xorL a b).length = m := by have := ha.len; have := hb.len; simp [xorL]; omega
  have hmk := make_bytes (P := Try.prog) Try.underlying39 info8 .i64 .i64 m (by omega) (xorL a b) hl
  go_enter Try.func27, Try.ntmps27
  go_wp2_with fail
  clear hmk
  go_loopw [15] (fun i wr => ∃ k : Nat, k ≤ m ∧ i = .int .i64 k ∧ Blk wr w.heap.size 5 (part (xorL a b) k) ∧ Below w.heap.size w wr) (fun i _ => m - (intOf i).toNat)
  case atStart => exact ⟨0, by omega, rfl, Blk.new w _ _, (by (repeat (first | exact Below.refl _ _ | (refine Below.setCell ?_ (by first | omega | (simp; omega) | simp) _) | (refine Below.alloc ?_ (by first | omega | (simp; omega) | simp) _) | apply Below.drew | apply below_drewN)))⟩
  case round =>
    obtain ⟨k, hk, rfl, hB, hbel⟩ := hrel
    by_cases hkl : k < m
    · obtain ⟨b1, o1, x, rfl, hb1, hx, hc1⟩ := (ha.below hbel).at_ (show k < n by omega)
      obtain ⟨b2, o2, y, rfl, hb2, hy, hc2⟩ := (hb.below hbel).at_ (show k < m by omega)
      have hS := Lib.hid (part_set (xorL a b) k _ (xorL_get hx hy))
      have hxy := Lib.hid (u8_xor x y)
      obtain ⟨u, hu⟩ := part_get (xorL a b) k k (by rw [hl]; exact hkl)
      have cc : wr.cell? ⟨w.heap.size, k, none⟩ = some u := (hB.cell k).trans hu
      have ff := hB.frozen k
      have zz := hB.lt
      have S1 := (hB.set_ k (.int .u8 ((x ^^^ y).toNat : Int))).drew
      have q1 : k < n := by omega
      have q2 : k < m := by omega
      clear hu hx hy
      go_wp2_with fail
      go_region
      go_wp2
      go_roundw
      case rel => exact ⟨k + 1, by omega, by go_num, by rw [← hS.out, hxy.out]; exact S1, (by (have q_hbel := Below.size hbel; (try simp at q_hbel); repeat (first | exact Below.refl _ _ | (refine Below.trans ?_ (Below.mono hbel (by first | omega | (simp; omega) | simp))) | (refine Below.setCell ?_ (by first | omega | (simp; omega) | simp) _) | (refine Below.alloc ?_ (by first | omega | (simp; omega) | simp) _) | apply Below.drew | apply below_drewN)))⟩
      case measure => simp [intOf]; omega
    · go_wp2_with fail
      go_ret
      obtain rfl : k = m := by omega
      exact ⟨_, rfl, Fresh.of_blk hB (by omega) (by unfold maxLen; omega) hl (part_done _ _ (by omega)), hbel⟩

set_option maxHeartbeats 400000 in
theorem xor_ge (A B : Option Addr) (n m c d : Nat) (a b : List UInt8) (w : World) (ha : Rd w A n a) (hb : Rd w B m b) (hn : n ≤ 140737488355328) (hm : m ≤ 140737488355328) (hlt : ¬ m < n) :
    Calls Try.prog 27 #[.slice A n c, .slice B m d] w (Gives 5 w (xorL a b)) := by
  have hl : (xorL a b).length = n := by have := ha.len; have := hb.len; simp [xorL]; omega
  have hmk := make_bytes (P := Try.prog) Try.underlying39 info8 .i64 .i64 n (by omega) (xorL a b) hl
  go_enter Try.func27, Try.ntmps27
  go_wp2_with fail
  clear hmk
  go_loopw [15] (fun i wr => ∃ k : Nat, k ≤ n ∧ i = .int .i64 k ∧ Blk wr w.heap.size 5 (part (xorL a b) k) ∧ Below w.heap.size w wr) (fun i _ => n - (intOf i).toNat)
  case atStart => exact ⟨0, by omega, rfl, Blk.new w _ _, (by (repeat (first | exact Below.refl _ _ | (refine Below.setCell ?_ (by first | omega | (simp; omega) | simp) _) | (refine Below.alloc ?_ (by first | omega | (simp; omega) | simp) _) | apply Below.drew | apply below_drewN)))⟩
  case round =>
    obtain ⟨k, hk, rfl, hB, hbel⟩ := hrel
    by_cases hkl : k < n
    · obtain ⟨b1, o1, x, rfl, hb1, hx, hc1⟩ := (ha.below hbel).at_ (show k < n by omega)
      obtain ⟨b2, o2, y, rfl, hb2, hy, hc2⟩ := (hb.below hbel).at_ (show k < m by omega)
      have hS := Lib.hid (part_set (xorL a b) k _ (xorL_get hx hy))
      have hxy := Lib.hid (u8_xor x y)
      obtain ⟨u, hu⟩ := part_get (xorL a b) k k (by rw [hl]; exact hkl)
      have cc : wr.cell? ⟨w.heap.size, k, none⟩ = some u := (hB.cell k).trans hu
      have ff := hB.frozen k
      have zz := hB.lt
      have S1 := (hB.set_ k (.int .u8 ((x ^^^ y).toNat : Int))).drew
      have q1 : k < n := by omega
      have q2 : k < m := by omega
      clear hu hx hy
      go_wp2_with fail
      go_region
      go_wp2
      go_roundw
      case rel => exact ⟨k + 1, by omega, by go_num, by rw [← hS.out, hxy.out]; exact S1, (by (have q_hbel := Below.size hbel; (try simp at q_hbel); repeat (first | exact Below.refl _ _ | (refine Below.trans ?_ (Below.mono hbel (by first | omega | (simp; omega) | simp))) | (refine Below.setCell ?_ (by first | omega | (simp; omega) | simp) _) | (refine Below.alloc ?_ (by first | omega | (simp; omega) | simp) _) | apply Below.drew | apply below_drewN)))⟩
      case measure => simp [intOf]; omega
    · go_wp2_with fail
      go_ret
      obtain rfl : k = n := by omega
      exact ⟨_, rfl, Fresh.of_blk hB (by omega) (by unfold maxLen; omega) hl (part_done _ _ (by omega)), hbel⟩

theorem xor_any (A B : Option Addr) (n m c d : Nat) (a b : List UInt8) (w : World) (ha : Rd w A n a) (hb : Rd w B m b) (hn : n ≤ 140737488355328) (hm : m ≤ 140737488355328) :
    Calls Try.prog 27 #[.slice A n c, .slice B m d] w (Gives 5 w (xorL a b)) := by
  by_cases h : m < n
  · exact xor_lt A B n m c d a b w ha hb hn hm h
  · exact xor_ge A B n m c d a b w ha hb hn hm h
end Go.Proofs.Ytdnjlhcmihmgdaa
