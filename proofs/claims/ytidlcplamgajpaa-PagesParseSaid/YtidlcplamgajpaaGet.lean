/- The number of bytes: word.Get. -/
import Derived.Test.YtidlcplamgajpaaWord
namespace Go.Proofs.Ytidlcplamgajpaa
open Go.RowKit

/-- The number of bytes, the lowest first. -/
def getL : List UInt8 → Nat
  | [] => 0
  | c :: r => c.toNat + 256 * getL r
theorem getL_snoc : ∀ (l : List UInt8) (c : UInt8), getL (l ++ [c]) = getL l + c.toNat * 256 ^ l.length
  | [], c => by simp [getL]
  | d :: r, c => by
    rw [List.cons_append, getL, getL_snoc r c, getL, List.length_cons, Nat.pow_succ, Nat.mul_add, Nat.add_assoc, Nat.mul_comm 256 (c.toNat * 256 ^ r.length), Nat.mul_assoc, Nat.mul_comm (256 ^ r.length) 256]
theorem getL_lt : ∀ l : List UInt8, getL l < 256 ^ l.length
  | [] => by simp [getL]
  | c :: r => by
    have h := getL_lt r
    have hc := c.toNat_lt
    rw [getL, List.length_cons, Nat.pow_succ]
    omega
theorem pow8_le (k : Nat) (h : k ≤ 7) : (256 : Nat) ^ (k + 1) ≤ 18446744073709551616 :=
  Nat.le_trans (Nat.pow_le_pow_right (by omega) (show k + 1 ≤ 8 by omega)) (by decide)
theorem get_step (l : List UInt8) (k : Nat) (c : UInt8) (h : l[k]? = some c) (hk : k ≤ 7) :
    bits .or .u64 (getL (l.take k) : Int) ((c.toNat : Int) * 2 ^ (8 * k)) = (getL (l.take (k + 1)) : Int) ∧ (c.toNat : Int) * 2 ^ (8 * k) < 18446744073709551616 := by
  have hl : (l.take k).length = k := by have := (List.getElem?_eq_some_iff.1 h).1; simp; omega
  have h1 := getL_lt (l.take k)
  rw [hl] at h1
  have e : (256 : Nat) ^ k = 2 ^ (8 * k) := by rw [Nat.pow_mul]
  have h2 := pow8_le k hk
  rw [Nat.pow_succ] at h2
  have hc := c.toNat_lt
  have h3 : c.toNat * 256 ^ k < 18446744073709551616 := Nat.lt_of_lt_of_le (Nat.mul_lt_mul_of_pos_right hc (Nat.pow_pos (by omega))) (by omega)
  rw [take_step h, getL_snoc, hl]
  have e2 : (c.toNat : Int) * 2 ^ (8 * k) = ((c.toNat * 2 ^ (8 * k) : Nat) : Int) := by simp
  rw [e2]
  refine ⟨?_, by rw [← e]; omega⟩
  rw [u64_or_nat _ _ (by omega) (by rw [← e]; omega), Nat.or_comm, or_add _ _ (8 * k) (by rw [← e]; exact h1), ← e]
  congr 1
  omega

set_option maxHeartbeats 400000 in
theorem get_any (A : Option Addr) (n c : Nat) (l : List UInt8) (w : World) (hr : Rd w A n l) (hn : n ≤ maxLen) :
    Calls Try.prog 58 #[.slice A n c] w fun e w' => e = .returned (.int .u64 (getL (l.take 8) : Int)) ∧ w = w' := by
  unfold maxLen at hn
  go_enter Try.func58, Try.ntmps58
  go_wp2
  go_loop [3, 8] (fun v i => ∃ k : Nat, k ≤ n ∧ k ≤ 8 ∧ i = .int .i64 k ∧ v = .int .u64 (getL (l.take k) : Int)) (fun _ i => n - (intOf i).toNat)
  case atStart => exact ⟨0, by omega, by omega, rfl, rfl⟩
  case round =>
    obtain ⟨k, hk, hk8, rfl, rfl⟩ := hrel
    by_cases hlt : k < n
    · by_cases h8 : k = 8
      · subst h8
        obtain ⟨b, off, x, rfl, hb, hx, hc⟩ := hr.at_ hlt
        have hX := Lib.hid hx
        clear hx
        go_wp2
        go_ret
        exact ⟨rfl, rfl⟩
      · obtain ⟨b, off, x, rfl, hb, hx, hc⟩ := hr.at_ hlt
        have hX := Lib.hid hx
        have h8' : ((k : Int) == 8) = false := by simp; omega
        have hs := get_step l k x hx (by omega)
        have hS := Lib.hid hs
        clear hx hs
        have hx0 : (x.toNat : Int) ≤ 255 := by have := x.toNat_lt; omega
        go_wp2
        go_round
        case rel =>
          refine ⟨k + 1, by omega, by omega, by go_num, int_eq ?_⟩
          obtain ⟨e1, e2⟩ := hS.out
          rw [IntKind.wrap_u64, Int.emod_eq_of_lt (Int.mul_nonneg (by omega) (Int.pow_nonneg (by omega))) e2, e1]
        case measure => simp [intOf]; omega
    · obtain rfl : k = n := by omega
      have he := Lib.hid (show l.take 8 = l.take k by rw [List.take_of_length_le (by rw [hr.len]; omega), List.take_of_length_le (by rw [hr.len]; omega)])
      go_wp2
      go_ret
      exact ⟨by rw [he.out]; rfl, rfl⟩

end Go.Proofs.Ytidlcplamgajpaa
