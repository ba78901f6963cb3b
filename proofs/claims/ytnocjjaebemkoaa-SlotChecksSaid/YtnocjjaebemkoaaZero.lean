/- Are all bytes noughts: word.Zero. -/
import Derived.Test.YtnocjjaebemkoaaWord
namespace Go.Proofs.Ytnocjjaebemkoaa
open Go.RowKit

/-- Are all noughts? -/
def zeroB (l : List UInt8) : Bool := l.all (· == 0)
def orL (l : List UInt8) : Nat := l.foldl (fun a c => a ||| c.toNat) 0
theorem orL_snoc (l : List UInt8) (c : UInt8) : orL (l ++ [c]) = orL l ||| c.toNat := by simp [orL]
theorem orL_lt (l : List UInt8) : orL l < 256 := by
  suffices ∀ (l : List UInt8) (a : Nat), a < 256 → l.foldl (fun a c => a ||| c.toNat) a < 256 from this l 0 (by omega)
  intro l
  induction l with
  | nil => intro a h; exact h
  | cons c r ih => intro a h; exact ih _ (Nat.or_lt_two_pow (n := 8) h c.toNat_lt)
theorem or_zero (a b : Nat) : a ||| b = 0 ↔ a = 0 ∧ b = 0 := Nat.or_eq_zero_iff
theorem orL_zero (l : List UInt8) : (orL l == 0) = zeroB l := by
  have : ∀ (l : List UInt8) (a : Nat), (l.foldl (fun a c => a ||| c.toNat) a = 0) ↔ (a = 0 ∧ zeroB l = true) := by
    intro l
    induction l with
    | nil => intro a; simp [zeroB]
    | cons c r ih =>
      intro a
      rw [List.foldl_cons, ih, Nat.or_eq_zero_iff]
      simp only [zeroB, List.all_cons, Bool.and_eq_true, beq_iff_eq, and_assoc]
      refine and_congr_right fun _ => and_congr_left fun _ => ?_
      exact ⟨fun h => UInt8.toNat_inj.1 h, fun h => by rw [h]; rfl⟩
  rw [Bool.eq_iff_iff, beq_iff_eq]
  have h := this l 0
  simp only [true_and] at h
  exact h

theorem u8_or_nat (a b : Nat) (ha : a < 256) (hb : b < 256) : bits .or .u8 (a : Int) (b : Int) = ((a ||| b : Nat) : Int) := by
  have hx : a ||| b < 2 ^ 8 := Nat.or_lt_two_pow (by omega) (by omega)
  have ea : ∀ x : Nat, x < 256 → (BitVec.ofInt 8 (x : Int)).toNat = x := by
    intro x hx
    rw [BitVec.ofInt_natCast, BitVec.toNat_ofNat]; exact Nat.mod_eq_of_lt (by omega)
  show IntKind.u8.wrap ((BitVec.ofInt 8 (a : Int) ||| BitVec.ofInt 8 (b : Int)).toNat : Int) = _
  rw [BitVec.toNat_or, ea a ha, ea b hb]
  simp [IntKind.wrap, IntKind.signed, IntKind.bits]
  omega

set_option maxHeartbeats 400000 in
theorem zero_any (A : Option Addr) (n c : Nat) (l : List UInt8) (w : World) (hr : Rd w A n l) (hn : n ≤ maxLen) :
    Calls Try.prog 46 #[.slice A n c] w fun e w' => e = .returned (.bool (zeroB l)) ∧ w = w' := by
  unfold maxLen at hn
  go_enter Try.func46, Try.ntmps46
  go_wp2
  go_loop [3, 8] (fun v i => ∃ k : Nat, k ≤ n ∧ i = .int .i64 k ∧ v = .int .u8 (orL (l.take k) : Int)) (fun _ i => n - (intOf i).toNat)
  case atStart => exact ⟨0, by omega, rfl, rfl⟩
  case round =>
    obtain ⟨k, hk, rfl, rfl⟩ := hrel
    by_cases hlt : k < n
    · obtain ⟨b, off, x, rfl, hb, hx, hc⟩ := hr.at_ hlt
      have hS := Lib.hid (show bits .or .u8 (orL (l.take k) : Int) (x.toNat : Int) = (orL (l.take (k + 1)) : Int) by rw [u8_or_nat _ _ (orL_lt _) x.toNat_lt, take_step hx, orL_snoc])
      clear hx
      go_wp2
      go_round
      case rel => exact ⟨k + 1, by omega, by go_num, int_eq hS.out⟩
      case measure => simp [intOf]; omega
    · obtain rfl : k = n := by omega
      have he := Lib.hid (show l.take k = l from List.take_of_length_le (by rw [hr.len]; omega))
      have hz := Lib.hid (orL_zero l)
      go_wp2
      go_ret
      refine ⟨ret_bool ?_, rfl⟩
      rw [he.out, ← hz.out, Bool.eq_iff_iff]
      simp only [beq_iff_eq]
      omega

end Go.Proofs.Ytnocjjaebemkoaa
