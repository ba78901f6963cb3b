/- Contracts of the functions on words and bytes: Same. -/
import Derived.Test.YtdnjlhcmihmgdaaWord2
import Derived.Test.YtdnjlhcmihmgdaaPad
namespace Go.Proofs.Ytdnjlhcmihmgdaa
open Go.RowKit

theorem zero_xor : ∀ (a b : List UInt8), a.length = b.length → (zeroB (xorL a b) = true ↔ a = b)
  | [], [], _ => by simp [zeroB, xorL]
  | x :: a, y :: b, h => by
    have ih := zero_xor a b (by simpa using h)
    simp only [zeroB, xorL, List.zipWith_cons_cons, List.all_cons, Bool.and_eq_true, beq_iff_eq, List.cons.injEq] at ih ⊢
    rw [ih]
    refine and_congr_left fun _ => ?_
    constructor
    · intro h0
      have h1 : x ^^^ y ^^^ y = 0 ^^^ y := by rw [h0]
      rw [UInt8.xor_assoc, UInt8.xor_self] at h1
      simpa using h1
    · rintro rfl
      exact UInt8.xor_self
def sameB (a b : List UInt8) : Bool := decide (a = b)

set_option maxHeartbeats 400000 in
theorem same_any (A B : Option Addr) (n m c d : Nat) (a b : List UInt8) (w : World) (ha : Rd w A n a) (hb : Rd w B m b) (hn : n ≤ 140737488355328) (hm : m ≤ 140737488355328) :
    Calls Try.prog 32 #[.slice A n c, .slice B m d] w fun e w' => e = .returned (.bool (sameB a b)) ∧ Below w.heap.size w w' := by
  by_cases h : n = m
  · subst h
    go_enter Try.func32, Try.ntmps32
    go_wp2_with fail
    refine (xor_any _ _ _ _ _ _ a b _ ha hb hn hm).mono ?_
    rintro e w1 ⟨v, rfl, hF, hb1⟩
    obtain ⟨A1, c1, rfl, hR, _⟩ := hF.rd
    have hx : (xorL a b).length ≤ 140737488355328 := by have := ha.len; simp [xorL]; omega
    go_wp2_with fail
    refine (zero_any _ _ _ _ _ hR (by unfold maxLen; omega)).mono ?_
    rintro e w2 ⟨rfl, rfl⟩
    go_wp2_with fail
    go_ret
    refine ⟨ret_bool ?_, hb1⟩
    rw [Bool.eq_iff_iff, zero_xor a b (by rw [ha.len, hb.len])]
    simp [sameB]
  · have hq : ((n : Int) == (m : Int)) = false := by simp; omega
    go_enter Try.func32, Try.ntmps32
    go_wp2
    go_ret
    refine ⟨ret_bool ?_, Below.refl _ _⟩
    symm
    simp only [sameB, decide_eq_false_iff_not]
    rintro rfl
    exact h (ha.len.symm.trans hb.len)

end Go.Proofs.Ytdnjlhcmihmgdaa
