/- Contracts of the functions on words and bytes: Same, Pad; the document's own. -/
import Derived.Test.YtdnjlhcmihmgdaaWord2
namespace Go.Proofs.Ytdnjlhcmihmgdaa
open Go.RowKit

theorem zero_xor : ∀ (a b : List UInt8), a.length = b.length → (zeroB (xorL a b) = true ↔ a = b)
  | [], [], _ => by simp [zeroB, xorL]
  | x :: a, y :: b, h => by
    have ih := zero_xor a b (by simpa using h)
    simp only [zeroB, xorL, List.zipWith_cons_cons, List.all_cons, Bool.and_eq_true, beq_iff_eq, List.cons.injEq] at ih ⊢
    rw [ih]
    refine and_congr_left fun _ => ?_
    constructor
    · intro h0
      have h1 : x ^^^ y ^^^ y = 0 ^^^ y := by rw [h0]
      rw [UInt8.xor_assoc, UInt8.xor_self] at h1
      simpa using h1
    · rintro rfl
      exact UInt8.xor_self
def sameB (a b : List UInt8) : Bool := decide (a = b)

set_option maxHeartbeats 400000 in
theorem same_any (A B : Option Addr) (n m c d : Nat) (a b : List UInt8) (w : World) (ha : Rd w A n a) (hb : Rd w B m b) (hn : n ≤ 140737488355328) (hm : m ≤ 140737488355328) :
    Calls Try.prog 32 #[.slice A n c, .slice B m d] w fun e w' => e = .returned (.bool (sameB a b)) ∧ Below w.heap.size w w' := by
  by_cases h : n = m
  · subst h
    go_enter Try.func32, Try.ntmps32
    go_wp2_with fail
    refine (xor_any _ _ _ _ _ _ a b _ ha hb hn hm).mono ?_
    rintro e w1 ⟨v, rfl, hF, hb1⟩
    obtain ⟨A1, c1, rfl, hR, _⟩ := hF.rd
    have hx : (xorL a b).length ≤ 140737488355328 := by have := ha.len; simp [xorL]; omega
    go_wp2_with fail
    refine (zero_any _ _ _ _ _ hR (by unfold maxLen; omega)).mono ?_
    rintro e w2 ⟨rfl, rfl⟩
    go_wp2_with fail
    go_ret
    refine ⟨ret_bool ?_, hb1⟩
    rw [Bool.eq_iff_iff, zero_xor a b (by rw [ha.len, hb.len])]
    simp [sameB]
  · have hq : ((n : Int) == (m : Int)) = false := by simp; omega
    go_enter Try.func32, Try.ntmps32
    go_wp2
    go_ret
    refine ⟨ret_bool ?_, Below.refl _ _⟩
    symm
    simp only [sameB, decide_eq_false_iff_not]
    rintro rfl
    exact h (ha.len.symm.trans hb.len)

/-- Padded with noughts, or cut, to n. -/
def padL (n : Nat) (l : List UInt8) : List UInt8 := l.take n ++ List.replicate (n - l.length) 0
theorem padL_len (n : Nat) (l : List UInt8) : (padL n l).length = n := by simp [padL]; omega
theorem lay_pad (n : Nat) (l : List UInt8) : lay (part (padL n l) 0) 0 (l.take n) = ((padL n l).map bv).toArray := by
  apply Array.toList_inj.1
  unfold lay part
  simp only [padL_len, List.take_zero, List.nil_append, List.map_nil, Nat.zero_add, Nat.sub_zero, List.drop_replicate]
  unfold padL
  rw [List.map_append, List.map_replicate, List.length_take, show n - min n l.length = n - l.length from by omega]
  rfl
theorem padL_get (n : Nat) (l : List UInt8) (k : Nat) (hk : k < n) : (padL n l)[k]? = some (l.getD k 0) := by
  unfold padL
  rcases Nat.lt_or_ge k l.length with h | h
  · rw [List.getElem?_append_left (by simp; omega), List.getElem?_take, if_pos hk]
    simp [List.getD, h]
  · rw [List.getElem?_append_right (by simp; omega), List.getElem?_replicate, if_pos (by simp; omega)]
    simp [List.getD, List.getElem?_eq_none h]

set_option maxHeartbeats 400000 in
theorem pad_any (A : Option Addr) (m c : Nat) (l : List UInt8) (n : Nat) (w : World) (ha : Rd w A m l) (n0 : 1 ≤ n) (n1 : n ≤ 65536) :
    Calls Try.prog 28 #[.slice A m c, .int .i64 n] w (Gives 5 w (padL n l)) := by
  have hmk := make_bytes (P := Try.prog) Try.underlying39 info8 .i64 .i64 n (by omega) (padL n l) (padL_len n l)
  have hcp := run_copy_bytes (P := Try.prog) (Blk.new w 5 (part (padL n l) 0)) (ha.alloc _) Try.underlying39 info8 3 0 n n c (by rw [part_size _ _ (by omega), padL_len]; omega)
  go_enter Try.func28, Try.ntmps28
  go_wp2_with fail
  go_ret
  refine ⟨_, rfl, Fresh.of_blk ((Blk.new w _ _).row _) (Nat.le_refl _) (by unfold maxLen; omega) (padL_len n l) (lay_pad n l), ?_⟩
  exact Below.row (by (repeat (first | exact Below.refl _ _ | (refine Below.setCell ?_ (by first | omega | (simp; omega) | simp) _) | (refine Below.alloc ?_ (by first | omega | (simp; omega) | simp) _) | apply Below.drew | apply below_drewN))) (Nat.le_refl _) _

set_option maxHeartbeats 400000 in
theorem pad_none (A : Option Addr) (m c : Nat) (n : Int) (w : World) (hn : n < 1 ∨ 65536 < n) :
    Calls Try.prog 28 #[.slice A m c, .int .i64 n] w (Gives 5 w []) := by
  rcases hn with hn | hn
  all_goals
    go_enter Try.func28, Try.ntmps28
    go_wp2
    go_ret
    exact ⟨_, rfl, Fresh.nil _ _ _, (by (repeat (first | exact Below.refl _ _ | (refine Below.setCell ?_ (by first | omega | (simp; omega) | simp) _) | (refine Below.alloc ?_ (by first | omega | (simp; omega) | simp) _) | apply Below.drew | apply below_drewN)))⟩
end Go.Proofs.Ytdnjlhcmihmgdaa
