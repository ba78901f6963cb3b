/- Bytes padded: word.Pad. -/
import Derived.Test.YtidlcplamgajpaaWord
namespace Go.Proofs.Ytidlcplamgajpaa
open Go.RowKit

/-- Padded with noughts, or cut, to n. -/
def padL (n : Nat) (l : List UInt8) : List UInt8 := l.take n ++ List.replicate (n - l.length) 0
theorem padL_len (n : Nat) (l : List UInt8) : (padL n l).length = n := by simp [padL]; omega
theorem lay_pad (n : Nat) (l : List UInt8) : lay (part (padL n l) 0) 0 (l.take n) = ((padL n l).map bv).toArray := by
  apply Array.toList_inj.1
  unfold lay part
  simp only [padL_len, List.take_zero, List.nil_append, List.map_nil, Nat.zero_add, Nat.sub_zero, List.drop_replicate]
  unfold padL
  rw [List.map_append, List.map_replicate, List.length_take, show n - min n l.length = n - l.length from by omega]
  rfl
theorem padL_get (n : Nat) (l : List UInt8) (k : Nat) (hk : k < n) : (padL n l)[k]? = some (l.getD k 0) := by
  unfold padL
  rcases Nat.lt_or_ge k l.length with h | h
  · rw [List.getElem?_append_left (by simp; omega), List.getElem?_take, if_pos hk]
    simp [List.getD, h]
  · rw [List.getElem?_append_right (by simp; omega), List.getElem?_replicate, if_pos (by simp; omega)]
    simp [List.getD, List.getElem?_eq_none h]

set_option maxRecDepth 100000 in
set_option maxHeartbeats 400000 in
theorem pad_any (A : Option Addr) (m c : Nat) (l : List UInt8) (n : Nat) (w : World) (ha : Rd w A m l) (n0 : 1 ≤ n) (n1 : n ≤ 65536) :
    Calls Try.prog 51 #[.slice A m c, .int .i64 n] w (Gives 5 w (padL n l)) := by
  have hmk := make_bytes (P := Try.prog) Try.underlying57 info8 .i64 .i64 n (by omega) (padL n l) (padL_len n l)
  have hcp := run_copy_bytes (P := Try.prog) (Blk.new w 5 (part (padL n l) 0)) (ha.alloc _) Try.underlying57 info8 3 0 n n c (by rw [part_size _ _ (by omega), padL_len]; omega)
  go_enter Try.func51, Try.ntmps51
  go_wp2_with fail
  go_ret
  refine ⟨_, rfl, Fresh.of_blk ((Blk.new w _ _).row _) (Nat.le_refl _) (by unfold maxLen; omega) (padL_len n l) (lay_pad n l), ?_⟩
  exact Below.row (by (repeat (first | exact Below.refl _ _ | (refine Below.setCell ?_ (by first | omega | (simp; omega) | simp) _) | (refine Below.alloc ?_ (by first | omega | (simp; omega) | simp) _) | apply Below.drew | apply below_drewN))) (Nat.le_refl _) _

set_option maxHeartbeats 400000 in
theorem pad_none (A : Option Addr) (m c : Nat) (n : Int) (w : World) (hn : n < 1 ∨ 65536 < n) :
    Calls Try.prog 51 #[.slice A m c, .int .i64 n] w (Gives 5 w []) := by
  rcases hn with hn | hn
  all_goals
    go_enter Try.func51, Try.ntmps51
    go_wp2
    go_ret
    exact ⟨_, rfl, Fresh.nil _ _ _, (by (repeat (first | exact Below.refl _ _ | (refine Below.setCell ?_ (by first | omega | (simp; omega) | simp) _) | (refine Below.alloc ?_ (by first | omega | (simp; omega) | simp) _) | apply Below.drew | apply below_drewN)))⟩
end Go.Proofs.Ytidlcplamgajpaa
