/- Bytes padded: the document's Pad. -/
import Derived.Test.YtnocjjaebemkoaaRefNum
namespace Go.Proofs.Ytnocjjaebemkoaa
open Go.RowKit

/-- Padded with noughts, or cut, to n. -/
def padL (n : Nat) (l : List UInt8) : List UInt8 := l.take n ++ List.replicate (n - l.length) 0
theorem padL_len (n : Nat) (l : List UInt8) : (padL n l).length = n := by simp [padL]; omega
theorem lay_pad (n : Nat) (l : List UInt8) : lay (part (padL n l) 0) 0 (l.take n) = ((padL n l).map bv).toArray := by
  apply Array.toList_inj.1
  unfold lay part
  simp only [padL_len, List.take_zero, List.nil_append, List.map_nil, Nat.zero_add, Nat.sub_zero, List.drop_replicate]
  unfold padL
  rw [List.map_append, List.map_replicate, List.length_take, show n - min n l.length = n - l.length from by omega]
  rfl
theorem padL_get (n : Nat) (l : List UInt8) (k : Nat) (hk : k < n) : (padL n l)[k]? = some (l.getD k 0) := by
  unfold padL
  rcases Nat.lt_or_ge k l.length with h | h
  · rw [List.getElem?_append_left (by simp; omega), List.getElem?_take, if_pos hk]
    simp [List.getD, h]
  · rw [List.getElem?_append_right (by simp; omega), List.getElem?_replicate, if_pos (by simp; omega)]
    simp [List.getD, List.getElem?_eq_none h]

theorem getD_padL (l : List UInt8) (k : Nat) (h : l.length ≤ k) : l.getD k 0 = 0 := by simp [List.getD, List.getElem?_eq_none h]
theorem padL_step (n : Nat) (l : List UInt8) (k : Nat) (hk : k < n) : (padL n l).take (k + 1) = (padL n l).take k ++ [l.getD k 0] := take_step (padL_get n l k hk)

set_option maxHeartbeats 400000 in
theorem rpad_any (A : Option Addr) (m c : Nat) (l : List UInt8) (n : Nat) (w : World) (ha : Rd w A m l) (hm : m ≤ 140737488355328) (n1 : n ≤ 65536) :
    Calls Try.prog 37 #[.slice A m c, .int .i64 n] w (Gives 5 w (padL n l)) := by
  go_enter Try.func37, Try.ntmps37
  go_wp2_with fail
  go_loopw [5, 6] (fun b i wr => ∃ k : Nat, k ≤ n ∧ i = .int .i64 k ∧ Fresh 5 w.heap.size wr b ((padL n l).take k) ∧ Below w.heap.size w wr) (fun _ i _ => n - (intOf i).toNat)
  case atStart => exact ⟨0, by omega, rfl, Fresh.nil _ _ _, Below.refl _ _⟩
  case round =>
    obtain ⟨k, hk, rfl, hF, hbel⟩ := hrel
    have hbz := hbel.size
    by_cases hlt : k < n
    · have hP := Lib.hid (padL_step n l k hlt)
      have hlen : ((padL n l).take k).length ≤ 65536 := by rw [List.length_take]; omega
      by_cases hkm : k < m
      · obtain ⟨b, off, x, rfl, hb, hx, hcc⟩ := (ha.below hbel).at_ hkm
        have hX := Lib.hid (show l.getD k 0 = x by simp [List.getD, hx])
        clear hx
        go_wp2_with (at_builtin; refine wpList_append_bytes _ rfl (.tmp 23) (.tmp 25) _ rfl w.heap.size 5 Try.underlying32 info8 _ _ rfl (hF.alloc _) _ _ _ [x] rfl (Rd.byte _ _ _ _ rfl) (by omega) (by simp; omega) ?_; intro b' w1 hF1 hg1 hb1)
        go_roundw
        case rel => exact ⟨k + 1, by omega, by go_num, by rw [hP.out, hX.out]; exact hF1, (by (have q_hb1 := Below.size hb1; (try simp at q_hb1); have q_hbel := Below.size hbel; (try simp at q_hbel); repeat (first | exact Below.refl _ _ | (refine Below.trans ?_ (Below.mono hb1 (by first | omega | (simp; omega) | simp))) | (refine Below.trans ?_ (Below.mono hbel (by first | omega | (simp; omega) | simp))) | (refine Below.setCell ?_ (by first | omega | (simp; omega) | simp) _) | (refine Below.alloc ?_ (by first | omega | (simp; omega) | simp) _) | apply Below.drew | apply below_drewN)))⟩
        case measure => simp [intOf] <;> omega
      · have hX := Lib.hid (getD_padL l k (by rw [ha.len]; omega))
        go_wp2_with (at_builtin; refine wpList_append_bytes _ rfl (.tmp 23) (.tmp 25) _ rfl w.heap.size 5 Try.underlying32 info8 _ _ rfl (hF.alloc _) _ _ _ [0] rfl (Rd.byte _ _ _ _ rfl) (by omega) (by simp; omega) ?_; intro b' w1 hF1 hg1 hb1)
        go_roundw
        case rel => exact ⟨k + 1, by omega, by go_num, by rw [hP.out, hX.out]; exact hF1, (by (have q_hb1 := Below.size hb1; (try simp at q_hb1); have q_hbel := Below.size hbel; (try simp at q_hbel); repeat (first | exact Below.refl _ _ | (refine Below.trans ?_ (Below.mono hb1 (by first | omega | (simp; omega) | simp))) | (refine Below.trans ?_ (Below.mono hbel (by first | omega | (simp; omega) | simp))) | (refine Below.setCell ?_ (by first | omega | (simp; omega) | simp) _) | (refine Below.alloc ?_ (by first | omega | (simp; omega) | simp) _) | apply Below.drew | apply below_drewN)))⟩
        case measure => simp [intOf] <;> omega
    · obtain rfl : k = n := by omega
      have hT := Lib.hid (show (padL k l).take k = padL k l from List.take_of_length_le (by rw [padL_len]; omega))
      go_wp2_with fail
      go_ret
      exact ⟨_, rfl, by rw [← hT.out]; exact hF, hbel⟩
end Go.Proofs.Ytnocjjaebemkoaa
