/- Bytes from the last one on. -/
import Derived.Test.YtdnjlhcmihmgdaaWord4
namespace Go.Proofs.Ytdnjlhcmihmgdaa
open Go.RowKit

theorem turn_snoc (l : List UInt8) (k : Nat) (c : UInt8) (h : l[k]? = some c) : (l.drop k).reverse = (l.drop (k + 1)).reverse ++ [c] := by
  have hk : k < l.length := (List.getElem?_eq_some_iff.1 h).1
  have e : l[k] = c := (List.getElem?_eq_some_iff.1 h).2
  rw [List.drop_eq_getElem_cons hk, List.reverse_cons, e]

set_option maxHeartbeats 400000 in
theorem turned_any (A : Option Addr) (n c : Nat) (l : List UInt8) (w : World) (hr : Rd w A n l) (hn : n ≤ 140737488355328) :
    Calls Try.prog 24 #[.slice A n c] w (Gives 5 w l.reverse) := by
  go_enter Try.func24, Try.ntmps24
  go_wp2_with fail
  go_loopw [3, 4] (fun b i wr => ∃ k : Nat, k ≤ n ∧ i = .int .i64 ((k : Int) - 1) ∧ Fresh 5 w.heap.size wr b (l.drop k).reverse ∧ Below w.heap.size w wr) (fun _ i _ => (intOf i + 1).toNat)
  case atStart => exact ⟨n, by omega, rfl, by rw [List.drop_of_length_le (by rw [hr.len]; omega)]; exact Fresh.nil _ _ _, Below.refl _ _⟩
  case round =>
    obtain ⟨k, hk, rfl, hF, hbel⟩ := hrel
    by_cases hlt : 1 ≤ k
    · obtain ⟨j, rfl⟩ : ∃ j, k = j + 1 := ⟨k - 1, by omega⟩
      obtain ⟨b, off, x, rfl, hb, hx, hc⟩ := (hr.below hbel).at_ (show j < n by omega)
      have hX := Lib.hid hx
      have hbz := hbel.size
      clear hx
      rw [show (((j + 1 : Nat) : Int) - 1) = (j : Int) from by omega]
      go_wp2_with (at_builtin; refine wpList_append_bytes _ rfl (.tmp 12) (.tmp 17) _ rfl w.heap.size 5 Try.underlying39 info8 _ _ rfl (hF.alloc _) _ _ _ [x] rfl (Rd.byte _ _ _ _ rfl) (by rw [List.length_reverse, List.length_drop, hr.len]; omega) (by simp; omega) ?_; intro b' w1 hF1 hg1 hb1)
      go_roundw
      case rel => exact ⟨j, by omega, rfl, by rw [turn_snoc l j x hX.out]; exact hF1, (by (have q_hb1 := Below.size hb1; (try simp at q_hb1); have q_hbel := Below.size hbel; (try simp at q_hbel); repeat (first | exact Below.refl _ _ | (refine Below.trans ?_ (Below.mono hb1 (by first | omega | (simp; omega) | simp))) | (refine Below.trans ?_ (Below.mono hbel (by first | omega | (simp; omega) | simp))) | (refine Below.setCell ?_ (by first | omega | (simp; omega) | simp) _) | (refine Below.alloc ?_ (by first | omega | (simp; omega) | simp) _) | apply Below.drew | apply below_drewN)))⟩
      case measure => simp [intOf] <;> omega
    · obtain rfl : k = 0 := by omega
      go_wp2_with fail
      go_ret
      exact ⟨_, rfl, hF, hbel⟩

end Go.Proofs.Ytdnjlhcmihmgdaa
