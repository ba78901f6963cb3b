/- bytes.Clone. -/
import Derived.Test.YtidlcplamgajpaaWord
import Derived.Test.YtidlcplamgajpaaKept
namespace Go.Proofs.Ytidlcplamgajpaa
open Go.RowKit

/-- bytes.Clone, of bytes that are known. -/
theorem clone_any (A : Option Addr) (n c : Nat) (l : List UInt8) (w : World) (hr : Rd w A n l) (hn : n ≤ 140737488355328) :
    Calls Try.prog 57 #[.slice A n c] w (Gives 5 w l) := by
  have hlen := Lib.hid hr.len
  by_cases h0 : A = none
  · subst h0
    obtain rfl : l = [] := by
      rcases Nat.eq_zero_or_pos n with h | h
      · exact List.eq_nil_of_length_eq_zero (by rw [hr.len, h])
      · obtain ⟨_, _, h, _⟩ := hr.2 h; cases h
    have hq := fun W : World => Lib.run_eql_slice_nil (P := Try.prog) W 57 5 none n c 0 0 Try.underlying57
    go_enter Try.func57, Try.ntmps57
    go_wp2_with fail
    go_ret
    exact ⟨_, rfl, Fresh.nil _ _ _, (by (repeat (first | exact Below.refl _ _ | (refine Below.setCell ?_ (by first | omega | (simp; omega) | simp) _) | (refine Below.alloc ?_ (by first | omega | (simp; omega) | simp) _) | apply Below.drew | apply below_drewN)))⟩
  · obtain ⟨a, rfl⟩ : ∃ a, A = some a := by cases A with | none => exact absurd rfl h0 | some a => exact ⟨a, rfl⟩
    clear h0
    have hq := fun W : World => Lib.run_eql_slice_nil (P := Try.prog) W 57 5 (some a) n c 0 0 Try.underlying57
    go_enter Try.func57, Try.ntmps57
    go_wp2_with (at_builtin; refine wpList_append_bytes _ rfl (.tmp 5) (.tmp 6) _ rfl w.heap.size 5 Try.underlying57 info8 _ [] rfl (Fresh.of_blk (Blk.new w _ _) (Nat.le_refl _) (by unfold maxLen; omega) rfl rfl) _ _ _ l rfl (hr.alloc _) (by simpa using hn) (by simp) ?_; intro b' w1 hF1 hg1 hb1)
    go_ret
    exact ⟨_, rfl, hF1, (by (have q_hb1 := Below.size hb1; (try simp at q_hb1); repeat (first | exact Below.refl _ _ | (refine Below.trans ?_ (Below.mono hb1 (by first | omega | (simp; omega) | simp))) | (refine Below.setCell ?_ (by first | omega | (simp; omega) | simp) _) | (refine Below.alloc ?_ (by first | omega | (simp; omega) | simp) _) | apply Below.drew | apply below_drewN)))⟩
end Go.Proofs.Ytidlcplamgajpaa
