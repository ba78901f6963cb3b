/- Pages as bytes: of another length the program's Parse takes nothing. -/
import Derived.Test.YtidlcplamgajpaaPgB4
namespace Go.Proofs.Ytidlcplamgajpaa
open Go.RowKit Go.Shelf

set_option maxHeartbeats 1000000 in
theorem pgparse_short (A : Option Addr) (n c : Nat) (w : World) (hn : n ≠ 256) (hm : n ≤ maxLen) :
    Calls Try.prog 25 #[.slice A n c] w fun e w' => e = .returned (.tuple #[.slice none 0 0, .int .i64 4]) ∧ Below w.heap.size w w' := by
  have hn' : ¬ (n : Int) = 256 := by omega
  have hq : ((n : Int) == 256) = false := by simpa using hn'
  go_enter Try.func25, Try.ntmps25
  go_wp2_with fail
  refine bodyPost_ret (v := .tuple #[.slice none 0 0, .int .i64 4]) (by simp [results, Try.f25, go_sem]) rfl ?_
  exact ⟨rfl, (by (repeat (first | exact Below.refl _ _ | (refine Below.setCell ?_ (by first | omega | (simp; omega) | simp) _) | (refine Below.alloc ?_ (by first | omega | (simp; omega) | simp) _) | apply Below.drew | apply below_drewN)))⟩
end Go.Proofs.Ytidlcplamgajpaa
