/- Heads: the program's and the document's operations on them; the one as the other. -/
import Derived.Test.YtdnjlhcmihmgdaaHeads
import Derived.Test.YtdnjlhcmihmgdaaRow2
import Derived.Test.YtdnjlhcmihmgdaaSlices
import Derived.Test.YtdnjlhcmihmgdaaViews
namespace Go.Proofs.Ytdnjlhcmihmgdaa
open Go.RowKit

theorem ix_doc0 (f : Nat → Int) : ∀ w : World, (Instr.index 64 (.agg (ar f)) (.int .i64 0)).run Try.prog w = .ok (.int .u64 (f 0)) w := fun _ => by kernel_rfl
theorem ix_doc1 (f : Nat → Int) : ∀ w : World, (Instr.index 64 (.agg (ar f)) (.int .i64 1)).run Try.prog w = .ok (.int .u64 (f 1)) w := fun _ => by kernel_rfl
theorem ix_doc2 (f : Nat → Int) : ∀ w : World, (Instr.index 64 (.agg (ar f)) (.int .i64 2)).run Try.prog w = .ok (.int .u64 (f 2)) w := fun _ => by kernel_rfl
theorem ix_doc3 (f : Nat → Int) : ∀ w : World, (Instr.index 64 (.agg (ar f)) (.int .i64 3)).run Try.prog w = .ok (.int .u64 (f 3)) w := fun _ => by kernel_rfl
theorem ix_doc4 (f : Nat → Int) : ∀ w : World, (Instr.index 64 (.agg (ar f)) (.int .i64 4)).run Try.prog w = .ok (.int .u64 (f 4)) w := fun _ => by kernel_rfl
theorem ix_doc5 (f : Nat → Int) : ∀ w : World, (Instr.index 64 (.agg (ar f)) (.int .i64 5)).run Try.prog w = .ok (.int .u64 (f 5)) w := fun _ => by kernel_rfl
theorem ix_doc6 (f : Nat → Int) : ∀ w : World, (Instr.index 64 (.agg (ar f)) (.int .i64 6)).run Try.prog w = .ok (.int .u64 (f 6)) w := fun _ => by kernel_rfl
theorem ix_doc7 (f : Nat → Int) : ∀ w : World, (Instr.index 64 (.agg (ar f)) (.int .i64 7)).run Try.prog w = .ok (.int .u64 (f 7)) w := fun _ => by kernel_rfl
theorem ix_doc8 (f : Nat → Int) : ∀ w : World, (Instr.index 64 (.agg (ar f)) (.int .i64 8)).run Try.prog w = .ok (.int .u64 (f 8)) w := fun _ => by kernel_rfl
theorem ix_doc9 (f : Nat → Int) : ∀ w : World, (Instr.index 64 (.agg (ar f)) (.int .i64 9)).run Try.prog w = .ok (.int .u64 (f 9)) w := fun _ => by kernel_rfl
theorem ix_doc10 (f : Nat → Int) : ∀ w : World, (Instr.index 64 (.agg (ar f)) (.int .i64 10)).run Try.prog w = .ok (.int .u64 (f 10)) w := fun _ => by kernel_rfl
theorem ix_doc11 (f : Nat → Int) : ∀ w : World, (Instr.index 64 (.agg (ar f)) (.int .i64 11)).run Try.prog w = .ok (.int .u64 (f 11)) w := fun _ => by kernel_rfl
theorem ix_doc12 (f : Nat → Int) : ∀ w : World, (Instr.index 64 (.agg (ar f)) (.int .i64 12)).run Try.prog w = .ok (.int .u64 (f 12)) w := fun _ => by kernel_rfl
theorem ix_doc13 (f : Nat → Int) : ∀ w : World, (Instr.index 64 (.agg (ar f)) (.int .i64 13)).run Try.prog w = .ok (.int .u64 (f 13)) w := fun _ => by kernel_rfl
theorem ix_doc14 (f : Nat → Int) : ∀ w : World, (Instr.index 64 (.agg (ar f)) (.int .i64 14)).run Try.prog w = .ok (.int .u64 (f 14)) w := fun _ => by kernel_rfl
theorem ix_doc15 (f : Nat → Int) : ∀ w : World, (Instr.index 64 (.agg (ar f)) (.int .i64 15)).run Try.prog w = .ok (.int .u64 (f 15)) w := fun _ => by kernel_rfl
theorem ix_doc (f : Nat → Int) {k : Nat} (hk : k < 16) : ∀ w : World, (Instr.index 64 (.agg (ar f)) (.int .i64 (k : Int))).run Try.prog w = .ok (.int .u64 (f k)) w := by
  intro w
  have h : k = 0 ∨ k = 1 ∨ k = 2 ∨ k = 3 ∨ k = 4 ∨ k = 5 ∨ k = 6 ∨ k = 7 ∨ k = 8 ∨ k = 9 ∨ k = 10 ∨ k = 11 ∨ k = 12 ∨ k = 13 ∨ k = 14 ∨ k = 15 := by omega
  rcases h with rfl | rfl | rfl | rfl | rfl | rfl | rfl | rfl | rfl | rfl | rfl | rfl | rfl | rfl | rfl | rfl
  · exact ix_doc0 f w
  · exact ix_doc1 f w
  · exact ix_doc2 f w
  · exact ix_doc3 f w
  · exact ix_doc4 f w
  · exact ix_doc5 f w
  · exact ix_doc6 f w
  · exact ix_doc7 f w
  · exact ix_doc8 f w
  · exact ix_doc9 f w
  · exact ix_doc10 f w
  · exact ix_doc11 f w
  · exact ix_doc12 f w
  · exact ix_doc13 f w
  · exact ix_doc14 f w
  · exact ix_doc15 f w
theorem ix_own0 (f : Nat → Int) : ∀ w : World, (Instr.index 68 (.agg (ar f)) (.int .i64 0)).run Try.prog w = .ok (.int .u64 (f 0)) w := fun _ => by kernel_rfl
theorem ix_own1 (f : Nat → Int) : ∀ w : World, (Instr.index 68 (.agg (ar f)) (.int .i64 1)).run Try.prog w = .ok (.int .u64 (f 1)) w := fun _ => by kernel_rfl
theorem ix_own2 (f : Nat → Int) : ∀ w : World, (Instr.index 68 (.agg (ar f)) (.int .i64 2)).run Try.prog w = .ok (.int .u64 (f 2)) w := fun _ => by kernel_rfl
theorem ix_own3 (f : Nat → Int) : ∀ w : World, (Instr.index 68 (.agg (ar f)) (.int .i64 3)).run Try.prog w = .ok (.int .u64 (f 3)) w := fun _ => by kernel_rfl
theorem ix_own4 (f : Nat → Int) : ∀ w : World, (Instr.index 68 (.agg (ar f)) (.int .i64 4)).run Try.prog w = .ok (.int .u64 (f 4)) w := fun _ => by kernel_rfl
theorem ix_own5 (f : Nat → Int) : ∀ w : World, (Instr.index 68 (.agg (ar f)) (.int .i64 5)).run Try.prog w = .ok (.int .u64 (f 5)) w := fun _ => by kernel_rfl
theorem ix_own6 (f : Nat → Int) : ∀ w : World, (Instr.index 68 (.agg (ar f)) (.int .i64 6)).run Try.prog w = .ok (.int .u64 (f 6)) w := fun _ => by kernel_rfl
theorem ix_own7 (f : Nat → Int) : ∀ w : World, (Instr.index 68 (.agg (ar f)) (.int .i64 7)).run Try.prog w = .ok (.int .u64 (f 7)) w := fun _ => by kernel_rfl
theorem ix_own8 (f : Nat → Int) : ∀ w : World, (Instr.index 68 (.agg (ar f)) (.int .i64 8)).run Try.prog w = .ok (.int .u64 (f 8)) w := fun _ => by kernel_rfl
theorem ix_own9 (f : Nat → Int) : ∀ w : World, (Instr.index 68 (.agg (ar f)) (.int .i64 9)).run Try.prog w = .ok (.int .u64 (f 9)) w := fun _ => by kernel_rfl
theorem ix_own10 (f : Nat → Int) : ∀ w : World, (Instr.index 68 (.agg (ar f)) (.int .i64 10)).run Try.prog w = .ok (.int .u64 (f 10)) w := fun _ => by kernel_rfl
theorem ix_own11 (f : Nat → Int) : ∀ w : World, (Instr.index 68 (.agg (ar f)) (.int .i64 11)).run Try.prog w = .ok (.int .u64 (f 11)) w := fun _ => by kernel_rfl
theorem ix_own12 (f : Nat → Int) : ∀ w : World, (Instr.index 68 (.agg (ar f)) (.int .i64 12)).run Try.prog w = .ok (.int .u64 (f 12)) w := fun _ => by kernel_rfl
theorem ix_own13 (f : Nat → Int) : ∀ w : World, (Instr.index 68 (.agg (ar f)) (.int .i64 13)).run Try.prog w = .ok (.int .u64 (f 13)) w := fun _ => by kernel_rfl
theorem ix_own14 (f : Nat → Int) : ∀ w : World, (Instr.index 68 (.agg (ar f)) (.int .i64 14)).run Try.prog w = .ok (.int .u64 (f 14)) w := fun _ => by kernel_rfl
theorem ix_own15 (f : Nat → Int) : ∀ w : World, (Instr.index 68 (.agg (ar f)) (.int .i64 15)).run Try.prog w = .ok (.int .u64 (f 15)) w := fun _ => by kernel_rfl
theorem ix_own (f : Nat → Int) {k : Nat} (hk : k < 16) : ∀ w : World, (Instr.index 68 (.agg (ar f)) (.int .i64 (k : Int))).run Try.prog w = .ok (.int .u64 (f k)) w := by
  intro w
  have h : k = 0 ∨ k = 1 ∨ k = 2 ∨ k = 3 ∨ k = 4 ∨ k = 5 ∨ k = 6 ∨ k = 7 ∨ k = 8 ∨ k = 9 ∨ k = 10 ∨ k = 11 ∨ k = 12 ∨ k = 13 ∨ k = 14 ∨ k = 15 := by omega
  rcases h with rfl | rfl | rfl | rfl | rfl | rfl | rfl | rfl | rfl | rfl | rfl | rfl | rfl | rfl | rfl | rfl
  · exact ix_own0 f w
  · exact ix_own1 f w
  · exact ix_own2 f w
  · exact ix_own3 f w
  · exact ix_own4 f w
  · exact ix_own5 f w
  · exact ix_own6 f w
  · exact ix_own7 f w
  · exact ix_own8 f w
  · exact ix_own9 f w
  · exact ix_own10 f w
  · exact ix_own11 f w
  · exact ix_own12 f w
  · exact ix_own13 f w
  · exact ix_own14 f w
  · exact ix_own15 f w

end Go.Proofs.Ytdnjlhcmihmgdaa
