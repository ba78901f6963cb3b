/-
  No cell of these rows narrows 'for every input' (looked for: loops, veiled, ifaces, maps, wideKeys, modest, calm, conditions, laid).
  DERIVED. THE GIVEN ROWS OF THIS SEAT. 4 by the template 'for every input the law returns true; each argument reads behind the call as it read before'; 0 by the template 'total and deterministic' (their statements: YthlgagjnlnakkaaTotals.lean).
  GIVEN WITH THE SEED: the statements are not yours to turn. If you find one false, say at which input.
  Laid BY PROGRAM, IN A SANDBOX (cutbox-rows.mjs): the forced cells as the released guide's own fill.sh prints them over the translation 6ad89e935c0e6d76… (all of the seat's roots in one cut). By AI agents, Wed Nov 11 2026. No macro, syntax, notation, axiom, sorry.
-/
import Derived.Test.YthlgagjnlnakkaaChecked
import GoSem.Claim
import GoSem.ClaimJoined
import GoSem.ClaimMapViews
import Derived.JoinedTies
import Derived.KernelRfl
namespace Go.Proofs.Ythlgagjnlnakkaa
/- THE CELL 'sum', in the pinned program and in every row, IS THE sha256 OF THE DUMP (.gsa) THAT YthlgagjnlnakkaaProg.lean LOADS. Nothing in Lean hashes anything: it is a label: what it is worth is what the hold of that sum in a sandbox is worth. -/
noncomputable def Try.pinned : Pinned := { name := "ythlgagjnlnakkaa", sum := "6ad89e935c0e6d76c5c21698ce54ac0061bd01260e1a56251d1319926dff2879", checked := Try.checked }
namespace Rows
def none {H : Type} : Left H := { results := [], args := [] }

/-- 'garderobelaw27.ScriptSame': WHATEVER THE INPUT: true; the input reads as it did. -/
def scriptSameSpec : ChangeSpec := { name := "scriptSame", fn := fun _ => fun
  | [d1, d2] => { results := [.lit (.bool true)], args := [d1, d2] }
  | _ => none }
def scriptSameRow : OpenClaim := { program := "ythlgagjnlnakkaa", sum := "6ad89e935c0e6d76c5c21698ce54ac0061bd01260e1a56251d1319926dff2879", func := "garderobe/garderobelaw27.ScriptSame", spec := "scriptSame", unfollowed := true, recurses := true, apart := false }
def ScriptSameSaid : Prop := scriptSameRow.holds Try.pinned (OpenSpec.ofChange scriptSameSpec)

/-- ITS FALSE NEIGHBOUR: 'it returns false'. Refute it at one input. -/
def scriptSameWrong : ChangeSpec := { name := "scriptSame", fn := fun _ => fun
  | [d1, d2] => { results := [.lit (.bool false)], args := [d1, d2] }
  | _ => none }
def ScriptSameWrongFalsely : Prop := scriptSameRow.holds Try.pinned (OpenSpec.ofChange scriptSameWrong)

/-- 'garderobelaw27.ScriptWrites': WHATEVER THE INPUT: true; the input reads as it did. -/
def scriptWritesSpec : ChangeSpec := { name := "scriptWrites", fn := fun _ => fun
  | [d] => { results := [.lit (.bool true)], args := [d] }
  | _ => none }
def scriptWritesRow : OpenClaim := { program := "ythlgagjnlnakkaa", sum := "6ad89e935c0e6d76c5c21698ce54ac0061bd01260e1a56251d1319926dff2879", func := "garderobe/garderobelaw27.ScriptWrites", spec := "scriptWrites", unfollowed := true, recurses := true, apart := false }
def ScriptWritesSaid : Prop := scriptWritesRow.holds Try.pinned (OpenSpec.ofChange scriptWritesSpec)

/-- ITS FALSE NEIGHBOUR: 'it returns false'. Refute it at one input. -/
def scriptWritesWrong : ChangeSpec := { name := "scriptWrites", fn := fun _ => fun
  | [d] => { results := [.lit (.bool false)], args := [d] }
  | _ => none }
def ScriptWritesWrongFalsely : Prop := scriptWritesRow.holds Try.pinned (OpenSpec.ofChange scriptWritesWrong)

/-- 'garderobelaw27.ScriptReads': WHATEVER THE INPUT: true; the input reads as it did. -/
def scriptReadsSpec : ChangeSpec := { name := "scriptReads", fn := fun _ => fun
  | [d1, d2, d3, d4, d5] => { results := [.lit (.bool true)], args := [d1, d2, d3, d4, d5] }
  | _ => none }
def scriptReadsRow : OpenClaim := { program := "ythlgagjnlnakkaa", sum := "6ad89e935c0e6d76c5c21698ce54ac0061bd01260e1a56251d1319926dff2879", func := "garderobe/garderobelaw27.ScriptReads", spec := "scriptReads", unfollowed := true, recurses := true, apart := false }
def ScriptReadsSaid : Prop := scriptReadsRow.holds Try.pinned (OpenSpec.ofChange scriptReadsSpec)

/-- ITS FALSE NEIGHBOUR: 'it returns false'. Refute it at one input. -/
def scriptReadsWrong : ChangeSpec := { name := "scriptReads", fn := fun _ => fun
  | [d1, d2, d3, d4, d5] => { results := [.lit (.bool false)], args := [d1, d2, d3, d4, d5] }
  | _ => none }
def ScriptReadsWrongFalsely : Prop := scriptReadsRow.holds Try.pinned (OpenSpec.ofChange scriptReadsWrong)

/-- 'garderobelaw27.ScriptJoined': WHATEVER THE INPUT: true; the input reads as it did. -/
def scriptJoinedSpec : ChangeSpec := { name := "scriptJoined", fn := fun _ => fun
  | [d1, d2] => { results := [.lit (.bool true)], args := [d1, d2] }
  | _ => none }
def scriptJoinedRow : OpenClaim := { program := "ythlgagjnlnakkaa", sum := "6ad89e935c0e6d76c5c21698ce54ac0061bd01260e1a56251d1319926dff2879", func := "garderobe/garderobelaw27.ScriptJoined", spec := "scriptJoined", unfollowed := true, recurses := true, apart := false }
def ScriptJoinedSaid : Prop := scriptJoinedRow.holds Try.pinned (OpenSpec.ofChange scriptJoinedSpec)

/-- ITS FALSE NEIGHBOUR: 'it returns false'. Refute it at one input. -/
def scriptJoinedWrong : ChangeSpec := { name := "scriptJoined", fn := fun _ => fun
  | [d1, d2] => { results := [.lit (.bool false)], args := [d1, d2] }
  | _ => none }
def ScriptJoinedWrongFalsely : Prop := scriptJoinedRow.holds Try.pinned (OpenSpec.ofChange scriptJoinedWrong)

/- THE SECOND FORM. 'bulk': how many values and letters a reading holds, each counted each time it is reached (what is shared counts as often as it is met; a slice's spare places count too). A statement '..UptoSaid' is the law's where the arguments, and the package variables that the reading takes, are together of bulk at most 1048576: NARROWER than '..Said'. Prove '..Said' where nothing that the law and all that it calls make is longer than what came in: it says more and counts as full. Else prove '..UptoSaid'. A law counts once. -/
mutual
def uptoBulk {H : Type} : DataW H → Nat
  | .lit (.string bytes) => bytes.length + 1
  | .lit _ => 1
  | .nil => 1
  | .ptr d => uptoBulk d + 1
  | .slice elems spare => uptoBulkAll elems + uptoBulkAll spare + 1
  | .agg parts => uptoBulkAll parts + 1
  | .iface _ d => uptoBulk d + 1
  | .map entries => uptoBulkEntries entries + 1
  | .held _ => 1
def uptoBulkAll {H : Type} : List (DataW H) → Nat
  | [] => 0
  | d :: r => uptoBulk d + uptoBulkAll r
def uptoBulkEntries {H : Type} : List (Lit × DataW H) → Nat
  | [] => 0
  | x :: r => uptoBulkEntry x + uptoBulkEntries r
def uptoBulkEntry {H : Type} : Lit × DataW H → Nat
  | (.string bytes, d) => bytes.length + uptoBulk d + 1
  | (_, d) => uptoBulk d + 1
 end
def uptoSmall : (H : Type) → List (DataW H) → Bool := fun _ ds => decide (uptoBulkAll ds ≤ 1048576)
def OpenSpec.upto (s : _root_.Go.ChangeSpec) : _root_.Go.OpenSpec := { _root_.Go.OpenSpec.ofChange s with cond := some uptoSmall }

/-- 'garderobelaw27.ScriptSame', WHERE WHAT IT READS IS OF BULK AT MOST 1048576: true; the input reads as it did. -/
def scriptSameUptoRow : OpenClaim := { program := "ythlgagjnlnakkaa", sum := "6ad89e935c0e6d76c5c21698ce54ac0061bd01260e1a56251d1319926dff2879", func := "garderobe/garderobelaw27.ScriptSame", spec := "scriptSame", unfollowed := true, recurses := true, apart := false, narrowed := true }
def ScriptSameUptoSaid : Prop := scriptSameUptoRow.holds Try.pinned (OpenSpec.upto scriptSameSpec)

/-- 'garderobelaw27.ScriptWrites', WHERE WHAT IT READS IS OF BULK AT MOST 1048576: true; the input reads as it did. -/
def scriptWritesUptoRow : OpenClaim := { program := "ythlgagjnlnakkaa", sum := "6ad89e935c0e6d76c5c21698ce54ac0061bd01260e1a56251d1319926dff2879", func := "garderobe/garderobelaw27.ScriptWrites", spec := "scriptWrites", unfollowed := true, recurses := true, apart := false, narrowed := true }
def ScriptWritesUptoSaid : Prop := scriptWritesUptoRow.holds Try.pinned (OpenSpec.upto scriptWritesSpec)

/-- 'garderobelaw27.ScriptReads', WHERE WHAT IT READS IS OF BULK AT MOST 1048576: true; the input reads as it did. -/
def scriptReadsUptoRow : OpenClaim := { program := "ythlgagjnlnakkaa", sum := "6ad89e935c0e6d76c5c21698ce54ac0061bd01260e1a56251d1319926dff2879", func := "garderobe/garderobelaw27.ScriptReads", spec := "scriptReads", unfollowed := true, recurses := true, apart := false, narrowed := true }
def ScriptReadsUptoSaid : Prop := scriptReadsUptoRow.holds Try.pinned (OpenSpec.upto scriptReadsSpec)

/-- 'garderobelaw27.ScriptJoined', WHERE WHAT IT READS IS OF BULK AT MOST 1048576: true; the input reads as it did. -/
def scriptJoinedUptoRow : OpenClaim := { program := "ythlgagjnlnakkaa", sum := "6ad89e935c0e6d76c5c21698ce54ac0061bd01260e1a56251d1319926dff2879", func := "garderobe/garderobelaw27.ScriptJoined", spec := "scriptJoined", unfollowed := true, recurses := true, apart := false, narrowed := true }
def ScriptJoinedUptoSaid : Prop := scriptJoinedUptoRow.holds Try.pinned (OpenSpec.upto scriptJoinedSpec)

end Rows
end Go.Proofs.Ythlgagjnlnakkaa
