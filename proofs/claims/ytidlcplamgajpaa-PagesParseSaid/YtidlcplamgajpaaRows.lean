/-
  No cell of these rows narrows 'for every input' (looked for: loops, veiled, ifaces, maps, wideKeys, modest, calm, conditions, laid).
  DERIVED. THE GIVEN ROWS OF THIS SEAT. 7 by the template 'for every input the law returns true; each argument reads behind the call as it read before'; 0 by the template 'total and deterministic' (their statements: YtidlcplamgajpaaTotals.lean).
  GIVEN WITH THE SEED: the statements are not yours to turn. If you find one false, say at which input.
  Laid BY PROGRAM, IN A SANDBOX (cutbox-rows.mjs): the forced cells as the released guide's own fill.sh prints them over the translation 458e1c3922873877… (all of the seat's roots in one cut). By AI agents, Wed Nov 11 2026. No macro, syntax, notation, axiom, sorry.
-/
import Derived.Test.YtidlcplamgajpaaChecked
import GoSem.Claim
import GoSem.ClaimJoined
import GoSem.ClaimMapViews
import Derived.JoinedTies
import Derived.KernelRfl
namespace Go.Proofs.Ytidlcplamgajpaa
/- THE CELL 'sum', in the pinned program and in every row, IS THE sha256 OF THE DUMP (.gsa) THAT YtidlcplamgajpaaProg.lean LOADS. Nothing in Lean hashes anything: it is a label: what it is worth is what the hold of that sum in a sandbox is worth. -/
noncomputable def Try.pinned : Pinned := { name := "ytidlcplamgajpaa", sum := "458e1c39228738777051b48d49dad509043970c1498cbeb5252f3d1c45f869fe", checked := Try.checked }
namespace Rows
def none {H : Type} : Left H := { results := [], args := [] }

/-- 'garderobelaw19.PagesRuns': WHATEVER THE INPUT: true; the input reads as it did. -/
def pagesRunsSpec : ChangeSpec := { name := "pagesRuns", fn := fun _ => fun
  | [d1, d2] => { results := [.lit (.bool true)], args := [d1, d2] }
  | _ => none }
def pagesRunsRow : OpenClaim := { program := "ytidlcplamgajpaa", sum := "458e1c39228738777051b48d49dad509043970c1498cbeb5252f3d1c45f869fe", func := "garderobe/garderobelaw19.PagesRuns", spec := "pagesRuns", unfollowed := true, recurses := true, apart := false }
def PagesRunsSaid : Prop := pagesRunsRow.holds Try.pinned (OpenSpec.ofChange pagesRunsSpec)

/-- ITS FALSE NEIGHBOUR: 'it returns false'. Refute it at one input. -/
def pagesRunsWrong : ChangeSpec := { name := "pagesRuns", fn := fun _ => fun
  | [d1, d2] => { results := [.lit (.bool false)], args := [d1, d2] }
  | _ => none }
def PagesRunsWrongFalsely : Prop := pagesRunsRow.holds Try.pinned (OpenSpec.ofChange pagesRunsWrong)

/-- 'garderobelaw19.PagesPlays': WHATEVER THE INPUT: true; the input reads as it did. -/
def pagesPlaysSpec : ChangeSpec := { name := "pagesPlays", fn := fun _ => fun
  | [d1, d2] => { results := [.lit (.bool true)], args := [d1, d2] }
  | _ => none }
def pagesPlaysRow : OpenClaim := { program := "ytidlcplamgajpaa", sum := "458e1c39228738777051b48d49dad509043970c1498cbeb5252f3d1c45f869fe", func := "garderobe/garderobelaw19.PagesPlays", spec := "pagesPlays", unfollowed := true, recurses := true, apart := false }
def PagesPlaysSaid : Prop := pagesPlaysRow.holds Try.pinned (OpenSpec.ofChange pagesPlaysSpec)

/-- ITS FALSE NEIGHBOUR: 'it returns false'. Refute it at one input. -/
def pagesPlaysWrong : ChangeSpec := { name := "pagesPlays", fn := fun _ => fun
  | [d1, d2] => { results := [.lit (.bool false)], args := [d1, d2] }
  | _ => none }
def PagesPlaysWrongFalsely : Prop := pagesPlaysRow.holds Try.pinned (OpenSpec.ofChange pagesPlaysWrong)

/-- 'garderobelaw19.PagesChecks': WHATEVER THE INPUT: true; the input reads as it did. -/
def pagesChecksSpec : ChangeSpec := { name := "pagesChecks", fn := fun _ => fun
  | [d1, d2] => { results := [.lit (.bool true)], args := [d1, d2] }
  | _ => none }
def pagesChecksRow : OpenClaim := { program := "ytidlcplamgajpaa", sum := "458e1c39228738777051b48d49dad509043970c1498cbeb5252f3d1c45f869fe", func := "garderobe/garderobelaw19.PagesChecks", spec := "pagesChecks", unfollowed := true, recurses := true, apart := false }
def PagesChecksSaid : Prop := pagesChecksRow.holds Try.pinned (OpenSpec.ofChange pagesChecksSpec)

/-- ITS FALSE NEIGHBOUR: 'it returns false'. Refute it at one input. -/
def pagesChecksWrong : ChangeSpec := { name := "pagesChecks", fn := fun _ => fun
  | [d1, d2] => { results := [.lit (.bool false)], args := [d1, d2] }
  | _ => none }
def PagesChecksWrongFalsely : Prop := pagesChecksRow.holds Try.pinned (OpenSpec.ofChange pagesChecksWrong)

/-- 'garderobelaw19.PagesUndo': WHATEVER THE INPUT: true; the input reads as it did. -/
def pagesUndoSpec : ChangeSpec := { name := "pagesUndo", fn := fun _ => fun
  | [d1, d2, d3, d4] => { results := [.lit (.bool true)], args := [d1, d2, d3, d4] }
  | _ => none }
def pagesUndoRow : OpenClaim := { program := "ytidlcplamgajpaa", sum := "458e1c39228738777051b48d49dad509043970c1498cbeb5252f3d1c45f869fe", func := "garderobe/garderobelaw19.PagesUndo", spec := "pagesUndo", unfollowed := true, recurses := true, apart := false }
def PagesUndoSaid : Prop := pagesUndoRow.holds Try.pinned (OpenSpec.ofChange pagesUndoSpec)

/-- ITS FALSE NEIGHBOUR: 'it returns false'. Refute it at one input. -/
def pagesUndoWrong : ChangeSpec := { name := "pagesUndo", fn := fun _ => fun
  | [d1, d2, d3, d4] => { results := [.lit (.bool false)], args := [d1, d2, d3, d4] }
  | _ => none }
def PagesUndoWrongFalsely : Prop := pagesUndoRow.holds Try.pinned (OpenSpec.ofChange pagesUndoWrong)

/-- 'garderobelaw19.PagesFirst': WHATEVER THE INPUT: true; the input reads as it did. -/
def pagesFirstSpec : ChangeSpec := { name := "pagesFirst", fn := fun _ => fun
  | [d1, d2, d3] => { results := [.lit (.bool true)], args := [d1, d2, d3] }
  | _ => none }
def pagesFirstRow : OpenClaim := { program := "ytidlcplamgajpaa", sum := "458e1c39228738777051b48d49dad509043970c1498cbeb5252f3d1c45f869fe", func := "garderobe/garderobelaw19.PagesFirst", spec := "pagesFirst", unfollowed := true, recurses := true, apart := false }
def PagesFirstSaid : Prop := pagesFirstRow.holds Try.pinned (OpenSpec.ofChange pagesFirstSpec)

/-- ITS FALSE NEIGHBOUR: 'it returns false'. Refute it at one input. -/
def pagesFirstWrong : ChangeSpec := { name := "pagesFirst", fn := fun _ => fun
  | [d1, d2, d3] => { results := [.lit (.bool false)], args := [d1, d2, d3] }
  | _ => none }
def PagesFirstWrongFalsely : Prop := pagesFirstRow.holds Try.pinned (OpenSpec.ofChange pagesFirstWrong)

/-- 'garderobelaw19.PagesParse': WHATEVER THE INPUT: true; the input reads as it did. -/
def pagesParseSpec : ChangeSpec := { name := "pagesParse", fn := fun _ => fun
  | [d1, d2, d3, d4] => { results := [.lit (.bool true)], args := [d1, d2, d3, d4] }
  | _ => none }
def pagesParseRow : OpenClaim := { program := "ytidlcplamgajpaa", sum := "458e1c39228738777051b48d49dad509043970c1498cbeb5252f3d1c45f869fe", func := "garderobe/garderobelaw19.PagesParse", spec := "pagesParse", unfollowed := true, recurses := true, apart := false }
def PagesParseSaid : Prop := pagesParseRow.holds Try.pinned (OpenSpec.ofChange pagesParseSpec)

/-- ITS FALSE NEIGHBOUR: 'it returns false'. Refute it at one input. -/
def pagesParseWrong : ChangeSpec := { name := "pagesParse", fn := fun _ => fun
  | [d1, d2, d3, d4] => { results := [.lit (.bool false)], args := [d1, d2, d3, d4] }
  | _ => none }
def PagesParseWrongFalsely : Prop := pagesParseRow.holds Try.pinned (OpenSpec.ofChange pagesParseWrong)

/-- 'garderobelaw19.PagesBytes': WHATEVER THE INPUT: true; the input reads as it did. -/
def pagesBytesSpec : ChangeSpec := { name := "pagesBytes", fn := fun _ => fun
  | [d] => { results := [.lit (.bool true)], args := [d] }
  | _ => none }
def pagesBytesRow : OpenClaim := { program := "ytidlcplamgajpaa", sum := "458e1c39228738777051b48d49dad509043970c1498cbeb5252f3d1c45f869fe", func := "garderobe/garderobelaw19.PagesBytes", spec := "pagesBytes", unfollowed := true, recurses := true, apart := false }
def PagesBytesSaid : Prop := pagesBytesRow.holds Try.pinned (OpenSpec.ofChange pagesBytesSpec)

/-- ITS FALSE NEIGHBOUR: 'it returns false'. Refute it at one input. -/
def pagesBytesWrong : ChangeSpec := { name := "pagesBytes", fn := fun _ => fun
  | [d] => { results := [.lit (.bool false)], args := [d] }
  | _ => none }
def PagesBytesWrongFalsely : Prop := pagesBytesRow.holds Try.pinned (OpenSpec.ofChange pagesBytesWrong)

/- THE SECOND FORM. 'bulk': how many values and letters a reading holds, each counted each time it is reached (what is shared counts as often as it is met; a slice's spare places count too). A statement '..UptoSaid' is the law's where the arguments, and the package variables that the reading takes, are together of bulk at most 1048576: NARROWER than '..Said'. Prove '..Said' where nothing that the law and all that it calls make is longer than what came in: it says more and counts as full. Else prove '..UptoSaid'. A law counts once. -/
mutual
def uptoBulk {H : Type} : DataW H → Nat
  | .lit (.string bytes) => bytes.length + 1
  | .lit _ => 1
  | .nil => 1
  | .ptr d => uptoBulk d + 1
  | .slice elems spare => uptoBulkAll elems + uptoBulkAll spare + 1
  | .agg parts => uptoBulkAll parts + 1
  | .iface _ d => uptoBulk d + 1
  | .map entries => uptoBulkEntries entries + 1
  | .held _ => 1
def uptoBulkAll {H : Type} : List (DataW H) → Nat
  | [] => 0
  | d :: r => uptoBulk d + uptoBulkAll r
def uptoBulkEntries {H : Type} : List (Lit × DataW H) → Nat
  | [] => 0
  | x :: r => uptoBulkEntry x + uptoBulkEntries r
def uptoBulkEntry {H : Type} : Lit × DataW H → Nat
  | (.string bytes, d) => bytes.length + uptoBulk d + 1
  | (_, d) => uptoBulk d + 1
 end
def uptoSmall : (H : Type) → List (DataW H) → Bool := fun _ ds => decide (uptoBulkAll ds ≤ 1048576)
def OpenSpec.upto (s : _root_.Go.ChangeSpec) : _root_.Go.OpenSpec := { _root_.Go.OpenSpec.ofChange s with cond := some uptoSmall }

/-- 'garderobelaw19.PagesRuns', WHERE WHAT IT READS IS OF BULK AT MOST 1048576: true; the input reads as it did. -/
def pagesRunsUptoRow : OpenClaim := { program := "ytidlcplamgajpaa", sum := "458e1c39228738777051b48d49dad509043970c1498cbeb5252f3d1c45f869fe", func := "garderobe/garderobelaw19.PagesRuns", spec := "pagesRuns", unfollowed := true, recurses := true, apart := false, narrowed := true }
def PagesRunsUptoSaid : Prop := pagesRunsUptoRow.holds Try.pinned (OpenSpec.upto pagesRunsSpec)

/-- 'garderobelaw19.PagesPlays', WHERE WHAT IT READS IS OF BULK AT MOST 1048576: true; the input reads as it did. -/
def pagesPlaysUptoRow : OpenClaim := { program := "ytidlcplamgajpaa", sum := "458e1c39228738777051b48d49dad509043970c1498cbeb5252f3d1c45f869fe", func := "garderobe/garderobelaw19.PagesPlays", spec := "pagesPlays", unfollowed := true, recurses := true, apart := false, narrowed := true }
def PagesPlaysUptoSaid : Prop := pagesPlaysUptoRow.holds Try.pinned (OpenSpec.upto pagesPlaysSpec)

/-- 'garderobelaw19.PagesChecks', WHERE WHAT IT READS IS OF BULK AT MOST 1048576: true; the input reads as it did. -/
def pagesChecksUptoRow : OpenClaim := { program := "ytidlcplamgajpaa", sum := "458e1c39228738777051b48d49dad509043970c1498cbeb5252f3d1c45f869fe", func := "garderobe/garderobelaw19.PagesChecks", spec := "pagesChecks", unfollowed := true, recurses := true, apart := false, narrowed := true }
def PagesChecksUptoSaid : Prop := pagesChecksUptoRow.holds Try.pinned (OpenSpec.upto pagesChecksSpec)

/-- 'garderobelaw19.PagesUndo', WHERE WHAT IT READS IS OF BULK AT MOST 1048576: true; the input reads as it did. -/
def pagesUndoUptoRow : OpenClaim := { program := "ytidlcplamgajpaa", sum := "458e1c39228738777051b48d49dad509043970c1498cbeb5252f3d1c45f869fe", func := "garderobe/garderobelaw19.PagesUndo", spec := "pagesUndo", unfollowed := true, recurses := true, apart := false, narrowed := true }
def PagesUndoUptoSaid : Prop := pagesUndoUptoRow.holds Try.pinned (OpenSpec.upto pagesUndoSpec)

/-- 'garderobelaw19.PagesFirst', WHERE WHAT IT READS IS OF BULK AT MOST 1048576: true; the input reads as it did. -/
def pagesFirstUptoRow : OpenClaim := { program := "ytidlcplamgajpaa", sum := "458e1c39228738777051b48d49dad509043970c1498cbeb5252f3d1c45f869fe", func := "garderobe/garderobelaw19.PagesFirst", spec := "pagesFirst", unfollowed := true, recurses := true, apart := false, narrowed := true }
def PagesFirstUptoSaid : Prop := pagesFirstUptoRow.holds Try.pinned (OpenSpec.upto pagesFirstSpec)

/-- 'garderobelaw19.PagesParse', WHERE WHAT IT READS IS OF BULK AT MOST 1048576: true; the input reads as it did. -/
def pagesParseUptoRow : OpenClaim := { program := "ytidlcplamgajpaa", sum := "458e1c39228738777051b48d49dad509043970c1498cbeb5252f3d1c45f869fe", func := "garderobe/garderobelaw19.PagesParse", spec := "pagesParse", unfollowed := true, recurses := true, apart := false, narrowed := true }
def PagesParseUptoSaid : Prop := pagesParseUptoRow.holds Try.pinned (OpenSpec.upto pagesParseSpec)

/-- 'garderobelaw19.PagesBytes', WHERE WHAT IT READS IS OF BULK AT MOST 1048576: true; the input reads as it did. -/
def pagesBytesUptoRow : OpenClaim := { program := "ytidlcplamgajpaa", sum := "458e1c39228738777051b48d49dad509043970c1498cbeb5252f3d1c45f869fe", func := "garderobe/garderobelaw19.PagesBytes", spec := "pagesBytes", unfollowed := true, recurses := true, apart := false, narrowed := true }
def PagesBytesUptoSaid : Prop := pagesBytesUptoRow.holds Try.pinned (OpenSpec.upto pagesBytesSpec)

end Rows
end Go.Proofs.Ytidlcplamgajpaa
