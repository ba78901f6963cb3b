/-
  No cell of these rows narrows 'for every input' (looked for: loops, veiled, ifaces, maps, wideKeys, modest, calm, conditions, laid).
  DERIVED. THE GIVEN ROWS OF THIS SEAT. 8 by the template 'for every input the law returns true; each argument reads behind the call as it read before'; 0 by the template 'total and deterministic' (their statements: YtnocjjaebemkoaaTotals.lean).
  GIVEN WITH THE SEED: the statements are not yours to turn. If you find one false, say at which input.
  Laid BY PROGRAM, IN A SANDBOX (cutbox-rows.mjs): the forced cells as the released guide's own fill.sh prints them over the translation f33391ebe4fba68c… (all of the seat's roots in one cut). By AI agents, Wed Nov 11 2026. No macro, syntax, notation, axiom, sorry.
-/
import Derived.Test.YtnocjjaebemkoaaChecked
import GoSem.Claim
import GoSem.ClaimJoined
import GoSem.ClaimMapViews
import Derived.JoinedTies
import Derived.KernelRfl
namespace Go.Proofs.Ytnocjjaebemkoaa
/- THE CELL 'sum', in the pinned program and in every row, IS THE sha256 OF THE DUMP (.gsa) THAT YtnocjjaebemkoaaProg.lean LOADS. Nothing in Lean hashes anything: it is a label: what it is worth is what the hold of that sum in a sandbox is worth. -/
noncomputable def Try.pinned : Pinned := { name := "ytnocjjaebemkoaa", sum := "f33391ebe4fba68c49766709af6c987624e88d9e5a881bf608e2b2c29e49dc84", checked := Try.checked }
namespace Rows
def none {H : Type} : Left H := { results := [], args := [] }

/-- 'garderobelaw17.ClassSizes': WHATEVER THE INPUT: true; the input reads as it did. -/
def classSizesSpec : ChangeSpec := { name := "classSizes", fn := fun _ => fun
  | [d] => { results := [.lit (.bool true)], args := [d] }
  | _ => none }
def classSizesRow : OpenClaim := { program := "ytnocjjaebemkoaa", sum := "f33391ebe4fba68c49766709af6c987624e88d9e5a881bf608e2b2c29e49dc84", func := "garderobe/garderobelaw17.ClassSizes", spec := "classSizes", apart := false }
def ClassSizesSaid : Prop := classSizesRow.holds Try.pinned (OpenSpec.ofChange classSizesSpec)

/-- ITS FALSE NEIGHBOUR: 'it returns false'. Refute it at one input. -/
def classSizesWrong : ChangeSpec := { name := "classSizes", fn := fun _ => fun
  | [d] => { results := [.lit (.bool false)], args := [d] }
  | _ => none }
def ClassSizesWrongFalsely : Prop := classSizesRow.holds Try.pinned (OpenSpec.ofChange classSizesWrong)

/-- 'garderobelaw17.ClassOf': WHATEVER THE INPUT: true; the input reads as it did. -/
def classOfSpec : ChangeSpec := { name := "classOf", fn := fun _ => fun
  | [d] => { results := [.lit (.bool true)], args := [d] }
  | _ => none }
def classOfRow : OpenClaim := { program := "ytnocjjaebemkoaa", sum := "f33391ebe4fba68c49766709af6c987624e88d9e5a881bf608e2b2c29e49dc84", func := "garderobe/garderobelaw17.ClassOf", spec := "classOf", apart := false }
def ClassOfSaid : Prop := classOfRow.holds Try.pinned (OpenSpec.ofChange classOfSpec)

/-- ITS FALSE NEIGHBOUR: 'it returns false'. Refute it at one input. -/
def classOfWrong : ChangeSpec := { name := "classOf", fn := fun _ => fun
  | [d] => { results := [.lit (.bool false)], args := [d] }
  | _ => none }
def ClassOfWrongFalsely : Prop := classOfRow.holds Try.pinned (OpenSpec.ofChange classOfWrong)

/-- 'garderobelaw17.ClassPlace': WHATEVER THE INPUT: true; the input reads as it did. -/
def classPlaceSpec : ChangeSpec := { name := "classPlace", fn := fun _ => fun
  | [d1, d2] => { results := [.lit (.bool true)], args := [d1, d2] }
  | _ => none }
def classPlaceRow : OpenClaim := { program := "ytnocjjaebemkoaa", sum := "f33391ebe4fba68c49766709af6c987624e88d9e5a881bf608e2b2c29e49dc84", func := "garderobe/garderobelaw17.ClassPlace", spec := "classPlace", apart := false }
def ClassPlaceSaid : Prop := classPlaceRow.holds Try.pinned (OpenSpec.ofChange classPlaceSpec)

/-- ITS FALSE NEIGHBOUR: 'it returns false'. Refute it at one input. -/
def classPlaceWrong : ChangeSpec := { name := "classPlace", fn := fun _ => fun
  | [d1, d2] => { results := [.lit (.bool false)], args := [d1, d2] }
  | _ => none }
def ClassPlaceWrongFalsely : Prop := classPlaceRow.holds Try.pinned (OpenSpec.ofChange classPlaceWrong)

/-- 'garderobelaw17.ClassTight': WHATEVER THE INPUT: true; the input reads as it did. -/
def classTightSpec : ChangeSpec := { name := "classTight", fn := fun _ => fun
  | [d] => { results := [.lit (.bool true)], args := [d] }
  | _ => none }
def classTightRow : OpenClaim := { program := "ytnocjjaebemkoaa", sum := "f33391ebe4fba68c49766709af6c987624e88d9e5a881bf608e2b2c29e49dc84", func := "garderobe/garderobelaw17.ClassTight", spec := "classTight", apart := false }
def ClassTightSaid : Prop := classTightRow.holds Try.pinned (OpenSpec.ofChange classTightSpec)

/-- ITS FALSE NEIGHBOUR: 'it returns false'. Refute it at one input. -/
def classTightWrong : ChangeSpec := { name := "classTight", fn := fun _ => fun
  | [d] => { results := [.lit (.bool false)], args := [d] }
  | _ => none }
def ClassTightWrongFalsely : Prop := classTightRow.holds Try.pinned (OpenSpec.ofChange classTightWrong)

/-- 'garderobelaw18.SlotTrace': WHATEVER THE INPUT: true; the input reads as it did. -/
def slotTraceSpec : ChangeSpec := { name := "slotTrace", fn := fun _ => fun
  | [d1, d2, d3, d4, d5] => { results := [.lit (.bool true)], args := [d1, d2, d3, d4, d5] }
  | _ => none }
def slotTraceRow : OpenClaim := { program := "ytnocjjaebemkoaa", sum := "f33391ebe4fba68c49766709af6c987624e88d9e5a881bf608e2b2c29e49dc84", func := "garderobe/garderobelaw18.SlotTrace", spec := "slotTrace", unfollowed := true, recurses := true, apart := false }
def SlotTraceSaid : Prop := slotTraceRow.holds Try.pinned (OpenSpec.ofChange slotTraceSpec)

/-- ITS FALSE NEIGHBOUR: 'it returns false'. Refute it at one input. -/
def slotTraceWrong : ChangeSpec := { name := "slotTrace", fn := fun _ => fun
  | [d1, d2, d3, d4, d5] => { results := [.lit (.bool false)], args := [d1, d2, d3, d4, d5] }
  | _ => none }
def SlotTraceWrongFalsely : Prop := slotTraceRow.holds Try.pinned (OpenSpec.ofChange slotTraceWrong)

/-- 'garderobelaw18.SlotFree': WHATEVER THE INPUT: true; the input reads as it did. -/
def slotFreeSpec : ChangeSpec := { name := "slotFree", fn := fun _ => fun
  | [d1, d2, d3, d4] => { results := [.lit (.bool true)], args := [d1, d2, d3, d4] }
  | _ => none }
def slotFreeRow : OpenClaim := { program := "ytnocjjaebemkoaa", sum := "f33391ebe4fba68c49766709af6c987624e88d9e5a881bf608e2b2c29e49dc84", func := "garderobe/garderobelaw18.SlotFree", spec := "slotFree", unfollowed := true, recurses := true, apart := false }
def SlotFreeSaid : Prop := slotFreeRow.holds Try.pinned (OpenSpec.ofChange slotFreeSpec)

/-- ITS FALSE NEIGHBOUR: 'it returns false'. Refute it at one input. -/
def slotFreeWrong : ChangeSpec := { name := "slotFree", fn := fun _ => fun
  | [d1, d2, d3, d4] => { results := [.lit (.bool false)], args := [d1, d2, d3, d4] }
  | _ => none }
def SlotFreeWrongFalsely : Prop := slotFreeRow.holds Try.pinned (OpenSpec.ofChange slotFreeWrong)

/-- 'garderobelaw18.SlotPlays': WHATEVER THE INPUT: true; the input reads as it did. -/
def slotPlaysSpec : ChangeSpec := { name := "slotPlays", fn := fun _ => fun
  | [d1, d2] => { results := [.lit (.bool true)], args := [d1, d2] }
  | _ => none }
def slotPlaysRow : OpenClaim := { program := "ytnocjjaebemkoaa", sum := "f33391ebe4fba68c49766709af6c987624e88d9e5a881bf608e2b2c29e49dc84", func := "garderobe/garderobelaw18.SlotPlays", spec := "slotPlays", unfollowed := true, recurses := true, apart := false }
def SlotPlaysSaid : Prop := slotPlaysRow.holds Try.pinned (OpenSpec.ofChange slotPlaysSpec)

/-- ITS FALSE NEIGHBOUR: 'it returns false'. Refute it at one input. -/
def slotPlaysWrong : ChangeSpec := { name := "slotPlays", fn := fun _ => fun
  | [d1, d2] => { results := [.lit (.bool false)], args := [d1, d2] }
  | _ => none }
def SlotPlaysWrongFalsely : Prop := slotPlaysRow.holds Try.pinned (OpenSpec.ofChange slotPlaysWrong)

/-- 'garderobelaw18.SlotChecks': WHATEVER THE INPUT: true; the input reads as it did. -/
def slotChecksSpec : ChangeSpec := { name := "slotChecks", fn := fun _ => fun
  | [d1, d2, d3, d4, d5] => { results := [.lit (.bool true)], args := [d1, d2, d3, d4, d5] }
  | _ => none }
def slotChecksRow : OpenClaim := { program := "ytnocjjaebemkoaa", sum := "f33391ebe4fba68c49766709af6c987624e88d9e5a881bf608e2b2c29e49dc84", func := "garderobe/garderobelaw18.SlotChecks", spec := "slotChecks", unfollowed := true, recurses := true, apart := false }
def SlotChecksSaid : Prop := slotChecksRow.holds Try.pinned (OpenSpec.ofChange slotChecksSpec)

/-- ITS FALSE NEIGHBOUR: 'it returns false'. Refute it at one input. -/
def slotChecksWrong : ChangeSpec := { name := "slotChecks", fn := fun _ => fun
  | [d1, d2, d3, d4, d5] => { results := [.lit (.bool false)], args := [d1, d2, d3, d4, d5] }
  | _ => none }
def SlotChecksWrongFalsely : Prop := slotChecksRow.holds Try.pinned (OpenSpec.ofChange slotChecksWrong)

/- THE SECOND FORM. 'bulk': how many values and letters a reading holds, each counted each time it is reached (what is shared counts as often as it is met; a slice's spare places count too). A statement '..UptoSaid' is the law's where the arguments, and the package variables that the reading takes, are together of bulk at most 1048576: NARROWER than '..Said'. Prove '..Said' where nothing that the law and all that it calls make is longer than what came in: it says more and counts as full. Else prove '..UptoSaid'. A law counts once. -/
mutual
def uptoBulk {H : Type} : DataW H → Nat
  | .lit (.string bytes) => bytes.length + 1
  | .lit _ => 1
  | .nil => 1
  | .ptr d => uptoBulk d + 1
  | .slice elems spare => uptoBulkAll elems + uptoBulkAll spare + 1
  | .agg parts => uptoBulkAll parts + 1
  | .iface _ d => uptoBulk d + 1
  | .map entries => uptoBulkEntries entries + 1
  | .held _ => 1
def uptoBulkAll {H : Type} : List (DataW H) → Nat
  | [] => 0
  | d :: r => uptoBulk d + uptoBulkAll r
def uptoBulkEntries {H : Type} : List (Lit × DataW H) → Nat
  | [] => 0
  | x :: r => uptoBulkEntry x + uptoBulkEntries r
def uptoBulkEntry {H : Type} : Lit × DataW H → Nat
  | (.string bytes, d) => bytes.length + uptoBulk d + 1
  | (_, d) => uptoBulk d + 1
 end
def uptoSmall : (H : Type) → List (DataW H) → Bool := fun _ ds => decide (uptoBulkAll ds ≤ 1048576)
def OpenSpec.upto (s : _root_.Go.ChangeSpec) : _root_.Go.OpenSpec := { _root_.Go.OpenSpec.ofChange s with cond := some uptoSmall }

/-- 'garderobelaw17.ClassSizes', WHERE WHAT IT READS IS OF BULK AT MOST 1048576: true; the input reads as it did. -/
def classSizesUptoRow : OpenClaim := { program := "ytnocjjaebemkoaa", sum := "f33391ebe4fba68c49766709af6c987624e88d9e5a881bf608e2b2c29e49dc84", func := "garderobe/garderobelaw17.ClassSizes", spec := "classSizes", apart := false, narrowed := true }
def ClassSizesUptoSaid : Prop := classSizesUptoRow.holds Try.pinned (OpenSpec.upto classSizesSpec)

/-- 'garderobelaw17.ClassOf', WHERE WHAT IT READS IS OF BULK AT MOST 1048576: true; the input reads as it did. -/
def classOfUptoRow : OpenClaim := { program := "ytnocjjaebemkoaa", sum := "f33391ebe4fba68c49766709af6c987624e88d9e5a881bf608e2b2c29e49dc84", func := "garderobe/garderobelaw17.ClassOf", spec := "classOf", apart := false, narrowed := true }
def ClassOfUptoSaid : Prop := classOfUptoRow.holds Try.pinned (OpenSpec.upto classOfSpec)

/-- 'garderobelaw17.ClassPlace', WHERE WHAT IT READS IS OF BULK AT MOST 1048576: true; the input reads as it did. -/
def classPlaceUptoRow : OpenClaim := { program := "ytnocjjaebemkoaa", sum := "f33391ebe4fba68c49766709af6c987624e88d9e5a881bf608e2b2c29e49dc84", func := "garderobe/garderobelaw17.ClassPlace", spec := "classPlace", apart := false, narrowed := true }
def ClassPlaceUptoSaid : Prop := classPlaceUptoRow.holds Try.pinned (OpenSpec.upto classPlaceSpec)

/-- 'garderobelaw17.ClassTight', WHERE WHAT IT READS IS OF BULK AT MOST 1048576: true; the input reads as it did. -/
def classTightUptoRow : OpenClaim := { program := "ytnocjjaebemkoaa", sum := "f33391ebe4fba68c49766709af6c987624e88d9e5a881bf608e2b2c29e49dc84", func := "garderobe/garderobelaw17.ClassTight", spec := "classTight", apart := false, narrowed := true }
def ClassTightUptoSaid : Prop := classTightUptoRow.holds Try.pinned (OpenSpec.upto classTightSpec)

/-- 'garderobelaw18.SlotTrace', WHERE WHAT IT READS IS OF BULK AT MOST 1048576: true; the input reads as it did. -/
def slotTraceUptoRow : OpenClaim := { program := "ytnocjjaebemkoaa", sum := "f33391ebe4fba68c49766709af6c987624e88d9e5a881bf608e2b2c29e49dc84", func := "garderobe/garderobelaw18.SlotTrace", spec := "slotTrace", unfollowed := true, recurses := true, apart := false, narrowed := true }
def SlotTraceUptoSaid : Prop := slotTraceUptoRow.holds Try.pinned (OpenSpec.upto slotTraceSpec)

/-- 'garderobelaw18.SlotFree', WHERE WHAT IT READS IS OF BULK AT MOST 1048576: true; the input reads as it did. -/
def slotFreeUptoRow : OpenClaim := { program := "ytnocjjaebemkoaa", sum := "f33391ebe4fba68c49766709af6c987624e88d9e5a881bf608e2b2c29e49dc84", func := "garderobe/garderobelaw18.SlotFree", spec := "slotFree", unfollowed := true, recurses := true, apart := false, narrowed := true }
def SlotFreeUptoSaid : Prop := slotFreeUptoRow.holds Try.pinned (OpenSpec.upto slotFreeSpec)

/-- 'garderobelaw18.SlotPlays', WHERE WHAT IT READS IS OF BULK AT MOST 1048576: true; the input reads as it did. -/
def slotPlaysUptoRow : OpenClaim := { program := "ytnocjjaebemkoaa", sum := "f33391ebe4fba68c49766709af6c987624e88d9e5a881bf608e2b2c29e49dc84", func := "garderobe/garderobelaw18.SlotPlays", spec := "slotPlays", unfollowed := true, recurses := true, apart := false, narrowed := true }
def SlotPlaysUptoSaid : Prop := slotPlaysUptoRow.holds Try.pinned (OpenSpec.upto slotPlaysSpec)

/-- 'garderobelaw18.SlotChecks', WHERE WHAT IT READS IS OF BULK AT MOST 1048576: true; the input reads as it did. -/
def slotChecksUptoRow : OpenClaim := { program := "ytnocjjaebemkoaa", sum := "f33391ebe4fba68c49766709af6c987624e88d9e5a881bf608e2b2c29e49dc84", func := "garderobe/garderobelaw18.SlotChecks", spec := "slotChecks", unfollowed := true, recurses := true, apart := false, narrowed := true }
def SlotChecksUptoSaid : Prop := slotChecksUptoRow.holds Try.pinned (OpenSpec.upto slotChecksSpec)

end Rows
end Go.Proofs.Ytnocjjaebemkoaa
