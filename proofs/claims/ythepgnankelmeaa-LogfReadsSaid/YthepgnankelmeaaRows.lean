/-
  No cell of these rows narrows 'for every input' (looked for: loops, veiled, ifaces, maps, wideKeys, modest, calm, conditions, laid).
  DERIVED. THE GIVEN ROWS OF THIS SEAT. 11 by the template 'for every input the law returns true; each argument reads behind the call as it read before'; 0 by the template 'total and deterministic' (their statements: YthepgnankelmeaaTotals.lean).
  GIVEN WITH THE SEED: the statements are not yours to turn. If you find one false, say at which input.
  Laid BY PROGRAM, IN A SANDBOX (cutbox-rows.mjs): the forced cells as the released guide's own fill.sh prints them over the translation 379d2d9f4ed7d889… (all of the seat's roots in one cut). By AI agents, Wed Nov 11 2026. No macro, syntax, notation, axiom, sorry.
-/
import Derived.Test.YthepgnankelmeaaChecked
import GoSem.Claim
import GoSem.ClaimJoined
import GoSem.ClaimMapViews
import Derived.JoinedTies
import Derived.KernelRfl
namespace Go.Proofs.Ythepgnankelmeaa
/- THE CELL 'sum', in the pinned program and in every row, IS THE sha256 OF THE DUMP (.gsa) THAT YthepgnankelmeaaProg.lean LOADS. Nothing in Lean hashes anything: it is a label: what it is worth is what the hold of that sum in a sandbox is worth. -/
noncomputable def Try.pinned : Pinned := { name := "ythepgnankelmeaa", sum := "379d2d9f4ed7d889fef83597c111738af23565c4f05155ee7b915f2ea3566f6c", checked := Try.checked }
namespace Rows
def none {H : Type} : Left H := { results := [], args := [] }

/-- 'garderobelaw07.GeomCounts': WHATEVER THE INPUT: true; the input reads as it did. -/
def geomCountsSpec : ChangeSpec := { name := "geomCounts", fn := fun _ => fun
  | [d] => { results := [.lit (.bool true)], args := [d] }
  | _ => none }
def geomCountsRow : OpenClaim := { program := "ythepgnankelmeaa", sum := "379d2d9f4ed7d889fef83597c111738af23565c4f05155ee7b915f2ea3566f6c", func := "garderobe/garderobelaw07.GeomCounts", spec := "geomCounts", unfollowed := true, recurses := true, apart := false }
def GeomCountsSaid : Prop := geomCountsRow.holds Try.pinned (OpenSpec.ofChange geomCountsSpec)

/-- ITS FALSE NEIGHBOUR: 'it returns false'. Refute it at one input. -/
def geomCountsWrong : ChangeSpec := { name := "geomCounts", fn := fun _ => fun
  | [d] => { results := [.lit (.bool false)], args := [d] }
  | _ => none }
def GeomCountsWrongFalsely : Prop := geomCountsRow.holds Try.pinned (OpenSpec.ofChange geomCountsWrong)

/-- 'garderobelaw07.GeomPlaces': WHATEVER THE INPUT: true; the input reads as it did. -/
def geomPlacesSpec : ChangeSpec := { name := "geomPlaces", fn := fun _ => fun
  | [d1, d2] => { results := [.lit (.bool true)], args := [d1, d2] }
  | _ => none }
def geomPlacesRow : OpenClaim := { program := "ythepgnankelmeaa", sum := "379d2d9f4ed7d889fef83597c111738af23565c4f05155ee7b915f2ea3566f6c", func := "garderobe/garderobelaw07.GeomPlaces", spec := "geomPlaces", unfollowed := true, recurses := true, apart := false }
def GeomPlacesSaid : Prop := geomPlacesRow.holds Try.pinned (OpenSpec.ofChange geomPlacesSpec)

/-- ITS FALSE NEIGHBOUR: 'it returns false'. Refute it at one input. -/
def geomPlacesWrong : ChangeSpec := { name := "geomPlaces", fn := fun _ => fun
  | [d1, d2] => { results := [.lit (.bool false)], args := [d1, d2] }
  | _ => none }
def GeomPlacesWrongFalsely : Prop := geomPlacesRow.holds Try.pinned (OpenSpec.ofChange geomPlacesWrong)

/-- 'garderobelaw07.GeomBack': WHATEVER THE INPUT: true; the input reads as it did. -/
def geomBackSpec : ChangeSpec := { name := "geomBack", fn := fun _ => fun
  | [d1, d2] => { results := [.lit (.bool true)], args := [d1, d2] }
  | _ => none }
def geomBackRow : OpenClaim := { program := "ythepgnankelmeaa", sum := "379d2d9f4ed7d889fef83597c111738af23565c4f05155ee7b915f2ea3566f6c", func := "garderobe/garderobelaw07.GeomBack", spec := "geomBack", unfollowed := true, recurses := true, apart := false }
def GeomBackSaid : Prop := geomBackRow.holds Try.pinned (OpenSpec.ofChange geomBackSpec)

/-- ITS FALSE NEIGHBOUR: 'it returns false'. Refute it at one input. -/
def geomBackWrong : ChangeSpec := { name := "geomBack", fn := fun _ => fun
  | [d1, d2] => { results := [.lit (.bool false)], args := [d1, d2] }
  | _ => none }
def GeomBackWrongFalsely : Prop := geomBackRow.holds Try.pinned (OpenSpec.ofChange geomBackWrong)

/-- 'garderobelaw13.SuperBytes': WHATEVER THE INPUT: true; the input reads as it did. -/
def superBytesSpec : ChangeSpec := { name := "superBytes", fn := fun _ => fun
  | [d] => { results := [.lit (.bool true)], args := [d] }
  | _ => none }
def superBytesRow : OpenClaim := { program := "ythepgnankelmeaa", sum := "379d2d9f4ed7d889fef83597c111738af23565c4f05155ee7b915f2ea3566f6c", func := "garderobe/garderobelaw13.SuperBytes", spec := "superBytes", unfollowed := true, recurses := true, apart := false }
def SuperBytesSaid : Prop := superBytesRow.holds Try.pinned (OpenSpec.ofChange superBytesSpec)

/-- ITS FALSE NEIGHBOUR: 'it returns false'. Refute it at one input. -/
def superBytesWrong : ChangeSpec := { name := "superBytes", fn := fun _ => fun
  | [d] => { results := [.lit (.bool false)], args := [d] }
  | _ => none }
def SuperBytesWrongFalsely : Prop := superBytesRow.holds Try.pinned (OpenSpec.ofChange superBytesWrong)

/-- 'garderobelaw13.SuperParse': WHATEVER THE INPUT: true; the input reads as it did. -/
def superParseSpec : ChangeSpec := { name := "superParse", fn := fun _ => fun
  | [d1, d2, d3, d4, d5] => { results := [.lit (.bool true)], args := [d1, d2, d3, d4, d5] }
  | _ => none }
def superParseRow : OpenClaim := { program := "ythepgnankelmeaa", sum := "379d2d9f4ed7d889fef83597c111738af23565c4f05155ee7b915f2ea3566f6c", func := "garderobe/garderobelaw13.SuperParse", spec := "superParse", unfollowed := true, recurses := true, apart := false }
def SuperParseSaid : Prop := superParseRow.holds Try.pinned (OpenSpec.ofChange superParseSpec)

/-- ITS FALSE NEIGHBOUR: 'it returns false'. Refute it at one input. -/
def superParseWrong : ChangeSpec := { name := "superParse", fn := fun _ => fun
  | [d1, d2, d3, d4, d5] => { results := [.lit (.bool false)], args := [d1, d2, d3, d4, d5] }
  | _ => none }
def SuperParseWrongFalsely : Prop := superParseRow.holds Try.pinned (OpenSpec.ofChange superParseWrong)

/-- 'garderobelaw14.LogfApart': WHATEVER THE INPUT: true; the input reads as it did. -/
def logfApartSpec : ChangeSpec := { name := "logfApart", fn := fun _ => fun
  | [d1, d2, d3] => { results := [.lit (.bool true)], args := [d1, d2, d3] }
  | _ => none }
def logfApartRow : OpenClaim := { program := "ythepgnankelmeaa", sum := "379d2d9f4ed7d889fef83597c111738af23565c4f05155ee7b915f2ea3566f6c", func := "garderobe/garderobelaw14.LogfApart", spec := "logfApart", unfollowed := true, recurses := true, apart := false }
def LogfApartSaid : Prop := logfApartRow.holds Try.pinned (OpenSpec.ofChange logfApartSpec)

/-- ITS FALSE NEIGHBOUR: 'it returns false'. Refute it at one input. -/
def logfApartWrong : ChangeSpec := { name := "logfApart", fn := fun _ => fun
  | [d1, d2, d3] => { results := [.lit (.bool false)], args := [d1, d2, d3] }
  | _ => none }
def LogfApartWrongFalsely : Prop := logfApartRow.holds Try.pinned (OpenSpec.ofChange logfApartWrong)

/-- 'garderobelaw13.SuperRead': WHATEVER THE INPUT: true; the input reads as it did. -/
def superReadSpec : ChangeSpec := { name := "superRead", fn := fun _ => fun
  | [d1, d2, d3] => { results := [.lit (.bool true)], args := [d1, d2, d3] }
  | _ => none }
def superReadRow : OpenClaim := { program := "ythepgnankelmeaa", sum := "379d2d9f4ed7d889fef83597c111738af23565c4f05155ee7b915f2ea3566f6c", func := "garderobe/garderobelaw13.SuperRead", spec := "superRead", unfollowed := true, recurses := true, apart := false }
def SuperReadSaid : Prop := superReadRow.holds Try.pinned (OpenSpec.ofChange superReadSpec)

/-- ITS FALSE NEIGHBOUR: 'it returns false'. Refute it at one input. -/
def superReadWrong : ChangeSpec := { name := "superRead", fn := fun _ => fun
  | [d1, d2, d3] => { results := [.lit (.bool false)], args := [d1, d2, d3] }
  | _ => none }
def SuperReadWrongFalsely : Prop := superReadRow.holds Try.pinned (OpenSpec.ofChange superReadWrong)

/-- 'garderobelaw14.LogfSame': WHATEVER THE INPUT: true; the input reads as it did. -/
def logfSameSpec : ChangeSpec := { name := "logfSame", fn := fun _ => fun
  | [d1, d2] => { results := [.lit (.bool true)], args := [d1, d2] }
  | _ => none }
def logfSameRow : OpenClaim := { program := "ythepgnankelmeaa", sum := "379d2d9f4ed7d889fef83597c111738af23565c4f05155ee7b915f2ea3566f6c", func := "garderobe/garderobelaw14.LogfSame", spec := "logfSame", unfollowed := true, recurses := true, apart := false }
def LogfSameSaid : Prop := logfSameRow.holds Try.pinned (OpenSpec.ofChange logfSameSpec)

/-- ITS FALSE NEIGHBOUR: 'it returns false'. Refute it at one input. -/
def logfSameWrong : ChangeSpec := { name := "logfSame", fn := fun _ => fun
  | [d1, d2] => { results := [.lit (.bool false)], args := [d1, d2] }
  | _ => none }
def LogfSameWrongFalsely : Prop := logfSameRow.holds Try.pinned (OpenSpec.ofChange logfSameWrong)

/-- 'garderobelaw13.SuperEpochs': WHATEVER THE INPUT: true; the input reads as it did. -/
def superEpochsSpec : ChangeSpec := { name := "superEpochs", fn := fun _ => fun
  | [d1, d2, d3] => { results := [.lit (.bool true)], args := [d1, d2, d3] }
  | _ => none }
def superEpochsRow : OpenClaim := { program := "ythepgnankelmeaa", sum := "379d2d9f4ed7d889fef83597c111738af23565c4f05155ee7b915f2ea3566f6c", func := "garderobe/garderobelaw13.SuperEpochs", spec := "superEpochs", unfollowed := true, recurses := true, apart := false }
def SuperEpochsSaid : Prop := superEpochsRow.holds Try.pinned (OpenSpec.ofChange superEpochsSpec)

/-- ITS FALSE NEIGHBOUR: 'it returns false'. Refute it at one input. -/
def superEpochsWrong : ChangeSpec := { name := "superEpochs", fn := fun _ => fun
  | [d1, d2, d3] => { results := [.lit (.bool false)], args := [d1, d2, d3] }
  | _ => none }
def SuperEpochsWrongFalsely : Prop := superEpochsRow.holds Try.pinned (OpenSpec.ofChange superEpochsWrong)

/-- 'garderobelaw14.LogfWrites': WHATEVER THE INPUT: true; the input reads as it did. -/
def logfWritesSpec : ChangeSpec := { name := "logfWrites", fn := fun _ => fun
  | [d1, d2, d3, d4] => { results := [.lit (.bool true)], args := [d1, d2, d3, d4] }
  | _ => none }
def logfWritesRow : OpenClaim := { program := "ythepgnankelmeaa", sum := "379d2d9f4ed7d889fef83597c111738af23565c4f05155ee7b915f2ea3566f6c", func := "garderobe/garderobelaw14.LogfWrites", spec := "logfWrites", unfollowed := true, recurses := true, apart := false }
def LogfWritesSaid : Prop := logfWritesRow.holds Try.pinned (OpenSpec.ofChange logfWritesSpec)

/-- ITS FALSE NEIGHBOUR: 'it returns false'. Refute it at one input. -/
def logfWritesWrong : ChangeSpec := { name := "logfWrites", fn := fun _ => fun
  | [d1, d2, d3, d4] => { results := [.lit (.bool false)], args := [d1, d2, d3, d4] }
  | _ => none }
def LogfWritesWrongFalsely : Prop := logfWritesRow.holds Try.pinned (OpenSpec.ofChange logfWritesWrong)

/-- 'garderobelaw14.LogfReads': WHATEVER THE INPUT: true; the input reads as it did. -/
def logfReadsSpec : ChangeSpec := { name := "logfReads", fn := fun _ => fun
  | [d1, d2, d3, d4, d5, d6] => { results := [.lit (.bool true)], args := [d1, d2, d3, d4, d5, d6] }
  | _ => none }
def logfReadsRow : OpenClaim := { program := "ythepgnankelmeaa", sum := "379d2d9f4ed7d889fef83597c111738af23565c4f05155ee7b915f2ea3566f6c", func := "garderobe/garderobelaw14.LogfReads", spec := "logfReads", unfollowed := true, recurses := true, apart := false }
def LogfReadsSaid : Prop := logfReadsRow.holds Try.pinned (OpenSpec.ofChange logfReadsSpec)

/-- ITS FALSE NEIGHBOUR: 'it returns false'. Refute it at one input. -/
def logfReadsWrong : ChangeSpec := { name := "logfReads", fn := fun _ => fun
  | [d1, d2, d3, d4, d5, d6] => { results := [.lit (.bool false)], args := [d1, d2, d3, d4, d5, d6] }
  | _ => none }
def LogfReadsWrongFalsely : Prop := logfReadsRow.holds Try.pinned (OpenSpec.ofChange logfReadsWrong)

/- THE SECOND FORM. 'bulk': how many values and letters a reading holds, each counted each time it is reached (what is shared counts as often as it is met; a slice's spare places count too). A statement '..UptoSaid' is the law's where the arguments, and the package variables that the reading takes, are together of bulk at most 1048576: NARROWER than '..Said'. Prove '..Said' where nothing that the law and all that it calls make is longer than what came in: it says more and counts as full. Else prove '..UptoSaid'. A law counts once. -/
mutual
def uptoBulk {H : Type} : DataW H → Nat
  | .lit (.string bytes) => bytes.length + 1
  | .lit _ => 1
  | .nil => 1
  | .ptr d => uptoBulk d + 1
  | .slice elems spare => uptoBulkAll elems + uptoBulkAll spare + 1
  | .agg parts => uptoBulkAll parts + 1
  | .iface _ d => uptoBulk d + 1
  | .map entries => uptoBulkEntries entries + 1
  | .held _ => 1
def uptoBulkAll {H : Type} : List (DataW H) → Nat
  | [] => 0
  | d :: r => uptoBulk d + uptoBulkAll r
def uptoBulkEntries {H : Type} : List (Lit × DataW H) → Nat
  | [] => 0
  | x :: r => uptoBulkEntry x + uptoBulkEntries r
def uptoBulkEntry {H : Type} : Lit × DataW H → Nat
  | (.string bytes, d) => bytes.length + uptoBulk d + 1
  | (_, d) => uptoBulk d + 1
 end
def uptoSmall : (H : Type) → List (DataW H) → Bool := fun _ ds => decide (uptoBulkAll ds ≤ 1048576)
def OpenSpec.upto (s : _root_.Go.ChangeSpec) : _root_.Go.OpenSpec := { _root_.Go.OpenSpec.ofChange s with cond := some uptoSmall }

/-- 'garderobelaw07.GeomCounts', WHERE WHAT IT READS IS OF BULK AT MOST 1048576: true; the input reads as it did. -/
def geomCountsUptoRow : OpenClaim := { program := "ythepgnankelmeaa", sum := "379d2d9f4ed7d889fef83597c111738af23565c4f05155ee7b915f2ea3566f6c", func := "garderobe/garderobelaw07.GeomCounts", spec := "geomCounts", unfollowed := true, recurses := true, apart := false, narrowed := true }
def GeomCountsUptoSaid : Prop := geomCountsUptoRow.holds Try.pinned (OpenSpec.upto geomCountsSpec)

/-- 'garderobelaw07.GeomPlaces', WHERE WHAT IT READS IS OF BULK AT MOST 1048576: true; the input reads as it did. -/
def geomPlacesUptoRow : OpenClaim := { program := "ythepgnankelmeaa", sum := "379d2d9f4ed7d889fef83597c111738af23565c4f05155ee7b915f2ea3566f6c", func := "garderobe/garderobelaw07.GeomPlaces", spec := "geomPlaces", unfollowed := true, recurses := true, apart := false, narrowed := true }
def GeomPlacesUptoSaid : Prop := geomPlacesUptoRow.holds Try.pinned (OpenSpec.upto geomPlacesSpec)

/-- 'garderobelaw07.GeomBack', WHERE WHAT IT READS IS OF BULK AT MOST 1048576: true; the input reads as it did. -/
def geomBackUptoRow : OpenClaim := { program := "ythepgnankelmeaa", sum := "379d2d9f4ed7d889fef83597c111738af23565c4f05155ee7b915f2ea3566f6c", func := "garderobe/garderobelaw07.GeomBack", spec := "geomBack", unfollowed := true, recurses := true, apart := false, narrowed := true }
def GeomBackUptoSaid : Prop := geomBackUptoRow.holds Try.pinned (OpenSpec.upto geomBackSpec)

/-- 'garderobelaw13.SuperBytes', WHERE WHAT IT READS IS OF BULK AT MOST 1048576: true; the input reads as it did. -/
def superBytesUptoRow : OpenClaim := { program := "ythepgnankelmeaa", sum := "379d2d9f4ed7d889fef83597c111738af23565c4f05155ee7b915f2ea3566f6c", func := "garderobe/garderobelaw13.SuperBytes", spec := "superBytes", unfollowed := true, recurses := true, apart := false, narrowed := true }
def SuperBytesUptoSaid : Prop := superBytesUptoRow.holds Try.pinned (OpenSpec.upto superBytesSpec)

/-- 'garderobelaw13.SuperParse', WHERE WHAT IT READS IS OF BULK AT MOST 1048576: true; the input reads as it did. -/
def superParseUptoRow : OpenClaim := { program := "ythepgnankelmeaa", sum := "379d2d9f4ed7d889fef83597c111738af23565c4f05155ee7b915f2ea3566f6c", func := "garderobe/garderobelaw13.SuperParse", spec := "superParse", unfollowed := true, recurses := true, apart := false, narrowed := true }
def SuperParseUptoSaid : Prop := superParseUptoRow.holds Try.pinned (OpenSpec.upto superParseSpec)

/-- 'garderobelaw14.LogfApart', WHERE WHAT IT READS IS OF BULK AT MOST 1048576: true; the input reads as it did. -/
def logfApartUptoRow : OpenClaim := { program := "ythepgnankelmeaa", sum := "379d2d9f4ed7d889fef83597c111738af23565c4f05155ee7b915f2ea3566f6c", func := "garderobe/garderobelaw14.LogfApart", spec := "logfApart", unfollowed := true, recurses := true, apart := false, narrowed := true }
def LogfApartUptoSaid : Prop := logfApartUptoRow.holds Try.pinned (OpenSpec.upto logfApartSpec)

/-- 'garderobelaw13.SuperRead', WHERE WHAT IT READS IS OF BULK AT MOST 1048576: true; the input reads as it did. -/
def superReadUptoRow : OpenClaim := { program := "ythepgnankelmeaa", sum := "379d2d9f4ed7d889fef83597c111738af23565c4f05155ee7b915f2ea3566f6c", func := "garderobe/garderobelaw13.SuperRead", spec := "superRead", unfollowed := true, recurses := true, apart := false, narrowed := true }
def SuperReadUptoSaid : Prop := superReadUptoRow.holds Try.pinned (OpenSpec.upto superReadSpec)

/-- 'garderobelaw14.LogfSame', WHERE WHAT IT READS IS OF BULK AT MOST 1048576: true; the input reads as it did. -/
def logfSameUptoRow : OpenClaim := { program := "ythepgnankelmeaa", sum := "379d2d9f4ed7d889fef83597c111738af23565c4f05155ee7b915f2ea3566f6c", func := "garderobe/garderobelaw14.LogfSame", spec := "logfSame", unfollowed := true, recurses := true, apart := false, narrowed := true }
def LogfSameUptoSaid : Prop := logfSameUptoRow.holds Try.pinned (OpenSpec.upto logfSameSpec)

/-- 'garderobelaw13.SuperEpochs', WHERE WHAT IT READS IS OF BULK AT MOST 1048576: true; the input reads as it did. -/
def superEpochsUptoRow : OpenClaim := { program := "ythepgnankelmeaa", sum := "379d2d9f4ed7d889fef83597c111738af23565c4f05155ee7b915f2ea3566f6c", func := "garderobe/garderobelaw13.SuperEpochs", spec := "superEpochs", unfollowed := true, recurses := true, apart := false, narrowed := true }
def SuperEpochsUptoSaid : Prop := superEpochsUptoRow.holds Try.pinned (OpenSpec.upto superEpochsSpec)

/-- 'garderobelaw14.LogfWrites', WHERE WHAT IT READS IS OF BULK AT MOST 1048576: true; the input reads as it did. -/
def logfWritesUptoRow : OpenClaim := { program := "ythepgnankelmeaa", sum := "379d2d9f4ed7d889fef83597c111738af23565c4f05155ee7b915f2ea3566f6c", func := "garderobe/garderobelaw14.LogfWrites", spec := "logfWrites", unfollowed := true, recurses := true, apart := false, narrowed := true }
def LogfWritesUptoSaid : Prop := logfWritesUptoRow.holds Try.pinned (OpenSpec.upto logfWritesSpec)

/-- 'garderobelaw14.LogfReads', WHERE WHAT IT READS IS OF BULK AT MOST 1048576: true; the input reads as it did. -/
def logfReadsUptoRow : OpenClaim := { program := "ythepgnankelmeaa", sum := "379d2d9f4ed7d889fef83597c111738af23565c4f05155ee7b915f2ea3566f6c", func := "garderobe/garderobelaw14.LogfReads", spec := "logfReads", unfollowed := true, recurses := true, apart := false, narrowed := true }
def LogfReadsUptoSaid : Prop := logfReadsUptoRow.holds Try.pinned (OpenSpec.upto logfReadsSpec)

end Rows
end Go.Proofs.Ythepgnankelmeaa
