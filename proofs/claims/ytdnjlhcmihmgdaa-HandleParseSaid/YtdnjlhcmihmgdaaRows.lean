/-
  No cell of these rows narrows 'for every input' (looked for: loops, veiled, ifaces, maps, wideKeys, modest, calm, conditions, laid).
  DERIVED. THE GIVEN ROWS OF THIS SEAT. 12 by the template 'for every input the law returns true; each argument reads behind the call as it read before'; 0 by the template 'total and deterministic' (their statements: YtdnjlhcmihmgdaaTotals.lean).
  GIVEN WITH THE SEED: the statements are not yours to turn. If you find one false, say at which input.
  Laid BY PROGRAM, IN A SANDBOX (cutbox-rows.mjs): the forced cells as the released guide's own fill.sh prints them over the translation 8ab0fc1f3e7d2e55… (all of the seat's roots in one cut). By AI agents, Wed Nov 11 2026. No macro, syntax, notation, axiom, sorry.
-/
import Derived.Test.YtdnjlhcmihmgdaaChecked
import GoSem.Claim
import GoSem.ClaimJoined
import GoSem.ClaimMapViews
import Derived.JoinedTies
import Derived.KernelRfl
namespace Go.Proofs.Ytdnjlhcmihmgdaa
/- THE CELL 'sum', in the pinned program and in every row, IS THE sha256 OF THE DUMP (.gsa) THAT YtdnjlhcmihmgdaaProg.lean LOADS. Nothing in Lean hashes anything: it is a label: what it is worth is what the hold of that sum in a sandbox is worth. -/
noncomputable def Try.pinned : Pinned := { name := "ytdnjlhcmihmgdaa", sum := "8ab0fc1f3e7d2e55281c7d440156f1eda1c6d21e4d7288a5154d1a40eecf051f", checked := Try.checked }
namespace Rows
def none {H : Type} : Left H := { results := [], args := [] }

/-- 'garderobelaw20.HandleApart': WHATEVER THE INPUT: true; the input reads as it did. -/
def handleApartSpec : ChangeSpec := { name := "handleApart", fn := fun _ => fun
  | [d1, d2] => { results := [.lit (.bool true)], args := [d1, d2] }
  | _ => none }
def handleApartRow : OpenClaim := { program := "ytdnjlhcmihmgdaa", sum := "8ab0fc1f3e7d2e55281c7d440156f1eda1c6d21e4d7288a5154d1a40eecf051f", func := "garderobe/garderobelaw20.HandleApart", spec := "handleApart", apart := false }
def HandleApartSaid : Prop := handleApartRow.holds Try.pinned (OpenSpec.ofChange handleApartSpec)

/-- ITS FALSE NEIGHBOUR: 'it returns false'. Refute it at one input. -/
def handleApartWrong : ChangeSpec := { name := "handleApart", fn := fun _ => fun
  | [d1, d2] => { results := [.lit (.bool false)], args := [d1, d2] }
  | _ => none }
def HandleApartWrongFalsely : Prop := handleApartRow.holds Try.pinned (OpenSpec.ofChange handleApartWrong)

/-- 'garderobelaw20.HandleMakes': WHATEVER THE INPUT: true; the input reads as it did. -/
def handleMakesSpec : ChangeSpec := { name := "handleMakes", fn := fun _ => fun
  | [d] => { results := [.lit (.bool true)], args := [d] }
  | _ => none }
def handleMakesRow : OpenClaim := { program := "ytdnjlhcmihmgdaa", sum := "8ab0fc1f3e7d2e55281c7d440156f1eda1c6d21e4d7288a5154d1a40eecf051f", func := "garderobe/garderobelaw20.HandleMakes", spec := "handleMakes", apart := false }
def HandleMakesSaid : Prop := handleMakesRow.holds Try.pinned (OpenSpec.ofChange handleMakesSpec)

/-- ITS FALSE NEIGHBOUR: 'it returns false'. Refute it at one input. -/
def handleMakesWrong : ChangeSpec := { name := "handleMakes", fn := fun _ => fun
  | [d] => { results := [.lit (.bool false)], args := [d] }
  | _ => none }
def HandleMakesWrongFalsely : Prop := handleMakesRow.holds Try.pinned (OpenSpec.ofChange handleMakesWrong)

/-- 'garderobelaw20.HandlePlace': WHATEVER THE INPUT: true; the input reads as it did. -/
def handlePlaceSpec : ChangeSpec := { name := "handlePlace", fn := fun _ => fun
  | [d] => { results := [.lit (.bool true)], args := [d] }
  | _ => none }
def handlePlaceRow : OpenClaim := { program := "ytdnjlhcmihmgdaa", sum := "8ab0fc1f3e7d2e55281c7d440156f1eda1c6d21e4d7288a5154d1a40eecf051f", func := "garderobe/garderobelaw20.HandlePlace", spec := "handlePlace", apart := false }
def HandlePlaceSaid : Prop := handlePlaceRow.holds Try.pinned (OpenSpec.ofChange handlePlaceSpec)

/-- ITS FALSE NEIGHBOUR: 'it returns false'. Refute it at one input. -/
def handlePlaceWrong : ChangeSpec := { name := "handlePlace", fn := fun _ => fun
  | [d] => { results := [.lit (.bool false)], args := [d] }
  | _ => none }
def HandlePlaceWrongFalsely : Prop := handlePlaceRow.holds Try.pinned (OpenSpec.ofChange handlePlaceWrong)

/-- 'garderobelaw01.WordPut': WHATEVER THE INPUT: true; the input reads as it did. -/
def wordPutSpec : ChangeSpec := { name := "wordPut", fn := fun _ => fun
  | [d1, d2] => { results := [.lit (.bool true)], args := [d1, d2] }
  | _ => none }
def wordPutRow : OpenClaim := { program := "ytdnjlhcmihmgdaa", sum := "8ab0fc1f3e7d2e55281c7d440156f1eda1c6d21e4d7288a5154d1a40eecf051f", func := "garderobe/garderobelaw01.WordPut", spec := "wordPut", unfollowed := true, recurses := true, apart := false }
def WordPutSaid : Prop := wordPutRow.holds Try.pinned (OpenSpec.ofChange wordPutSpec)

/-- ITS FALSE NEIGHBOUR: 'it returns false'. Refute it at one input. -/
def wordPutWrong : ChangeSpec := { name := "wordPut", fn := fun _ => fun
  | [d1, d2] => { results := [.lit (.bool false)], args := [d1, d2] }
  | _ => none }
def WordPutWrongFalsely : Prop := wordPutRow.holds Try.pinned (OpenSpec.ofChange wordPutWrong)

/-- 'garderobelaw01.WordXor': WHATEVER THE INPUT: true; the input reads as it did. -/
def wordXorSpec : ChangeSpec := { name := "wordXor", fn := fun _ => fun
  | [d1, d2] => { results := [.lit (.bool true)], args := [d1, d2] }
  | _ => none }
def wordXorRow : OpenClaim := { program := "ytdnjlhcmihmgdaa", sum := "8ab0fc1f3e7d2e55281c7d440156f1eda1c6d21e4d7288a5154d1a40eecf051f", func := "garderobe/garderobelaw01.WordXor", spec := "wordXor", unfollowed := true, recurses := true, apart := false }
def WordXorSaid : Prop := wordXorRow.holds Try.pinned (OpenSpec.ofChange wordXorSpec)

/-- ITS FALSE NEIGHBOUR: 'it returns false'. Refute it at one input. -/
def wordXorWrong : ChangeSpec := { name := "wordXor", fn := fun _ => fun
  | [d1, d2] => { results := [.lit (.bool false)], args := [d1, d2] }
  | _ => none }
def WordXorWrongFalsely : Prop := wordXorRow.holds Try.pinned (OpenSpec.ofChange wordXorWrong)

/-- 'garderobelaw01.WordPad': WHATEVER THE INPUT: true; the input reads as it did. -/
def wordPadSpec : ChangeSpec := { name := "wordPad", fn := fun _ => fun
  | [d1, d2] => { results := [.lit (.bool true)], args := [d1, d2] }
  | _ => none }
def wordPadRow : OpenClaim := { program := "ytdnjlhcmihmgdaa", sum := "8ab0fc1f3e7d2e55281c7d440156f1eda1c6d21e4d7288a5154d1a40eecf051f", func := "garderobe/garderobelaw01.WordPad", spec := "wordPad", unfollowed := true, recurses := true, apart := false }
def WordPadSaid : Prop := wordPadRow.holds Try.pinned (OpenSpec.ofChange wordPadSpec)

/-- ITS FALSE NEIGHBOUR: 'it returns false'. Refute it at one input. -/
def wordPadWrong : ChangeSpec := { name := "wordPad", fn := fun _ => fun
  | [d1, d2] => { results := [.lit (.bool false)], args := [d1, d2] }
  | _ => none }
def WordPadWrongFalsely : Prop := wordPadRow.holds Try.pinned (OpenSpec.ofChange wordPadWrong)

/-- 'garderobelaw01.WordGet': WHATEVER THE INPUT: true; the input reads as it did. -/
def wordGetSpec : ChangeSpec := { name := "wordGet", fn := fun _ => fun
  | [d] => { results := [.lit (.bool true)], args := [d] }
  | _ => none }
def wordGetRow : OpenClaim := { program := "ytdnjlhcmihmgdaa", sum := "8ab0fc1f3e7d2e55281c7d440156f1eda1c6d21e4d7288a5154d1a40eecf051f", func := "garderobe/garderobelaw01.WordGet", spec := "wordGet", unfollowed := true, recurses := true, apart := false }
def WordGetSaid : Prop := wordGetRow.holds Try.pinned (OpenSpec.ofChange wordGetSpec)

/-- ITS FALSE NEIGHBOUR: 'it returns false'. Refute it at one input. -/
def wordGetWrong : ChangeSpec := { name := "wordGet", fn := fun _ => fun
  | [d] => { results := [.lit (.bool false)], args := [d] }
  | _ => none }
def WordGetWrongFalsely : Prop := wordGetRow.holds Try.pinned (OpenSpec.ofChange wordGetWrong)

/-- 'garderobelaw01.WordBack': WHATEVER THE INPUT: true; the input reads as it did. -/
def wordBackSpec : ChangeSpec := { name := "wordBack", fn := fun _ => fun
  | [d1, d2] => { results := [.lit (.bool true)], args := [d1, d2] }
  | _ => none }
def wordBackRow : OpenClaim := { program := "ytdnjlhcmihmgdaa", sum := "8ab0fc1f3e7d2e55281c7d440156f1eda1c6d21e4d7288a5154d1a40eecf051f", func := "garderobe/garderobelaw01.WordBack", spec := "wordBack", unfollowed := true, recurses := true, apart := false }
def WordBackSaid : Prop := wordBackRow.holds Try.pinned (OpenSpec.ofChange wordBackSpec)

/-- ITS FALSE NEIGHBOUR: 'it returns false'. Refute it at one input. -/
def wordBackWrong : ChangeSpec := { name := "wordBack", fn := fun _ => fun
  | [d1, d2] => { results := [.lit (.bool false)], args := [d1, d2] }
  | _ => none }
def WordBackWrongFalsely : Prop := wordBackRow.holds Try.pinned (OpenSpec.ofChange wordBackWrong)

/-- 'garderobelaw01.WordSame': WHATEVER THE INPUT: true; the input reads as it did. -/
def wordSameSpec : ChangeSpec := { name := "wordSame", fn := fun _ => fun
  | [d1, d2] => { results := [.lit (.bool true)], args := [d1, d2] }
  | _ => none }
def wordSameRow : OpenClaim := { program := "ytdnjlhcmihmgdaa", sum := "8ab0fc1f3e7d2e55281c7d440156f1eda1c6d21e4d7288a5154d1a40eecf051f", func := "garderobe/garderobelaw01.WordSame", spec := "wordSame", unfollowed := true, recurses := true, apart := false }
def WordSameSaid : Prop := wordSameRow.holds Try.pinned (OpenSpec.ofChange wordSameSpec)

/-- ITS FALSE NEIGHBOUR: 'it returns false'. Refute it at one input. -/
def wordSameWrong : ChangeSpec := { name := "wordSame", fn := fun _ => fun
  | [d1, d2] => { results := [.lit (.bool false)], args := [d1, d2] }
  | _ => none }
def WordSameWrongFalsely : Prop := wordSameRow.holds Try.pinned (OpenSpec.ofChange wordSameWrong)

/-- 'garderobelaw01.WordRow': WHATEVER THE INPUT: true; the input reads as it did. -/
def wordRowSpec : ChangeSpec := { name := "wordRow", fn := fun _ => fun
  | [d1, d2] => { results := [.lit (.bool true)], args := [d1, d2] }
  | _ => none }
def wordRowRow : OpenClaim := { program := "ytdnjlhcmihmgdaa", sum := "8ab0fc1f3e7d2e55281c7d440156f1eda1c6d21e4d7288a5154d1a40eecf051f", func := "garderobe/garderobelaw01.WordRow", spec := "wordRow", unfollowed := true, recurses := true, apart := false }
def WordRowSaid : Prop := wordRowRow.holds Try.pinned (OpenSpec.ofChange wordRowSpec)

/-- ITS FALSE NEIGHBOUR: 'it returns false'. Refute it at one input. -/
def wordRowWrong : ChangeSpec := { name := "wordRow", fn := fun _ => fun
  | [d1, d2] => { results := [.lit (.bool false)], args := [d1, d2] }
  | _ => none }
def WordRowWrongFalsely : Prop := wordRowRow.holds Try.pinned (OpenSpec.ofChange wordRowWrong)

/-- 'garderobelaw20.HandleRoots': WHATEVER THE INPUT: true; the input reads as it did. -/
def handleRootsSpec : ChangeSpec := { name := "handleRoots", fn := fun _ => fun
  | [d] => { results := [.lit (.bool true)], args := [d] }
  | _ => none }
def handleRootsRow : OpenClaim := { program := "ytdnjlhcmihmgdaa", sum := "8ab0fc1f3e7d2e55281c7d440156f1eda1c6d21e4d7288a5154d1a40eecf051f", func := "garderobe/garderobelaw20.HandleRoots", spec := "handleRoots", unfollowed := true, recurses := true, apart := false }
def HandleRootsSaid : Prop := handleRootsRow.holds Try.pinned (OpenSpec.ofChange handleRootsSpec)

/-- ITS FALSE NEIGHBOUR: 'it returns false'. Refute it at one input. -/
def handleRootsWrong : ChangeSpec := { name := "handleRoots", fn := fun _ => fun
  | [d] => { results := [.lit (.bool false)], args := [d] }
  | _ => none }
def HandleRootsWrongFalsely : Prop := handleRootsRow.holds Try.pinned (OpenSpec.ofChange handleRootsWrong)

/-- 'garderobelaw20.HandleParse': WHATEVER THE INPUT: true; the input reads as it did. -/
def handleParseSpec : ChangeSpec := { name := "handleParse", fn := fun _ => fun
  | [d1, d2, d3, d4] => { results := [.lit (.bool true)], args := [d1, d2, d3, d4] }
  | _ => none }
def handleParseRow : OpenClaim := { program := "ytdnjlhcmihmgdaa", sum := "8ab0fc1f3e7d2e55281c7d440156f1eda1c6d21e4d7288a5154d1a40eecf051f", func := "garderobe/garderobelaw20.HandleParse", spec := "handleParse", unfollowed := true, recurses := true, apart := false }
def HandleParseSaid : Prop := handleParseRow.holds Try.pinned (OpenSpec.ofChange handleParseSpec)

/-- ITS FALSE NEIGHBOUR: 'it returns false'. Refute it at one input. -/
def handleParseWrong : ChangeSpec := { name := "handleParse", fn := fun _ => fun
  | [d1, d2, d3, d4] => { results := [.lit (.bool false)], args := [d1, d2, d3, d4] }
  | _ => none }
def HandleParseWrongFalsely : Prop := handleParseRow.holds Try.pinned (OpenSpec.ofChange handleParseWrong)

/- THE SECOND FORM. 'bulk': how many values and letters a reading holds, each counted each time it is reached (what is shared counts as often as it is met; a slice's spare places count too). A statement '..UptoSaid' is the law's where the arguments, and the package variables that the reading takes, are together of bulk at most 1048576: NARROWER than '..Said'. Prove '..Said' where nothing that the law and all that it calls make is longer than what came in: it says more and counts as full. Else prove '..UptoSaid'. A law counts once. -/
mutual
def uptoBulk {H : Type} : DataW H → Nat
  | .lit (.string bytes) => bytes.length + 1
  | .lit _ => 1
  | .nil => 1
  | .ptr d => uptoBulk d + 1
  | .slice elems spare => uptoBulkAll elems + uptoBulkAll spare + 1
  | .agg parts => uptoBulkAll parts + 1
  | .iface _ d => uptoBulk d + 1
  | .map entries => uptoBulkEntries entries + 1
  | .held _ => 1
def uptoBulkAll {H : Type} : List (DataW H) → Nat
  | [] => 0
  | d :: r => uptoBulk d + uptoBulkAll r
def uptoBulkEntries {H : Type} : List (Lit × DataW H) → Nat
  | [] => 0
  | x :: r => uptoBulkEntry x + uptoBulkEntries r
def uptoBulkEntry {H : Type} : Lit × DataW H → Nat
  | (.string bytes, d) => bytes.length + uptoBulk d + 1
  | (_, d) => uptoBulk d + 1
 end
def uptoSmall : (H : Type) → List (DataW H) → Bool := fun _ ds => decide (uptoBulkAll ds ≤ 1048576)
def OpenSpec.upto (s : _root_.Go.ChangeSpec) : _root_.Go.OpenSpec := { _root_.Go.OpenSpec.ofChange s with cond := some uptoSmall }

/-- 'garderobelaw20.HandleApart', WHERE WHAT IT READS IS OF BULK AT MOST 1048576: true; the input reads as it did. -/
def handleApartUptoRow : OpenClaim := { program := "ytdnjlhcmihmgdaa", sum := "8ab0fc1f3e7d2e55281c7d440156f1eda1c6d21e4d7288a5154d1a40eecf051f", func := "garderobe/garderobelaw20.HandleApart", spec := "handleApart", apart := false, narrowed := true }
def HandleApartUptoSaid : Prop := handleApartUptoRow.holds Try.pinned (OpenSpec.upto handleApartSpec)

/-- 'garderobelaw20.HandleMakes', WHERE WHAT IT READS IS OF BULK AT MOST 1048576: true; the input reads as it did. -/
def handleMakesUptoRow : OpenClaim := { program := "ytdnjlhcmihmgdaa", sum := "8ab0fc1f3e7d2e55281c7d440156f1eda1c6d21e4d7288a5154d1a40eecf051f", func := "garderobe/garderobelaw20.HandleMakes", spec := "handleMakes", apart := false, narrowed := true }
def HandleMakesUptoSaid : Prop := handleMakesUptoRow.holds Try.pinned (OpenSpec.upto handleMakesSpec)

/-- 'garderobelaw20.HandlePlace', WHERE WHAT IT READS IS OF BULK AT MOST 1048576: true; the input reads as it did. -/
def handlePlaceUptoRow : OpenClaim := { program := "ytdnjlhcmihmgdaa", sum := "8ab0fc1f3e7d2e55281c7d440156f1eda1c6d21e4d7288a5154d1a40eecf051f", func := "garderobe/garderobelaw20.HandlePlace", spec := "handlePlace", apart := false, narrowed := true }
def HandlePlaceUptoSaid : Prop := handlePlaceUptoRow.holds Try.pinned (OpenSpec.upto handlePlaceSpec)

/-- 'garderobelaw01.WordPut', WHERE WHAT IT READS IS OF BULK AT MOST 1048576: true; the input reads as it did. -/
def wordPutUptoRow : OpenClaim := { program := "ytdnjlhcmihmgdaa", sum := "8ab0fc1f3e7d2e55281c7d440156f1eda1c6d21e4d7288a5154d1a40eecf051f", func := "garderobe/garderobelaw01.WordPut", spec := "wordPut", unfollowed := true, recurses := true, apart := false, narrowed := true }
def WordPutUptoSaid : Prop := wordPutUptoRow.holds Try.pinned (OpenSpec.upto wordPutSpec)

/-- 'garderobelaw01.WordXor', WHERE WHAT IT READS IS OF BULK AT MOST 1048576: true; the input reads as it did. -/
def wordXorUptoRow : OpenClaim := { program := "ytdnjlhcmihmgdaa", sum := "8ab0fc1f3e7d2e55281c7d440156f1eda1c6d21e4d7288a5154d1a40eecf051f", func := "garderobe/garderobelaw01.WordXor", spec := "wordXor", unfollowed := true, recurses := true, apart := false, narrowed := true }
def WordXorUptoSaid : Prop := wordXorUptoRow.holds Try.pinned (OpenSpec.upto wordXorSpec)

/-- 'garderobelaw01.WordPad', WHERE WHAT IT READS IS OF BULK AT MOST 1048576: true; the input reads as it did. -/
def wordPadUptoRow : OpenClaim := { program := "ytdnjlhcmihmgdaa", sum := "8ab0fc1f3e7d2e55281c7d440156f1eda1c6d21e4d7288a5154d1a40eecf051f", func := "garderobe/garderobelaw01.WordPad", spec := "wordPad", unfollowed := true, recurses := true, apart := false, narrowed := true }
def WordPadUptoSaid : Prop := wordPadUptoRow.holds Try.pinned (OpenSpec.upto wordPadSpec)

/-- 'garderobelaw01.WordGet', WHERE WHAT IT READS IS OF BULK AT MOST 1048576: true; the input reads as it did. -/
def wordGetUptoRow : OpenClaim := { program := "ytdnjlhcmihmgdaa", sum := "8ab0fc1f3e7d2e55281c7d440156f1eda1c6d21e4d7288a5154d1a40eecf051f", func := "garderobe/garderobelaw01.WordGet", spec := "wordGet", unfollowed := true, recurses := true, apart := false, narrowed := true }
def WordGetUptoSaid : Prop := wordGetUptoRow.holds Try.pinned (OpenSpec.upto wordGetSpec)

/-- 'garderobelaw01.WordBack', WHERE WHAT IT READS IS OF BULK AT MOST 1048576: true; the input reads as it did. -/
def wordBackUptoRow : OpenClaim := { program := "ytdnjlhcmihmgdaa", sum := "8ab0fc1f3e7d2e55281c7d440156f1eda1c6d21e4d7288a5154d1a40eecf051f", func := "garderobe/garderobelaw01.WordBack", spec := "wordBack", unfollowed := true, recurses := true, apart := false, narrowed := true }
def WordBackUptoSaid : Prop := wordBackUptoRow.holds Try.pinned (OpenSpec.upto wordBackSpec)

/-- 'garderobelaw01.WordSame', WHERE WHAT IT READS IS OF BULK AT MOST 1048576: true; the input reads as it did. -/
def wordSameUptoRow : OpenClaim := { program := "ytdnjlhcmihmgdaa", sum := "8ab0fc1f3e7d2e55281c7d440156f1eda1c6d21e4d7288a5154d1a40eecf051f", func := "garderobe/garderobelaw01.WordSame", spec := "wordSame", unfollowed := true, recurses := true, apart := false, narrowed := true }
def WordSameUptoSaid : Prop := wordSameUptoRow.holds Try.pinned (OpenSpec.upto wordSameSpec)

/-- 'garderobelaw01.WordRow', WHERE WHAT IT READS IS OF BULK AT MOST 1048576: true; the input reads as it did. -/
def wordRowUptoRow : OpenClaim := { program := "ytdnjlhcmihmgdaa", sum := "8ab0fc1f3e7d2e55281c7d440156f1eda1c6d21e4d7288a5154d1a40eecf051f", func := "garderobe/garderobelaw01.WordRow", spec := "wordRow", unfollowed := true, recurses := true, apart := false, narrowed := true }
def WordRowUptoSaid : Prop := wordRowUptoRow.holds Try.pinned (OpenSpec.upto wordRowSpec)

/-- 'garderobelaw20.HandleRoots', WHERE WHAT IT READS IS OF BULK AT MOST 1048576: true; the input reads as it did. -/
def handleRootsUptoRow : OpenClaim := { program := "ytdnjlhcmihmgdaa", sum := "8ab0fc1f3e7d2e55281c7d440156f1eda1c6d21e4d7288a5154d1a40eecf051f", func := "garderobe/garderobelaw20.HandleRoots", spec := "handleRoots", unfollowed := true, recurses := true, apart := false, narrowed := true }
def HandleRootsUptoSaid : Prop := handleRootsUptoRow.holds Try.pinned (OpenSpec.upto handleRootsSpec)

/-- 'garderobelaw20.HandleParse', WHERE WHAT IT READS IS OF BULK AT MOST 1048576: true; the input reads as it did. -/
def handleParseUptoRow : OpenClaim := { program := "ytdnjlhcmihmgdaa", sum := "8ab0fc1f3e7d2e55281c7d440156f1eda1c6d21e4d7288a5154d1a40eecf051f", func := "garderobe/garderobelaw20.HandleParse", spec := "handleParse", unfollowed := true, recurses := true, apart := false, narrowed := true }
def HandleParseUptoSaid : Prop := handleParseUptoRow.holds Try.pinned (OpenSpec.upto handleParseSpec)

end Rows
end Go.Proofs.Ytdnjlhcmihmgdaa
