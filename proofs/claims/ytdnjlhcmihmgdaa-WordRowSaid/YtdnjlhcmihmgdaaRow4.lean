/- What an argument that is a list of questions tells. -/
import Derived.Test.YtdnjlhcmihmgdaaRow3
import Derived.Test.YtdnjlhcmihmgdaaViews2
namespace Go.Proofs.Ytdnjlhcmihmgdaa
open Go.ChangeShapes Go.WideShapes Go.RowKit Go.Joins Go.Deep

section
variable {H : Type} {enc : TypeId × Value → H} {w : World} {base : Nat} {held : Bool} {r : Reach} {b0 : Nat} {v : Value} {d : DataW H} {p : List MemPlace}
theorem view_asks (hv : Value.okWide Try.prog w r b0 50 v) (h : DataW.Trod enc Try.prog w base (fun _ => true) held 50 v d p) :
    ∃ (A : Option Addr) (n c : Nat) (q : List (Int × Int)), v = .slice A n c ∧ RdG askE w A n q ∧ n ≤ c ∧ c ≤ maxLen ∧ ∀ a ∈ q, a.2 ≤ 9223372036854775807 := by
  obtain ⟨A, n, c, el, rfl, hnc, hcm, hcell, hf⟩ := view_structs Try.underlying50 Try.underlying57 (by kernel_rfl) (by kernel_rfl) (by decide) hv h
  have each : ∀ i, i < n → (∃ z : Int, el i 0 = .int .i64 z) ∧ ∃ z : Int, el i 1 = .int .i64 z ∧ z ≤ 9223372036854775807 := by
    intro i hi
    obtain ⟨y, m, h0⟩ := hf i hi 0 _ rfl
    obtain ⟨z0, e0, _, _⟩ := DataW.trod_int (k := .i64) Try.underlying3 h0
    obtain ⟨y1, m1, h1⟩ := hf i hi 1 _ rfl
    obtain ⟨z1, e1, _, w1⟩ := DataW.trod_int (k := .i64) Try.underlying3 h1
    simp at e0 e1
    simp [Lit.wf, IntKind.min, IntKind.max, IntKind.signed, IntKind.bits] at w1
    exact ⟨⟨z0, e0⟩, z1, e1, by omega⟩
  refine ⟨A, n, c, (List.range n).map fun i => (intOf (el i 0), intOf (el i 1)), rfl, view_elems (k := 2) rfl hcell ?_, hnc, hcm, ?_⟩
  · intro i hi j hj
    obtain ⟨⟨z0, e0⟩, z1, e1, _⟩ := each i hi
    rcases (show j = 0 ∨ j = 1 by omega) with rfl | rfl
    · rw [e0]; rfl
    · rw [e1]; rfl
  · intro a ha
    obtain ⟨i, hi, rfl⟩ := List.mem_map.1 ha
    obtain ⟨_, z1, e1, hz⟩ := each i (List.mem_range.1 hi)
    show intOf (el i 1) ≤ _
    rw [e1]
    exact hz
end
end Go.Proofs.Ytdnjlhcmihmgdaa
