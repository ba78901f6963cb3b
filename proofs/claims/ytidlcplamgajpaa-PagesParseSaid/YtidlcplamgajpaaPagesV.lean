/- What an argument that is a list of pages, or of calls, tells. -/
import Derived.Test.YtidlcplamgajpaaPages
import Derived.Test.YtidlcplamgajpaaViews2
namespace Go.Proofs.Ytidlcplamgajpaa
open Go.ChangeShapes Go.WideShapes Go.RowKit Go.Joins Go.Deep

/-- Each number is one of its kind. -/
def inPg (p : Pg) : Prop := (-9223372036854775808 ≤ p.1 ∧ p.1 ≤ 9223372036854775807) ∧ (-9223372036854775808 ≤ p.2.1 ∧ p.2.1 ≤ 9223372036854775807) ∧ (-9223372036854775808 ≤ p.2.2.1 ∧ p.2.2.1 ≤ 9223372036854775807) ∧ (-9223372036854775808 ≤ p.2.2.2.1 ∧ p.2.2.2.1 ≤ 9223372036854775807) ∧ (0 ≤ p.2.2.2.2 ∧ p.2.2.2.2 ≤ 18446744073709551615)
section
variable {H : Type} {enc : TypeId × Value → H} {P : Program} {w : World} {base : Nat} {held : Bool} {r : Reach} {b0 : Nat} {v : Value} {d : DataW H} {p : List MemPlace}
theorem view_pg {t e : TypeId} {f0 f1 f2 f3 f4 : Field} (ht : P.underlying t = some (.slice e)) (he : P.underlying e = some (.struct #[f0, f1, f2, f3, f4])) (hone : oneCellFields P #[f0, f1, f2, f3, f4] = true) (hC : P.cellsOf e = 5)
    (h0 : P.underlying f0.type = some (.int .i64)) (h1 : P.underlying f1.type = some (.int .i64)) (h2 : P.underlying f2.type = some (.int .i64)) (h3 : P.underlying f3.type = some (.int .i64)) (h4 : P.underlying f4.type = some (.int .u64))
    (hv : Value.okWide P w r b0 t v) (h : DataW.Trod enc P w base (fun _ => true) held t v d p) :
    ∃ (A : Option Addr) (n c : Nat) (l : List Pg), v = .slice A n c ∧ RdG pgE w A n l ∧ n ≤ c ∧ c ≤ maxLen ∧ ∀ a ∈ l, inPg a := by
  obtain ⟨A, n, c, el, rfl, hnc, hcm, hcell, hf⟩ := view_structs ht he hone hC (by show 0 < 5; omega) hv h
  have int : ∀ (i j : Nat) (f : Field), i < n → #[f0, f1, f2, f3, f4][j]? = some f → P.underlying f.type = some (.int .i64) → ∃ z : Int, el i j = .int .i64 z ∧ -9223372036854775808 ≤ z ∧ z ≤ 9223372036854775807 := by
    intro i j f hi hj hu
    obtain ⟨y, m, hy⟩ := hf i hi j f hj
    obtain ⟨z, e, _, wz⟩ := DataW.trod_int (k := .i64) hu hy
    simp at e
    simp [Lit.wf, IntKind.min, IntKind.max, IntKind.signed, IntKind.bits] at wz
    exact ⟨z, e, by omega, by omega⟩
  have each : ∀ i, i < n → ∃ a b c d s : Int, el i 0 = .int .i64 a ∧ el i 1 = .int .i64 b ∧ el i 2 = .int .i64 c ∧ el i 3 = .int .i64 d ∧ el i 4 = .int .u64 s ∧ inPg (a, b, c, d, s) := by
    intro i hi
    obtain ⟨a, ea, a1, a2⟩ := int i 0 f0 hi rfl h0
    obtain ⟨b, eb, b1, b2⟩ := int i 1 f1 hi rfl h1
    obtain ⟨c, ec, c1, c2⟩ := int i 2 f2 hi rfl h2
    obtain ⟨d, ed, d1, d2⟩ := int i 3 f3 hi rfl h3
    obtain ⟨y, m, hy⟩ := hf i hi 4 f4 rfl
    obtain ⟨s, es, _, ws⟩ := DataW.trod_int (k := .u64) h4 hy
    simp at es
    simp [Lit.wf, IntKind.min, IntKind.max, IntKind.signed, IntKind.bits] at ws
    exact ⟨a, b, c, d, s, ea, eb, ec, ed, es, ⟨a1, a2⟩, ⟨b1, b2⟩, ⟨c1, c2⟩, ⟨d1, d2⟩, ⟨by show 0 ≤ s; omega, by show s ≤ _; omega⟩⟩
  refine ⟨A, n, c, (List.range n).map fun i => (intOf (el i 0), intOf (el i 1), intOf (el i 2), intOf (el i 3), intOf (el i 4)), rfl, view_elems (k := 5) rfl hcell ?_, hnc, hcm, ?_⟩
  · intro i hi j hj
    obtain ⟨a, b, c, d, s, ea, eb, ec, ed, es, _⟩ := each i hi
    rcases (show j = 0 ∨ j = 1 ∨ j = 2 ∨ j = 3 ∨ j = 4 by omega) with rfl | rfl | rfl | rfl | rfl
    · rw [ea]; rfl
    · rw [eb]; rfl
    · rw [ec]; rfl
    · rw [ed]; rfl
    · rw [es]; rfl
  · intro q hq
    obtain ⟨i, hi, rfl⟩ := List.mem_map.1 hq
    obtain ⟨a, b, c, d, s, ea, eb, ec, ed, es, hin⟩ := each i (List.mem_range.1 hi)
    rw [ea, eb, ec, ed, es]
    exact hin
end
end Go.Proofs.Ytidlcplamgajpaa
