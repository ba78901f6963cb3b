/- What an argument that is a struct of five numbers tells. -/
import Derived.Test.YtidlcplamgajpaaPagesV
namespace Go.Proofs.Ytidlcplamgajpaa
open Go.ChangeShapes Go.WideShapes Go.RowKit Go.Joins Go.Deep

section
variable {H : Type} {enc : TypeId × Value → H} {P : Program} {w : World} {base : Nat} {spare : Nat → Bool} {held : Bool} {r : Reach} {b0 : Nat} {v : Value} {d : DataW H} {p : List MemPlace}
/-- A struct whose fields take one cell each. -/
theorem view_struct1 {t : TypeId} {fs : Array Field} (hs : P.underlying t = some (.struct fs)) (hone : oneCellFields P fs = true) (hC : P.cellsOf t = fs.size) (hv : Value.okWide P w r b0 t v) (h : DataW.Trod enc P w base spare held t v d p) :
    ∃ cs : Array Value, v = .agg cs ∧ cs.size = fs.size ∧ ∀ (j : Nat) (f : Field), fs[j]? = some f → ∃ (y : DataW H × List MemPlace) (m : Nat), DataW.trod enc P w base spare held m f.type [cs.toList.getD j undef] = some y := by
  obtain ⟨cs, rfl, hsz⟩ := okWide_struct hs hv
  obtain ⟨fuel, hf⟩ := h
  refine ⟨cs, rfl, hsz.trans hC, fun j f hj => ?_⟩
  obtain ⟨ys, n', hn', hy, hlen, hyl, hff⟩ := DataW.trod_struct hs hf
  obtain ⟨ho, hk⟩ := hone_of hone j f hj
  have hjl : j < fs.size := (Array.getElem?_eq_some_iff.1 hj).1
  have h1 := hff j f hj
  rw [ho, hk] at h1
  have hcs : cs.toList.length = fs.size := by simpa using hsz.trans hC
  have e1 : (cs.toList.drop j).take 1 = [cs.toList.getD j undef] := by
    have hjc : j < cs.toList.length := by omega
    rw [List.drop_eq_getElem_cons hjc]
    show [cs.toList[j]] = _
    simp only [List.getD, List.getElem?_eq_getElem hjc, Option.getD_some]
  have h2 : DataW.trod enc P w base spare held n' f.type ((cs.toList.drop j).take 1) = ys[j]? := h1
  rw [e1] at h2
  have hys : ys[j]? = some (ys[j]'(by omega)) := List.getElem?_eq_getElem (by omega)
  exact ⟨_, _, h2.trans hys⟩
theorem view_pg1 {t : TypeId} {f0 f1 f2 f3 f4 : Field} (hs : P.underlying t = some (.struct #[f0, f1, f2, f3, f4])) (hone : oneCellFields P #[f0, f1, f2, f3, f4] = true) (hC : P.cellsOf t = 5)
    (h0 : P.underlying f0.type = some (.int .i64)) (h1 : P.underlying f1.type = some (.int .i64)) (h2 : P.underlying f2.type = some (.int .i64)) (h3 : P.underlying f3.type = some (.int .i64)) (h4 : P.underlying f4.type = some (.int .u64))
    (hv : Value.okWide P w r b0 t v) (h : DataW.Trod enc P w base spare held t v d p) :
    ∃ a b c e s : Int, v = .agg #[.int .i64 a, .int .i64 b, .int .i64 c, .int .i64 e, .int .u64 s] ∧ inPg (a, b, c, e, s) := by
  obtain ⟨cs, rfl, hsz, hf⟩ := view_struct1 hs hone hC hv h
  have int : ∀ (j : Nat) (f : Field), #[f0, f1, f2, f3, f4][j]? = some f → P.underlying f.type = some (.int .i64) → ∃ z : Int, cs.toList.getD j undef = .int .i64 z ∧ -9223372036854775808 ≤ z ∧ z ≤ 9223372036854775807 := by
    intro j f hj hu
    obtain ⟨y, m, hy⟩ := hf j f hj
    obtain ⟨z, e, _, wz⟩ := DataW.trod_int (k := .i64) hu hy
    simp only [List.cons.injEq, and_true] at e
    exact ⟨z, e, by simpa [Lit.wf, IntKind.min, IntKind.max, IntKind.signed, IntKind.bits] using wz⟩
  obtain ⟨z0, e0, w0⟩ := int 0 f0 rfl h0
  obtain ⟨z1, e1, w1⟩ := int 1 f1 rfl h1
  obtain ⟨z2, e2, w2⟩ := int 2 f2 rfl h2
  obtain ⟨z3, e3, w3⟩ := int 3 f3 rfl h3
  obtain ⟨y, m, hy⟩ := hf 4 f4 rfl
  obtain ⟨z4, e4, _, wz⟩ := DataW.trod_int (k := .u64) h4 hy
  simp only [List.cons.injEq, and_true] at e4
  have w4 : 0 ≤ z4 ∧ z4 ≤ 18446744073709551615 := by simpa [Lit.wf, IntKind.min, IntKind.max, IntKind.signed, IntKind.bits] using wz
  refine ⟨z0, z1, z2, z3, z4, ?_, w0, w1, w2, w3, w4⟩
  congr 1
  obtain ⟨l⟩ := cs
  simp only [List.size_toArray] at hsz
  simp only at e0 e1 e2 e3 e4
  match l, hsz, e0, e1, e2, e3, e4 with
  | [x0, x1, x2, x3, x4], _, e0, e1, e2, e3, e4 =>
    simp at e0 e1 e2 e3 e4
    rw [e0, e1, e2, e3, e4]
end
end Go.Proofs.Ytidlcplamgajpaa
