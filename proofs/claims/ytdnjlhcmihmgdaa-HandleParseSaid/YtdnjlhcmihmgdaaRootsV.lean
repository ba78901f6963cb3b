/- What an argument that is a head tells: a number and sixteen more. -/
import Derived.Test.YtdnjlhcmihmgdaaHeads
import Derived.Test.YtdnjlhcmihmgdaaViews
import Derived.OpenShut
import Derived.ChangeArms
namespace Go.Proofs.Ytdnjlhcmihmgdaa
open Go.ChangeShapes Go.WideShapes Go.RowKit Go.Joins Go.Deep

theorem take_one {α : Type} {L : List α} {j : Nat} {x : α} (h : (L.drop j).take 1 = [x]) : L[j]? = some x := by
  have : ((L.drop j).take 1)[0]? = some x := by rw [h]; rfl
  rw [List.getElem?_take, if_pos (by omega), List.getElem?_drop] at this
  simpa using this
section
variable {H : Type} {enc : TypeId × Value → H} {P : Program} {w : World} {base : Nat} {spare : Nat → Bool} {held : Bool} {r : Reach} {b0 : Nat} {v : Value} {d : DataW H} {p : List MemPlace}
theorem view_roots {t e : TypeId} {f0 f1 : Field} (hs : P.underlying t = some (.struct #[f0, f1])) (ho : f0.offset = 0 ∧ f1.offset = 1) (hu0 : P.underlying f0.type = some (.int .u64)) (hc0 : P.cellsOf f0.type = 1) (hu1 : P.underlying f1.type = some (.array 16 e)) (hc1 : P.cellsOf f1.type = 16) (he : P.underlying e = some (.int .u64)) (hce : P.cellsOf e = 1) (hC : P.cellsOf t = 17)
    (hv : Value.okWide P w r b0 t v) (h : DataW.Trod enc P w base spare held t v d p) :
    ∃ (n : Int) (f : Nat → Int), v = .agg (hd n f) ∧ 0 ≤ n ∧ n ≤ 18446744073709551615 ∧ ∀ i, i < 16 → 0 ≤ f i ∧ f i ≤ 18446744073709551615 := by
  obtain ⟨cs, rfl, hsz⟩ := okWide_struct hs hv
  obtain ⟨fuel, hf⟩ := h
  obtain ⟨xs, m, _, _, hlen, hxl, hfld⟩ := DataW.trod_struct hs hf
  have hxl : xs.length = 2 := hxl
  have hL : (Value.agg cs).cells.toList = cs.toList := by simp [Value.cells]
  rw [hL] at hlen hfld
  rw [hC] at hsz
  have h0 := hfld 0 f0 rfl
  rw [ho.1, hc0, List.getElem?_eq_getElem (by omega)] at h0
  obtain ⟨n, e0, _, w0⟩ := DataW.trod_int hu0 h0
  have h1 := hfld 1 f1 rfl
  rw [ho.2, hc1, List.getElem?_eq_getElem (by omega)] at h1
  obtain ⟨ys, m', _, _, hyl, hyn, hel⟩ := DataW.trod_array hu1 h1
  have each : ∀ i, i < 16 → ∃ x : Int, cs.toList[1 + i]? = some (.int .u64 x) ∧ 0 ≤ x ∧ x ≤ 18446744073709551615 := by
    intro i hi
    have h2 := hel i hi
    rw [hce, Nat.mul_one, List.getElem?_eq_getElem (by omega)] at h2
    obtain ⟨x, e2, _, w2⟩ := DataW.trod_int he h2
    have e3 := take_one e2
    rw [List.getElem?_take, if_pos (by omega), List.getElem?_drop] at e3
    simp [Lit.wf, IntKind.min, IntKind.max, IntKind.signed, IntKind.bits] at w2
    exact ⟨x, e3, by omega, by omega⟩
  have e0 := take_one e0
  simp [Lit.wf, IntKind.min, IntKind.max, IntKind.signed, IntKind.bits] at w0
  obtain ⟨f, hfx⟩ : ∃ f : Nat → Int, ∀ i, i < 16 → cs.toList[1 + i]? = some (.int .u64 (f i)) ∧ 0 ≤ f i ∧ f i ≤ 18446744073709551615 :=
    ⟨fun i => if hi : i < 16 then (each i hi).choose else 0, fun i hi => by simp only [dif_pos hi]; exact (each i hi).choose_spec⟩
  refine ⟨n, f, ?_, by omega, by omega, fun i hi => (hfx i hi).2⟩
  congr 1
  apply Array.ext_getElem?
  intro j
  match j with
  | 0 => rw [← Array.getElem?_toList, e0]; rfl
  | i + 1 =>
    rcases Nat.lt_or_ge i 16 with hi | hi
    · rw [Nat.add_comm i 1, hd_get n f hi, ← Array.getElem?_toList]
      exact (hfx i hi).1
    · rw [Array.getElem?_eq_none (by omega), Array.getElem?_eq_none (by show 17 ≤ i + 1; omega)]
end
end Go.Proofs.Ytdnjlhcmihmgdaa
