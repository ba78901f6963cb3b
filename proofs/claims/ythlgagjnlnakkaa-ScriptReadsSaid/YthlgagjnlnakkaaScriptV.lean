/- What an argument that is a list of acts tells. -/
import Derived.Test.YthlgagjnlnakkaaScript1
import Derived.Test.YthlgagjnlnakkaaViews
import Derived.Test.YthlgagjnlnakkaaViews2
namespace Go.Proofs.Ythlgagjnlnakkaa
open Go.ChangeShapes Go.WideShapes Go.RowKit Go.Joins Go.Deep

section
variable {H : Type} {enc : TypeId × Value → H} {P : Program} {w : World} {base : Nat} {spare : Nat → Bool} {held : Bool} {r : Reach} {b0 : Nat} {v : Value} {d : DataW H} {p : List MemPlace}
/-- A slice of bytes, by its one cell. -/
theorem cell_bytes {t e : TypeId} {x : Value} {y : DataW H × List MemPlace} {m : Nat} (ht : P.underlying t = some (.slice e)) (he : P.underlying e = some (.int .u8)) (hC : P.cellsOf e = 1) (hf : DataW.trod enc P w base (fun _ => true) held m t [x] = some y) :
    ∃ (A : Option Addr) (n c : Nat) (l : List UInt8), x = .slice A n c ∧ Rd w A n l ∧ n ≤ c ∧ c ≤ maxLen := by
  rcases open_ints ht he hC hf with ⟨hcs, _⟩ | ⟨a, l, cc, zs, hcs, _, hl, hm, hz, _, hcell, hwz⟩
  · simp at hcs
    subst hcs
    exact ⟨none, 0, 0, [], rfl, Rd.nil, Nat.le_refl _, by unfold maxLen; omega⟩
  · simp at hcs
    subst hcs
    have hzl : zs.length = cc := by simpa using hz
    refine ⟨some a, l, cc, (zs.take l).map fun z => UInt8.ofNat z.toNat, rfl, ⟨by simp; omega, fun hn => ?_⟩, hl, hm⟩
    obtain ⟨b, off, spot⟩ := a
    have h0 := hcell 0 (by omega)
    have hspot : spot = none := by simpa [Addr.add] using World.cell?_spot h0
    subst hspot
    refine ⟨b, off, rfl, ?_, fun j u hj => ?_⟩
    · have := World.block_lt_of_cell? w _ h0
      simpa [Addr.add] using this
    · rw [List.getElem?_map] at hj
      obtain ⟨z, hzj, rfl⟩ := Option.map_eq_some_iff.1 hj
      rw [List.getElem?_take] at hzj
      split at hzj
      · have hjl : j < zs.length := (List.getElem?_eq_some_iff.1 hzj).1
        have hcj := hcell j hjl
        have h2 : (⟨b, off, none⟩ : Addr).add j = ⟨b, off + j, none⟩ := by unfold Addr.add; split <;> simp_all
        rw [h2] at hcj
        have hzz : zs.getD j 0 = z := by simp [List.getD, hzj]
        rw [hcj, hzz]
        have hw := hwz z (List.mem_of_getElem? hzj)
        simp [Lit.wf, IntKind.min, IntKind.max, IntKind.signed, IntKind.bits] at hw
        unfold bv
        congr 2
        rw [UInt8.toNat_ofNat']
        omega
      · cases hzj
def slOf : Value → Option Addr × Nat × Nat | .slice A n c => (A, n, c) | _ => (none, 0, 0)
def boolOf : Value → Bool | .bool b => b | _ => false
/-- A slice of acts. -/
theorem view_acts {t e b8 : TypeId} {f0 f1 f2 f3 f4 f5 f6 : Field} (T : TypeId) (ht : P.underlying t = some (.slice e)) (he : P.underlying e = some (.struct #[f0, f1, f2, f3, f4, f5, f6])) (hone : oneCellFields P #[f0, f1, f2, f3, f4, f5, f6] = true) (hC : P.cellsOf e = 7)
    (h0 : P.underlying f0.type = some (.int .i64)) (h1 : P.underlying f1.type = some .bool) (h2 : P.underlying f2.type = some (.int .i64)) (h3 : P.underlying f3.type = some (.int .i64)) (h4 : P.underlying f4.type = some (.int .i64)) (h5 : P.underlying f5.type = some (.int .i64)) (h6 : P.underlying f6.type = some (.slice b8)) (h8 : P.underlying b8 = some (.int .u8)) (hC8 : P.cellsOf b8 = 1)
    (hv : Value.okWide P w r b0 t v) (h : DataW.Trod enc P w base (fun _ => true) held t v d p) :
    ∃ (A : Option Addr) (n c : Nat) (es : List ActD), v = .slice A n c ∧ RdR actK w.heap.size T w A n es ∧ n ≤ c ∧ c ≤ maxLen := by
  obtain ⟨A, n, c, el, rfl, hnc, hcm, hcell, hff⟩ := view_structs ht he hone hC (by show 0 < 7; omega) hv h
  have int : ∀ (i j : Nat) (f : Field), i < n → #[f0, f1, f2, f3, f4, f5, f6][j]? = some f → P.underlying f.type = some (.int .i64) → ∃ z : Int, el i j = .int .i64 z := by
    intro i j f hi hj hu
    obtain ⟨y, m, hy⟩ := hff i hi j f hj
    obtain ⟨z, e, _, wz⟩ := DataW.trod_int (k := .i64) hu hy
    simp at e
    exact ⟨z, e⟩
  have each : ∀ i, i < n → ∃ (g0 : Int) (g1 : Bool) (g2 g3 g4 g5 : Int) (Ad : Option Addr) (nd cd : Nat) (L : List UInt8), el i 0 = .int .i64 g0 ∧ el i 1 = .bool g1 ∧ el i 2 = .int .i64 g2 ∧ el i 3 = .int .i64 g3 ∧ el i 4 = .int .i64 g4 ∧ el i 5 = .int .i64 g5 ∧ el i 6 = .slice Ad nd cd ∧ Rd w Ad nd L ∧ nd ≤ cd ∧ cd ≤ maxLen := by
    intro i hi
    obtain ⟨g0, e0⟩ := int i 0 f0 hi rfl h0
    obtain ⟨y, m, hy⟩ := hff i hi 1 f1 rfl
    obtain ⟨g1, e1, _⟩ := DataW.trod_bool h1 hy
    simp only [List.cons.injEq, and_true] at e1
    obtain ⟨g2, e2⟩ := int i 2 f2 hi rfl h2
    obtain ⟨g3, e3⟩ := int i 3 f3 hi rfl h3
    obtain ⟨g4, e4⟩ := int i 4 f4 hi rfl h4
    obtain ⟨g5, e5⟩ := int i 5 f5 hi rfl h5
    obtain ⟨y, m, hy⟩ := hff i hi 6 f6 rfl
    obtain ⟨Ad, nd, cd, L, e6, hR, h3, h4⟩ := cell_bytes h6 h8 hC8 hy
    exact ⟨g0, g1, g2, g3, g4, g5, Ad, nd, cd, L, e0, e1, e2, e3, e4, e5, e6, hR, h3, h4⟩
  have each2 : ∀ i, ∃ L : List UInt8, i < n → Rd w (slOf (el i 6)).1 (slOf (el i 6)).2.1 L ∧ (slOf (el i 6)).2.1 ≤ (slOf (el i 6)).2.2 ∧ (slOf (el i 6)).2.2 ≤ maxLen := by
    intro i
    by_cases hi : i < n
    · obtain ⟨_, _, _, _, _, _, Ad, nd, cd, L, _, _, _, _, _, _, e2, hR, h3, h4⟩ := each i hi
      exact ⟨L, fun _ => by rw [e2]; exact ⟨hR, h3, h4⟩⟩
    · exact ⟨[], fun h => absurd h hi⟩
  refine ⟨A, n, c, (List.range n).map fun i => ((intOf (el i 0), boolOf (el i 1), intOf (el i 2), intOf (el i 3), intOf (el i 4), intOf (el i 5)), (each2 i).choose), rfl, ⟨(List.range n).map fun i => ((intOf (el i 0), boolOf (el i 1), intOf (el i 2), intOf (el i 3), intOf (el i 4), intOf (el i 5)), slOf (el i 6)), view_elems (k := 7) rfl hcell ?_, by simp, ?_⟩, hnc, hcm⟩
  · intro i hi j hj
    obtain ⟨g0, g1, g2, g3, g4, g5, Ad, nd, cd, L, e0, e1, e2, e3, e4, e5, e6, _⟩ := each i hi
    rcases (show j = 0 ∨ j = 1 ∨ j = 2 ∨ j = 3 ∨ j = 4 ∨ j = 5 ∨ j = 6 by omega) with rfl | rfl | rfl | rfl | rfl | rfl | rfl
    · rw [e0]; rfl
    · rw [e1]; rfl
    · rw [e2]; rfl
    · rw [e3]; rfl
    · rw [e4]; rfl
    · rw [e5]; rfl
    · rw [e6]; rfl
  · intro i h e hh he
    have hin : i < n := by have := (List.getElem?_eq_some_iff.1 hh).1; simpa using this
    rw [List.getElem?_map, List.getElem?_range hin] at hh he
    simp only [Option.map_some, Option.some.injEq] at hh he
    obtain ⟨g1, g2, g3⟩ := (each2 i).choose_spec hin
    rw [← hh, ← he]
    have g4 : RdX w.heap.size T w (slOf (el i 6)).1 (slOf (el i 6)).2.1 (each2 i).choose := RdX.old g1 (Nat.le_refl _)
    exact ⟨rfl, g4, g2, g3⟩
end
end Go.Proofs.Ythlgagjnlnakkaa
