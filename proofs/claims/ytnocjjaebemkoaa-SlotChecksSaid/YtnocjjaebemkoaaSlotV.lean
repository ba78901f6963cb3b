/- What an argument that is a list of slots' calls tells. -/
import Derived.Test.YtnocjjaebemkoaaViews
import Derived.Test.YtnocjjaebemkoaaViews2
import Derived.Test.YtnocjjaebemkoaaRec
namespace Go.Proofs.Ytnocjjaebemkoaa
open Go.ChangeShapes Go.WideShapes Go.RowKit Go.Joins Go.Deep

/-- A call: five numbers, and bytes. -/
abbrev OpF := Int × Int × Int × Int × Int
abbrev OpD := OpF × List UInt8
abbrev OpH := OpF × (Option Addr × Nat × Nat)
def opE : Enc OpH where
  sz := 6
  f x := [.int .i64 x.1.1, .int .i64 x.1.2.1, .int .i64 x.1.2.2.1, .int .i64 x.1.2.2.2.1, .int .u64 x.1.2.2.2.2, .slice x.2.1 x.2.2.1 x.2.2.2]
  len _ := rfl
  pos := by decide
  one x u hu := by
    simp at hu
    rcases hu with rfl | rfl | rfl | rfl | rfl | rfl <;> rfl
def opK : RKind OpH OpD := ⟨opE, fun h => h.2, fun e => e.2, fun h e => h.1 = e.1⟩
/-- What a call's place tells. -/
theorem RdR.op {B : Nat} {T : TypeId} {w : World} {A : Option Addr} {n k : Nat} {es : List OpD} (hr : RdR opK B T w A n es) (hk : k < n) : ∃ (b off : Nat) (f1 f2 f3 f4 f5 : Int) (Ad : Option Addr) (nd cd : Nat) (L : List UInt8), A = some ⟨b, off, none⟩ ∧ b < w.heap.size ∧ es[k]? = some ((f1, f2, f3, f4, f5), L) ∧
    w.cell? ⟨b, off + k * 6, none⟩ = some (.int .i64 f1) ∧ w.cell? ⟨b, off + k * 6 + 1, none⟩ = some (.int .i64 f2) ∧ w.cell? ⟨b, off + k * 6 + 2, none⟩ = some (.int .i64 f3) ∧ w.cell? ⟨b, off + k * 6 + 3, none⟩ = some (.int .i64 f4) ∧ w.cell? ⟨b, off + k * 6 + 4, none⟩ = some (.int .u64 f5) ∧ w.cell? ⟨b, off + k * 6 + 5, none⟩ = some (.slice Ad nd cd) ∧ RdX B T w Ad nd L ∧ nd ≤ cd ∧ cd ≤ maxLen := by
  obtain ⟨b, off, ⟨⟨g1, g2, g3, g4, g5⟩, Ad, nd, cd⟩, ⟨⟨f1, f2, f3, f4, f5⟩, L⟩, hA, hb, he, hc, hi⟩ := hr.at_ hk
  obtain ⟨e1, e2, e3, e4⟩ := hi
  have e1' : (g1, g2, g3, g4, g5) = (f1, f2, f3, f4, f5) := e1
  injection e1' with d1 e1'
  injection e1' with d2 e1'
  injection e1' with d3 e1'
  injection e1' with d4 d5
  subst d1 d2 d3 d4 d5
  have h0 : w.cell? ⟨b, off + k * 6 + 0, none⟩ = _ := hc 0 _ rfl
  exact ⟨b, off, g1, g2, g3, g4, g5, Ad, nd, cd, L, hA, hb, he, h0, hc 1 _ rfl, hc 2 _ rfl, hc 3 _ rfl, hc 4 _ rfl, hc 5 _ rfl, e2, e3, e4⟩

section
variable {H : Type} {enc : TypeId × Value → H} {P : Program} {w : World} {base : Nat} {spare : Nat → Bool} {held : Bool} {r : Reach} {b0 : Nat} {v : Value} {d : DataW H} {p : List MemPlace}
/-- A slice of bytes, by its one cell. -/
theorem cell_bytes {t e : TypeId} {x : Value} {y : DataW H × List MemPlace} {m : Nat} (ht : P.underlying t = some (.slice e)) (he : P.underlying e = some (.int .u8)) (hC : P.cellsOf e = 1) (hf : DataW.trod enc P w base (fun _ => true) held m t [x] = some y) :
    ∃ (A : Option Addr) (n c : Nat) (l : List UInt8), x = .slice A n c ∧ Rd w A n l ∧ n ≤ c ∧ c ≤ maxLen := by
  rcases open_ints ht he hC hf with ⟨hcs, _⟩ | ⟨a, l, cc, zs, hcs, _, hl, hm, hz, _, hcell, hwz⟩
  · simp at hcs
    subst hcs
    exact ⟨none, 0, 0, [], rfl, Rd.nil, Nat.le_refl _, by unfold maxLen; omega⟩
  · simp at hcs
    subst hcs
    have hzl : zs.length = cc := by simpa using hz
    refine ⟨some a, l, cc, (zs.take l).map fun z => UInt8.ofNat z.toNat, rfl, ⟨by simp; omega, fun hn => ?_⟩, hl, hm⟩
    obtain ⟨b, off, spot⟩ := a
    have h0 := hcell 0 (by omega)
    have hspot : spot = none := by simpa [Addr.add] using World.cell?_spot h0
    subst hspot
    refine ⟨b, off, rfl, ?_, fun j u hj => ?_⟩
    · have := World.block_lt_of_cell? w _ h0
      simpa [Addr.add] using this
    · rw [List.getElem?_map] at hj
      obtain ⟨z, hzj, rfl⟩ := Option.map_eq_some_iff.1 hj
      rw [List.getElem?_take] at hzj
      split at hzj
      · have hjl : j < zs.length := (List.getElem?_eq_some_iff.1 hzj).1
        have hcj := hcell j hjl
        have h2 : (⟨b, off, none⟩ : Addr).add j = ⟨b, off + j, none⟩ := by unfold Addr.add; split <;> simp_all
        rw [h2] at hcj
        have hzz : zs.getD j 0 = z := by simp [List.getD, hzj]
        rw [hcj, hzz]
        have hw := hwz z (List.mem_of_getElem? hzj)
        simp [Lit.wf, IntKind.min, IntKind.max, IntKind.signed, IntKind.bits] at hw
        unfold bv
        congr 2
        rw [UInt8.toNat_ofNat']
        omega
      · cases hzj
def slOf : Value → Option Addr × Nat × Nat | .slice A n c => (A, n, c) | _ => (none, 0, 0)
/-- A slice of calls. -/
theorem view_ops {t e b8 : TypeId} {f0 f1 f2 f3 f4 f5 : Field} (T : TypeId) (ht : P.underlying t = some (.slice e)) (he : P.underlying e = some (.struct #[f0, f1, f2, f3, f4, f5])) (hone : oneCellFields P #[f0, f1, f2, f3, f4, f5] = true) (hC : P.cellsOf e = 6)
    (h0 : P.underlying f0.type = some (.int .i64)) (h1 : P.underlying f1.type = some (.int .i64)) (h2 : P.underlying f2.type = some (.int .i64)) (h3 : P.underlying f3.type = some (.int .i64)) (h4 : P.underlying f4.type = some (.int .u64)) (h6 : P.underlying f5.type = some (.slice b8)) (h8 : P.underlying b8 = some (.int .u8)) (hC8 : P.cellsOf b8 = 1)
    (hv : Value.okWide P w r b0 t v) (h : DataW.Trod enc P w base (fun _ => true) held t v d p) :
    ∃ (A : Option Addr) (n c : Nat) (es : List OpD), v = .slice A n c ∧ RdR opK w.heap.size T w A n es ∧ n ≤ c ∧ c ≤ maxLen := by
  obtain ⟨A, n, c, el, rfl, hnc, hcm, hcell, hff⟩ := view_structs ht he hone hC (by show 0 < 6; omega) hv h
  have int : ∀ (i j : Nat) (f : Field), i < n → #[f0, f1, f2, f3, f4, f5][j]? = some f → P.underlying f.type = some (.int .i64) → ∃ z : Int, el i j = .int .i64 z := by
    intro i j f hi hj hu
    obtain ⟨y, m, hy⟩ := hff i hi j f hj
    obtain ⟨z, e, _, wz⟩ := DataW.trod_int (k := .i64) hu hy
    simp at e
    exact ⟨z, e⟩
  have each : ∀ i, i < n → ∃ (g0 g1 g2 g3 g4 : Int) (Ad : Option Addr) (nd cd : Nat) (L : List UInt8), el i 0 = .int .i64 g0 ∧ el i 1 = .int .i64 g1 ∧ el i 2 = .int .i64 g2 ∧ el i 3 = .int .i64 g3 ∧ el i 4 = .int .u64 g4 ∧ el i 5 = .slice Ad nd cd ∧ Rd w Ad nd L ∧ nd ≤ cd ∧ cd ≤ maxLen := by
    intro i hi
    obtain ⟨g0, e0⟩ := int i 0 f0 hi rfl h0
    obtain ⟨g1, e1⟩ := int i 1 f1 hi rfl h1
    obtain ⟨g2, e2⟩ := int i 2 f2 hi rfl h2
    obtain ⟨g3, e3⟩ := int i 3 f3 hi rfl h3
    obtain ⟨y, m, hy⟩ := hff i hi 4 f4 rfl
    obtain ⟨g4, e4, _⟩ := DataW.trod_int (k := .u64) h4 hy
    simp at e4
    obtain ⟨y, m, hy⟩ := hff i hi 5 f5 rfl
    obtain ⟨Ad, nd, cd, L, e5, hR, h3, h4⟩ := cell_bytes h6 h8 hC8 hy
    exact ⟨g0, g1, g2, g3, g4, Ad, nd, cd, L, e0, e1, e2, e3, e4, e5, hR, h3, h4⟩
  have each2 : ∀ i, ∃ L : List UInt8, i < n → Rd w (slOf (el i 5)).1 (slOf (el i 5)).2.1 L ∧ (slOf (el i 5)).2.1 ≤ (slOf (el i 5)).2.2 ∧ (slOf (el i 5)).2.2 ≤ maxLen := by
    intro i
    by_cases hi : i < n
    · obtain ⟨_, _, _, _, _, Ad, nd, cd, L, _, _, _, _, _, e2, hR, h3, h4⟩ := each i hi
      exact ⟨L, fun _ => by rw [e2]; exact ⟨hR, h3, h4⟩⟩
    · exact ⟨[], fun h => absurd h hi⟩
  refine ⟨A, n, c, (List.range n).map fun i => ((intOf (el i 0), intOf (el i 1), intOf (el i 2), intOf (el i 3), intOf (el i 4)), (each2 i).choose), rfl, ⟨(List.range n).map fun i => ((intOf (el i 0), intOf (el i 1), intOf (el i 2), intOf (el i 3), intOf (el i 4)), slOf (el i 5)), view_elems (k := 6) rfl hcell ?_, by simp, ?_⟩, hnc, hcm⟩
  · intro i hi j hj
    obtain ⟨g0, g1, g2, g3, g4, Ad, nd, cd, L, e0, e1, e2, e3, e4, e5, _⟩ := each i hi
    rcases (show j = 0 ∨ j = 1 ∨ j = 2 ∨ j = 3 ∨ j = 4 ∨ j = 5 by omega) with rfl | rfl | rfl | rfl | rfl | rfl
    · rw [e0]; rfl
    · rw [e1]; rfl
    · rw [e2]; rfl
    · rw [e3]; rfl
    · rw [e4]; rfl
    · rw [e5]; rfl
  · intro i h e hh he
    have hin : i < n := by have := (List.getElem?_eq_some_iff.1 hh).1; simpa using this
    rw [List.getElem?_map, List.getElem?_range hin] at hh he
    simp only [Option.map_some, Option.some.injEq] at hh he
    obtain ⟨g1, g2, g3⟩ := (each2 i).choose_spec hin
    rw [← hh, ← he]
    have g4 : RdX w.heap.size T w (slOf (el i 5)).1 (slOf (el i 5)).2.1 (each2 i).choose := RdX.old g1 (Nat.le_refl _)
    exact ⟨rfl, g4, g2, g3⟩
theorem view_struct1 {t : TypeId} {fs : Array Field} (hs : P.underlying t = some (.struct fs)) (hone : oneCellFields P fs = true) (hC : P.cellsOf t = fs.size) (hv : Value.okWide P w r b0 t v) (h : DataW.Trod enc P w base spare held t v d p) :
    ∃ cs : Array Value, v = .agg cs ∧ cs.size = fs.size ∧ ∀ (j : Nat) (f : Field), fs[j]? = some f → ∃ (y : DataW H × List MemPlace) (m : Nat), DataW.trod enc P w base spare held m f.type [cs.toList.getD j undef] = some y := by
  obtain ⟨cs, rfl, hsz⟩ := okWide_struct hs hv
  obtain ⟨fuel, hf⟩ := h
  refine ⟨cs, rfl, hsz.trans hC, fun j f hj => ?_⟩
  obtain ⟨ys, n', hn', hy, hlen, hyl, hff⟩ := DataW.trod_struct hs hf
  obtain ⟨ho, hk⟩ := hone_of hone j f hj
  have hjl : j < fs.size := (Array.getElem?_eq_some_iff.1 hj).1
  have h1 := hff j f hj
  rw [ho, hk] at h1
  have hcs : cs.toList.length = fs.size := by simpa using hsz.trans hC
  have e1 : (cs.toList.drop j).take 1 = [cs.toList.getD j undef] := by
    have hjc : j < cs.toList.length := by omega
    rw [List.drop_eq_getElem_cons hjc]
    show [cs.toList[j]] = _
    simp only [List.getD, List.getElem?_eq_getElem hjc, Option.getD_some]
  have h2 : DataW.trod enc P w base spare held n' f.type ((cs.toList.drop j).take 1) = ys[j]? := h1
  rw [e1] at h2
  have hys : ys[j]? = some (ys[j]'(by omega)) := List.getElem?_eq_getElem (by omega)
  exact ⟨_, _, h2.trans hys⟩
/-- One call, by its value. -/
theorem view_op {t b8 : TypeId} {f0 f1 f2 f3 f4 f5 : Field} (ht : P.underlying t = some (.struct #[f0, f1, f2, f3, f4, f5])) (hone : oneCellFields P #[f0, f1, f2, f3, f4, f5] = true) (hC : P.cellsOf t = 6)
    (h0 : P.underlying f0.type = some (.int .i64)) (h1 : P.underlying f1.type = some (.int .i64)) (h2 : P.underlying f2.type = some (.int .i64)) (h3 : P.underlying f3.type = some (.int .i64)) (h4 : P.underlying f4.type = some (.int .u64)) (h6 : P.underlying f5.type = some (.slice b8)) (h8 : P.underlying b8 = some (.int .u8)) (hC8 : P.cellsOf b8 = 1)
    (hv : Value.okWide P w r b0 t v) (h : DataW.Trod enc P w base (fun _ => true) held t v d p) :
    ∃ (g0 g1 g2 g3 g4 : Int) (A : Option Addr) (n c : Nat) (L : List UInt8), v = .agg #[.int .i64 g0, .int .i64 g1, .int .i64 g2, .int .i64 g3, .int .u64 g4, .slice A n c] ∧ Rd w A n L ∧ n ≤ c ∧ c ≤ maxLen := by
  obtain ⟨cs, rfl, hsz, hf⟩ := view_struct1 ht hone hC hv h
  have int : ∀ (j : Nat) (f : Field), #[f0, f1, f2, f3, f4, f5][j]? = some f → P.underlying f.type = some (.int .i64) → ∃ z : Int, cs.toList.getD j undef = .int .i64 z := by
    intro j f hj hu
    obtain ⟨y, m, hy⟩ := hf j f hj
    obtain ⟨z, e, _, wz⟩ := DataW.trod_int (k := .i64) hu hy
    simp only [List.cons.injEq, and_true] at e
    exact ⟨z, e⟩
  obtain ⟨g0, e0⟩ := int 0 f0 rfl h0
  obtain ⟨g1, e1⟩ := int 1 f1 rfl h1
  obtain ⟨g2, e2⟩ := int 2 f2 rfl h2
  obtain ⟨g3, e3⟩ := int 3 f3 rfl h3
  obtain ⟨y, m, hy⟩ := hf 4 f4 rfl
  obtain ⟨g4, e4, _⟩ := DataW.trod_int (k := .u64) h4 hy
  simp only [List.cons.injEq, and_true] at e4
  obtain ⟨y, m, hy⟩ := hf 5 f5 rfl
  obtain ⟨A, n, c, L, e5, hR, h7, h9⟩ := cell_bytes h6 h8 hC8 hy
  refine ⟨g0, g1, g2, g3, g4, A, n, c, L, ?_, hR, h7, h9⟩
  congr 1
  obtain ⟨l⟩ := cs
  simp only [List.size_toArray] at hsz
  simp only at e0 e1 e2 e3 e4 e5
  match l, hsz, e0, e1, e2, e3, e4, e5 with
  | [x0, x1, x2, x3, x4, x5], _, e0, e1, e2, e3, e4, e5 =>
    simp at e0 e1 e2 e3 e4 e5
    rw [e0, e1, e2, e3, e4, e5]
end
end Go.Proofs.Ytnocjjaebemkoaa
