/- What an argument that is a log tells. -/
import Derived.Test.YthepgnankelmeaaLog2
import Derived.Test.YthepgnankelmeaaViews
import Derived.Test.YthepgnankelmeaaViews2
namespace Go.Proofs.Ythepgnankelmeaa
open Go.ChangeShapes Go.WideShapes Go.RowKit Go.Joins Go.Deep

section
variable {H : Type} {enc : TypeId × Value → H} {P : Program} {w : World} {base : Nat} {spare : Nat → Bool} {held : Bool} {r : Reach} {b0 : Nat} {v : Value} {d : DataW H} {p : List MemPlace}
/-- A slice of bytes, by its one cell. -/
theorem cell_bytes {t e : TypeId} {x : Value} {y : DataW H × List MemPlace} {m : Nat} (ht : P.underlying t = some (.slice e)) (he : P.underlying e = some (.int .u8)) (hC : P.cellsOf e = 1) (hf : DataW.trod enc P w base (fun _ => true) held m t [x] = some y) :
    ∃ (A : Option Addr) (n c : Nat) (l : List UInt8), x = .slice A n c ∧ Rd w A n l ∧ n ≤ c ∧ c ≤ maxLen := by
  rcases open_ints ht he hC hf with ⟨hcs, _⟩ | ⟨a, l, cc, zs, hcs, _, hl, hm, hz, _, hcell, hwz⟩
  · simp at hcs
    subst hcs
    exact ⟨none, 0, 0, [], rfl, Rd.nil, Nat.le_refl _, by unfold maxLen; omega⟩
  · simp at hcs
    subst hcs
    have hzl : zs.length = cc := by simpa using hz
    refine ⟨some a, l, cc, (zs.take l).map fun z => UInt8.ofNat z.toNat, rfl, ⟨by simp; omega, fun hn => ?_⟩, hl, hm⟩
    obtain ⟨b, off, spot⟩ := a
    have h0 := hcell 0 (by omega)
    have hspot : spot = none := by simpa [Addr.add] using World.cell?_spot h0
    subst hspot
    refine ⟨b, off, rfl, ?_, fun j u hj => ?_⟩
    · have := World.block_lt_of_cell? w _ h0
      simpa [Addr.add] using this
    · rw [List.getElem?_map] at hj
      obtain ⟨z, hzj, rfl⟩ := Option.map_eq_some_iff.1 hj
      rw [List.getElem?_take] at hzj
      split at hzj
      · have hjl : j < zs.length := (List.getElem?_eq_some_iff.1 hzj).1
        have hcj := hcell j hjl
        have h2 : (⟨b, off, none⟩ : Addr).add j = ⟨b, off + j, none⟩ := by unfold Addr.add; split <;> simp_all
        rw [h2] at hcj
        have hzz : zs.getD j 0 = z := by simp [List.getD, hzj]
        rw [hcj, hzz]
        have hw := hwz z (List.mem_of_getElem? hzj)
        simp [Lit.wf, IntKind.min, IntKind.max, IntKind.signed, IntKind.bits] at hw
        unfold bv
        congr 2
        rw [UInt8.toNat_ofNat']
        omega
      · cases hzj
/-- A slice of structs whose fields take one cell each, by its one cell. -/
theorem cell_structs {t e : TypeId} {fs : Array Field} {x : Value} {yy : DataW H × List MemPlace} {m : Nat} (ht : P.underlying t = some (.slice e)) (he : P.underlying e = some (.struct fs)) (hone : oneCellFields P fs = true) (hC : P.cellsOf e = fs.size) (hpos : 0 < fs.size)
    (hf : DataW.trod enc P w base (fun _ => true) held m t [x] = some yy) :
    ∃ (A : Option Addr) (n c : Nat) (el : Nat → Nat → Value), x = .slice A n c ∧ n ≤ c ∧ c ≤ maxLen ∧
      (0 < n → ∃ b off, A = some ⟨b, off, none⟩ ∧ b < w.heap.size ∧ ∀ i, i < n → ∀ j, j < fs.size → w.cell? ⟨b, off + i * fs.size + j, none⟩ = some (el i j)) ∧
      ∀ i, i < n → ∀ (j : Nat) (f : Field), fs[j]? = some f → ∃ (y : DataW H × List MemPlace) (m : Nat), DataW.trod enc P w base (fun _ => true) held m f.type [el i j] = some y := by
  obtain ⟨y1, y2⟩ := yy
  rcases open_slice ht hf with ⟨hcs, _⟩ | ⟨a, len, cap, m, k, D, Pl, hcs, _, hl, hm, hmm, _, hi⟩
  · simp at hcs
    subst hcs
    exact ⟨none, 0, 0, fun _ _ => undef, rfl, Nat.le_refl _, by unfold maxLen; omega, fun h => absurd h (by omega), fun i hi => absurd hi (by omega)⟩
  · simp at hcs
    subst hcs
    rw [if_pos rfl] at hmm
    obtain rfl : m = cap := by simpa using hmm
    have hcell : ∀ i, i < len → ∃ cs' : List Value, cs'.length = fs.size ∧ (∀ j, j < fs.size → w.cell? (a.add (i * fs.size + j)) = cs'[j]?) ∧ ∀ (j : Nat) (f : Field), fs[j]? = some f → ∃ (y : DataW H × List MemPlace) (m : Nat), DataW.trod enc P w base (fun _ => true) held m f.type [cs'.getD j undef] = some y := by
      intro i hin
      obtain ⟨cs', hcc, htr⟩ := hi i (by omega)
      rw [hC] at hcc
      obtain ⟨ys, n', hn', hy, hlen, hyl, hff⟩ := DataW.trod_struct he htr
      obtain ⟨_, hcl, hat⟩ := World.cells?_some hcc
      refine ⟨cs', by omega, fun j hj => ?_, fun j f hj => ?_⟩
      · rw [← Go.Deep.add_add]; exact hat j hj
      · obtain ⟨ho, hk⟩ := hone_of hone j f hj
        have hjl : j < fs.size := (Array.getElem?_eq_some_iff.1 hj).1
        have h1 := hff j f hj
        rw [ho, hk] at h1
        have e1 : (cs'.drop j).take 1 = [cs'.getD j undef] := by
          have hjc : j < cs'.length := by omega
          rw [List.drop_eq_getElem_cons hjc]
          show [cs'[j]] = _
          simp [List.getD, List.getElem?_eq_getElem hjc]
        rw [e1] at h1
        have hys : ys[j]? = some (ys[j]'(by omega)) := List.getElem?_eq_getElem (by omega)
        exact ⟨_, _, h1.trans hys⟩
    refine ⟨some a, len, m, fun i j => if hin : i < len then ((hcell i hin).choose).getD j undef else undef, rfl, hl, hm, fun hn => ?_, fun i hin j f hj => ?_⟩
    · obtain ⟨b, off, spot⟩ := a
      have hj0 : 0 < fs.size := hpos
      obtain ⟨g1, g2, _⟩ := (hcell 0 hn).choose_spec
      have h0 := g2 0 hj0
      rw [List.getElem?_eq_getElem (by omega)] at h0
      have hspot : spot = none := by simpa [Addr.add] using World.cell?_spot h0
      subst hspot
      refine ⟨b, off, rfl, ?_, fun i hin j hj => ?_⟩
      · have := World.block_lt_of_cell? w _ h0
        simpa [Addr.add] using this
      · obtain ⟨g1, g2, _⟩ := (hcell i hin).choose_spec
        have hij := g2 j hj
        have e2 : (⟨b, off, none⟩ : Addr).add (i * fs.size + j) = ⟨b, off + i * fs.size + j, none⟩ := by rw [addr_plus, Nat.add_assoc]
        rw [e2] at hij
        rw [hij]
        simp only [dif_pos hin]
        exact getD_of _ _ (by omega)
    · simp only [dif_pos hin]
      exact (hcell i hin).choose_spec.2.2 j f hj
def slOf : Value → Option Addr × Nat × Nat | .slice A n c => (A, n, c) | _ => (none, 0, 0)
/-- A slice of entries. -/
theorem cell_ents {t e b8 : TypeId} {f0 f1 : Field} {x : Value} {yy : DataW H × List MemPlace} {m : Nat} (T : TypeId) (ht : P.underlying t = some (.slice e)) (he : P.underlying e = some (.struct #[f0, f1])) (hone : oneCellFields P #[f0, f1] = true) (hC : P.cellsOf e = 2)
    (h0 : P.underlying f0.type = some (.int .i64)) (h1 : P.underlying f1.type = some (.slice b8)) (h8 : P.underlying b8 = some (.int .u8)) (hC8 : P.cellsOf b8 = 1)
    (hf : DataW.trod enc P w base (fun _ => true) held m t [x] = some yy) :
    ∃ (A : Option Addr) (n c : Nat) (es : List Ent), x = .slice A n c ∧ RdR entK w.heap.size T w A n es ∧ n ≤ c ∧ c ≤ maxLen := by
  obtain ⟨A, n, c, el, rfl, hnc, hcm, hcell, hff⟩ := cell_structs ht he hone hC (by show 0 < 2; omega) hf
  have each : ∀ i, i < n → ∃ (K : Int) (Ad : Option Addr) (nd cd : Nat) (L : List UInt8), el i 0 = .int .i64 K ∧ el i 1 = .slice Ad nd cd ∧ Rd w Ad nd L ∧ nd ≤ cd ∧ cd ≤ maxLen := by
    intro i hi
    obtain ⟨y, m, hy⟩ := hff i hi 0 f0 rfl
    obtain ⟨z, e, _, _⟩ := DataW.trod_int (k := .i64) h0 hy
    simp only [List.cons.injEq, and_true] at e
    obtain ⟨y, m, hy⟩ := hff i hi 1 f1 rfl
    obtain ⟨Ad, nd, cd, L, e2, hR, h3, h4⟩ := cell_bytes h1 h8 hC8 hy
    exact ⟨z, Ad, nd, cd, L, e, e2, hR, h3, h4⟩
  have each2 : ∀ i, ∃ L : List UInt8, i < n → Rd w (slOf (el i 1)).1 (slOf (el i 1)).2.1 L ∧ (slOf (el i 1)).2.1 ≤ (slOf (el i 1)).2.2 ∧ (slOf (el i 1)).2.2 ≤ maxLen := by
    intro i
    by_cases hi : i < n
    · obtain ⟨K, Ad, nd, cd, L, e1, e2, hR, h3, h4⟩ := each i hi
      exact ⟨L, fun _ => by rw [e2]; exact ⟨hR, h3, h4⟩⟩
    · exact ⟨[], fun h => absurd h hi⟩
  refine ⟨A, n, c, (List.range n).map fun i => (intOf (el i 0), (each2 i).choose), rfl, ⟨(List.range n).map fun i => (intOf (el i 0), slOf (el i 1)), view_elems (k := 2) rfl hcell ?_, by simp, ?_⟩, hnc, hcm⟩
  · intro i hi j hj
    obtain ⟨K, Ad, nd, cd, L, e1, e2, _⟩ := each i hi
    rcases (show j = 0 ∨ j = 1 by omega) with rfl | rfl
    · rw [e1]; rfl
    · rw [e2]; rfl
  · intro i h e hh he
    have hin : i < n := by have := (List.getElem?_eq_some_iff.1 hh).1; simpa using this
    rw [List.getElem?_map, List.getElem?_range hin] at hh he
    simp only [Option.map_some, Option.some.injEq] at hh he
    obtain ⟨g1, g2, g3⟩ := (each2 i).choose_spec hin
    rw [← hh, ← he]
    have g4 : RdX w.heap.size T w (slOf (el i 1)).1 (slOf (el i 1)).2.1 (each2 i).choose := RdX.old g1 (Nat.le_refl _)
    exact ⟨rfl, g4, g2, g3⟩
theorem view_struct1 {t : TypeId} {fs : Array Field} (hs : P.underlying t = some (.struct fs)) (hone : oneCellFields P fs = true) (hC : P.cellsOf t = fs.size) (hv : Value.okWide P w r b0 t v) (h : DataW.Trod enc P w base spare held t v d p) :
    ∃ cs : Array Value, v = .agg cs ∧ cs.size = fs.size ∧ ∀ (j : Nat) (f : Field), fs[j]? = some f → ∃ (y : DataW H × List MemPlace) (m : Nat), DataW.trod enc P w base spare held m f.type [cs.toList.getD j undef] = some y := by
  obtain ⟨cs, rfl, hsz⟩ := okWide_struct hs hv
  obtain ⟨fuel, hf⟩ := h
  refine ⟨cs, rfl, hsz.trans hC, fun j f hj => ?_⟩
  obtain ⟨ys, n', hn', hy, hlen, hyl, hff⟩ := DataW.trod_struct hs hf
  obtain ⟨ho, hk⟩ := hone_of hone j f hj
  have hjl : j < fs.size := (Array.getElem?_eq_some_iff.1 hj).1
  have h1 := hff j f hj
  rw [ho, hk] at h1
  have hcs : cs.toList.length = fs.size := by simpa using hsz.trans hC
  have e1 : (cs.toList.drop j).take 1 = [cs.toList.getD j undef] := by
    have hjc : j < cs.toList.length := by omega
    rw [List.drop_eq_getElem_cons hjc]
    show [cs.toList[j]] = _
    simp only [List.getD, List.getElem?_eq_getElem hjc, Option.getD_some]
  have h2 : DataW.trod enc P w base spare held n' f.type ((cs.toList.drop j).take 1) = ys[j]? := h1
  rw [e1] at h2
  have hys : ys[j]? = some (ys[j]'(by omega)) := List.getElem?_eq_getElem (by omega)
  exact ⟨_, _, h2.trans hys⟩
/-- A log. -/
theorem view_log {t0 e b8 : TypeId} {g0 g1 f0 f1 : Field} (T : TypeId) (hs : P.underlying t0 = some (.struct #[g0, g1])) (hone0 : oneCellFields P #[g0, g1] = true) (hC0 : P.cellsOf t0 = 2) (hg0 : P.underlying g0.type = some (.int .u64)) (ht : P.underlying g1.type = some (.slice e)) (he : P.underlying e = some (.struct #[f0, f1])) (hone : oneCellFields P #[f0, f1] = true) (hC : P.cellsOf e = 2)
    (h0 : P.underlying f0.type = some (.int .i64)) (h1 : P.underlying f1.type = some (.slice b8)) (h8 : P.underlying b8 = some (.int .u8)) (hC8 : P.cellsOf b8 = 1)
    (hv : Value.okWide P w r b0 t0 v) (h : DataW.Trod enc P w base (fun _ => true) held t0 v d p) :
    ∃ (x : Int) (A : Option Addr) (n c : Nat) (es : List Ent), v = .agg #[.int .u64 x, .slice A n c] ∧ RdR entK w.heap.size T w A n es ∧ 0 ≤ x ∧ x ≤ 18446744073709551615 ∧ n ≤ c ∧ c ≤ maxLen := by
  obtain ⟨cs, rfl, hsz, hf⟩ := view_struct1 hs hone0 hC0 hv h
  obtain ⟨y, m, hy⟩ := hf 0 g0 rfl
  obtain ⟨z, e0, _, wz⟩ := DataW.trod_int (k := .u64) hg0 hy
  simp only [List.cons.injEq, and_true] at e0
  have w0 : 0 ≤ z ∧ z ≤ 18446744073709551615 := by simpa [Lit.wf, IntKind.min, IntKind.max, IntKind.signed, IntKind.bits] using wz
  obtain ⟨y, m, hy⟩ := hf 1 g1 rfl
  obtain ⟨A, n, c, es, e1, hR, h3, h4⟩ := cell_ents T ht he hone hC h0 h1 h8 hC8 hy
  refine ⟨z, A, n, c, es, ?_, hR, w0.1, w0.2, h3, h4⟩
  congr 1
  obtain ⟨l⟩ := cs
  simp only [List.size_toArray] at hsz
  simp only at e0 e1
  match l, hsz, e0, e1 with
  | [x0, x1], _, e0, e1 =>
    simp at e0 e1
    rw [e0, e1]
end
end Go.Proofs.Ythepgnankelmeaa
