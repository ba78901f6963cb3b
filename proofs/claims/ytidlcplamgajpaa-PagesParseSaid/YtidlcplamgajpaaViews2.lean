/- What an argument that is a slice of structs tells: each cell of each element, and each field's own reading. -/
import Derived.Test.YtidlcplamgajpaaViews
import Derived.Test.YtidlcplamgajpaaSlices
import Derived.Deep.Slices
import Derived.Deep.Fields
import Derived.ChangeSame
namespace Go.Proofs.Ytidlcplamgajpaa
open Go.ChangeShapes Go.WideShapes Go.RowKit Go.Joins Go.Deep

theorem addr_plus (b off k : Nat) : (⟨b, off, none⟩ : Addr).add k = ⟨b, off + k, none⟩ := by unfold Addr.add; split <;> simp_all

theorem getD_of (l : List Value) (j : Nat) (h : j < l.length) : l[j]? = some (l.getD j undef) := by simp [List.getD, List.getElem?_eq_getElem h]

section
variable {H : Type} {enc : TypeId × Value → H} {P : Program} {w : World} {base : Nat} {spare : Nat → Bool} {held : Bool} {r : Reach} {b0 : Nat} {v : Value} {d : DataW H} {p : List MemPlace}
/-- A slice of structs whose fields take one cell each: el i j is field j of element i. -/
theorem view_structs {t e : TypeId} {fs : Array Field} (ht : P.underlying t = some (.slice e)) (he : P.underlying e = some (.struct fs)) (hone : oneCellFields P fs = true) (hC : P.cellsOf e = fs.size) (hpos : 0 < fs.size)
    (hv : Value.okWide P w r b0 t v) (h : DataW.Trod enc P w base (fun _ => true) held t v d p) :
    ∃ (A : Option Addr) (n c : Nat) (el : Nat → Nat → Value), v = .slice A n c ∧ n ≤ c ∧ c ≤ maxLen ∧
      (0 < n → ∃ b off, A = some ⟨b, off, none⟩ ∧ b < w.heap.size ∧ ∀ i, i < n → ∀ j, j < fs.size → w.cell? ⟨b, off + i * fs.size + j, none⟩ = some (el i j)) ∧
      ∀ i, i < n → ∀ (j : Nat) (f : Field), fs[j]? = some f → ∃ (y : DataW H × List MemPlace) (m : Nat), DataW.trod enc P w base (fun _ => true) held m f.type [el i j] = some y := by
  obtain ⟨A, n, c, rfl⟩ := okWide_slice ht hv
  obtain ⟨fuel, hf⟩ := h
  rcases open_slice ht hf with ⟨hcs, _⟩ | ⟨a, len, cap, m, k, D, Pl, hcs, _, hl, hm, hmm, _, hi⟩
  · simp [Value.cells] at hcs
    obtain ⟨rfl, rfl, rfl⟩ := hcs
    exact ⟨none, 0, 0, fun _ _ => undef, rfl, Nat.le_refl _, by unfold maxLen; omega, fun h => absurd h (by omega), fun i hi => absurd hi (by omega)⟩
  · simp [Value.cells] at hcs
    obtain ⟨rfl, rfl, rfl⟩ := hcs
    rw [if_pos rfl] at hmm
    obtain rfl : m = c := by simpa using hmm
    have hcell : ∀ i, i < n → ∃ cs' : List Value, cs'.length = fs.size ∧ (∀ j, j < fs.size → w.cell? (a.add (i * fs.size + j)) = cs'[j]?) ∧ ∀ (j : Nat) (f : Field), fs[j]? = some f → ∃ (y : DataW H × List MemPlace) (m : Nat), DataW.trod enc P w base (fun _ => true) held m f.type [cs'.getD j undef] = some y := by
      intro i hin
      obtain ⟨cs', hcc, htr⟩ := hi i (by omega)
      rw [hC] at hcc
      obtain ⟨ys, n', hn', hy, hlen, hyl, hff⟩ := DataW.trod_struct he htr
      obtain ⟨_, hcl, hat⟩ := World.cells?_some hcc
      refine ⟨cs', by omega, fun j hj => ?_, fun j f hj => ?_⟩
      · rw [← Go.Deep.add_add]; exact hat j hj
      · obtain ⟨ho, hk⟩ := hone_of hone j f hj
        have hjl : j < fs.size := (Array.getElem?_eq_some_iff.1 hj).1
        have h1 := hff j f hj
        rw [ho, hk] at h1
        have e1 : (cs'.drop j).take 1 = [cs'.getD j undef] := by
          have hjc : j < cs'.length := by omega
          rw [List.drop_eq_getElem_cons hjc]
          show [cs'[j]] = _
          simp [List.getD, List.getElem?_eq_getElem hjc]
        rw [e1] at h1
        have hys : ys[j]? = some (ys[j]'(by omega)) := List.getElem?_eq_getElem (by omega)
        exact ⟨_, _, h1.trans hys⟩
    refine ⟨some a, n, m, fun i j => if hin : i < n then ((hcell i hin).choose).getD j undef else undef, rfl, hl, hm, fun hn => ?_, fun i hin j f hj => ?_⟩
    · obtain ⟨b, off, spot⟩ := a
      have hj0 : 0 < fs.size := hpos
      obtain ⟨g1, g2, _⟩ := (hcell 0 hn).choose_spec
      have h0 := g2 0 hj0
      rw [List.getElem?_eq_getElem (by omega)] at h0
      have hspot : spot = none := by simpa [Addr.add] using World.cell?_spot h0
      subst hspot
      refine ⟨b, off, rfl, ?_, fun i hin j hj => ?_⟩
      · have := World.block_lt_of_cell? w _ h0
        simpa [Addr.add] using this
      · obtain ⟨g1, g2, _⟩ := (hcell i hin).choose_spec
        have hij := g2 j hj
        have e2 : (⟨b, off, none⟩ : Addr).add (i * fs.size + j) = ⟨b, off + i * fs.size + j, none⟩ := by rw [addr_plus, Nat.add_assoc]
        rw [e2] at hij
        rw [hij]
        simp only [dif_pos hin]
        exact getD_of _ _ (by omega)
    · simp only [dif_pos hin]
      exact (hcell i hin).choose_spec.2.2 j f hj
/-- A slice of structs, as the elements of an encoding. -/
theorem view_elems {α : Type} {E : Enc α} {A : Option Addr} {n : Nat} {k : Nat} {el : Nat → Nat → Value} {F : Nat → α} (hk : E.sz = k)
    (hc : 0 < n → ∃ b off, A = some ⟨b, off, none⟩ ∧ b < w.heap.size ∧ ∀ i, i < n → ∀ j, j < k → w.cell? ⟨b, off + i * k + j, none⟩ = some (el i j))
    (hF : ∀ i, i < n → ∀ j, j < k → (E.f (F i))[j]? = some (el i j)) : RdG E w A n ((List.range n).map F) := by
  subst hk
  refine ⟨by simp, fun hn => ?_⟩
  obtain ⟨b, off, hA, hlt, hcell⟩ := hc hn
  refine ⟨b, off, hA, hlt, fun i a hi j u hu => ?_⟩
  have hin : i < n := by have := (List.getElem?_eq_some_iff.1 hi).1; simpa using this
  have ha : a = F i := by simp [hin] at hi; exact hi.symm
  subst ha
  have hj : j < E.sz := by have := (List.getElem?_eq_some_iff.1 hu).1; rw [E.len] at this; exact this
  rw [hcell i hin j hj, ← hF i hin j hj]
  exact hu
end
end Go.Proofs.Ytidlcplamgajpaa
