/- A slice of whole numbers that came in. -/
import Derived.Test.YtidlcplamgajpaaSlices
import Derived.Test.YtidlcplamgajpaaViews
namespace Go.Proofs.Ytidlcplamgajpaa
open Go.ChangeShapes Go.WideShapes Go.RowKit Go.Joins Go.Deep

/-- Numbers of 64 bits, with a sign. -/
def i64E : Enc Int where
  sz := 1
  f x := [.int .i64 x]
  len _ := rfl
  pos := by decide
  one x u hu := by simp at hu; subst hu; rfl
theorem RdG.i64 {w : World} {A : Option Addr} {n k : Nat} {l : List Int} (h : RdG i64E w A n l) (hk : k < n) : ∃ b off x, A = some ⟨b, off, none⟩ ∧ b < w.heap.size ∧ l[k]? = some x ∧ w.cell? ⟨b, off + k, none⟩ = some (.int .i64 x) := by
  obtain ⟨b, off, x, hA, hb, hx, hc⟩ := h.at_ hk
  have h0 : w.cell? ⟨b, off + k * 1 + 0, none⟩ = some (.int .i64 x) := hc 0 _ rfl
  rw [Nat.mul_one, Nat.add_zero] at h0
  exact ⟨b, off, x, hA, hb, hx, h0⟩
section
variable {H : Type} {enc : TypeId × Value → H} {P : Program} {w : World} {base : Nat} {held : Bool} {r : Reach} {b0 : Nat} {v : Value} {d : DataW H} {p : List MemPlace}
theorem view_i64s {t e : TypeId} (ht : P.underlying t = some (.slice e)) (he : P.underlying e = some (.int .i64)) (hC : P.cellsOf e = 1) (hv : Value.okWide P w r b0 t v) (h : DataW.Trod enc P w base (fun _ => true) held t v d p) :
    ∃ (A : Option Addr) (n c : Nat) (l : List Int), v = .slice A n c ∧ RdG i64E w A n l ∧ n ≤ c ∧ c ≤ maxLen ∧ ∀ v ∈ l, -9223372036854775808 ≤ v ∧ v ≤ 9223372036854775807 := by
  obtain ⟨A, n, c, rfl⟩ := okWide_slice ht hv
  obtain ⟨fuel, hf⟩ := h
  rcases open_ints ht he hC hf with ⟨hcs, _⟩ | ⟨x, l, cc, zs, hcs, _, hl, hm, hz, _, hcell, hwz⟩
  · simp [Value.cells] at hcs
    obtain ⟨rfl, rfl, rfl⟩ := hcs
    exact ⟨none, 0, 0, [], rfl, RdG.nil, Nat.le_refl _, by unfold maxLen; omega, by simp⟩
  · simp [Value.cells] at hcs
    obtain ⟨rfl, rfl, rfl⟩ := hcs
    have hzl : zs.length = c := by simpa using hz
    refine ⟨some x, n, c, zs.take n, rfl, ⟨by simp; omega, fun hn => ?_⟩, hl, hm, ?_⟩
    · obtain ⟨b, off, spot⟩ := x
      have h0 := hcell 0 (by omega)
      have hspot : spot = none := by simpa [Addr.add] using World.cell?_spot h0
      subst hspot
      refine ⟨b, off, rfl, ?_, fun k a hk j u hu => ?_⟩
      · have := World.block_lt_of_cell? w _ h0
        simpa [Addr.add] using this
      · rw [List.getElem?_take] at hk
        split at hk
        · have hjl : k < zs.length := (List.getElem?_eq_some_iff.1 hk).1
          have hcj := hcell k hjl
          have h2 : (⟨b, off, none⟩ : Addr).add k = ⟨b, off + k, none⟩ := by unfold Addr.add; split <;> simp_all
          rw [h2] at hcj
          have hzz : zs.getD k 0 = a := by simp [List.getD, hk]
          have hj : j = 0 := by have := (List.getElem?_eq_some_iff.1 hu).1; simp [i64E] at this; exact this
          subst hj
          simp [i64E] at hu
          subst hu
          show w.cell? ⟨b, off + k * 1 + 0, none⟩ = _
          rw [Nat.mul_one, Nat.add_zero, hcj, hzz]
        · cases hk
    · intro q hq
      have hw := hwz q (List.mem_of_mem_take hq)
      simp [Lit.wf, IntKind.min, IntKind.max, IntKind.signed, IntKind.bits] at hw
      exact ⟨by omega, by omega⟩
end
end Go.Proofs.Ytidlcplamgajpaa
