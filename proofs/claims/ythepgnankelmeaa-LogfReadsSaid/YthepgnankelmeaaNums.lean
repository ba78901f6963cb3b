/- Rows of whole numbers and of one-cell elements; what stays behind changes of named blocks. No program in sight. -/
import Derived.Test.YthepgnankelmeaaSlices
import Derived.Test.YthepgnankelmeaaKept
namespace Go.Proofs.Ythepgnankelmeaa
open Go.RowKit

/-- Numbers of 64 bits. -/
def u64E : Enc Nat where
  sz := 1
  f x := [.int .u64 (x : Int)]
  len _ := rfl
  pos := by decide
  one x u hu := by simp at hu; subst hu; rfl
section
variable {α : Type} {E : Enc α} {T : TypeId} {B : Nat} {w w' : World} {l : List α} {A : Option Addr} {n c : Nat} {v : Value} {gs : List Nat}
theorem RdG.kept (h : RdG E w A n l) (hk : Kept gs w w') (hA : ∀ ad, A = some ad → ad.block ∉ gs) : RdG E w' A n l := by
  refine ⟨h.1, fun hn => ?_⟩
  obtain ⟨b, off, e, hlt, hc⟩ := h.2 hn
  have hb := hA _ e
  refine ⟨b, off, e, Nat.lt_of_lt_of_le hlt hk.size, fun k a ha j u hu => ?_⟩
  rw [← hc k a ha j u hu]
  simp [World.cell?, hk.block b hlt hb]
theorem FreshG.kept (h : FreshG E T B w v l) (hk : Kept gs w w') (hs : ∀ x ∈ gs, x < B) : FreshG E T B w' v l := by
  have hlt := h.block
  obtain ⟨A, c, rfl, hown⟩ := h
  refine ⟨A, c, rfl, hown.1, ?_⟩
  rcases hown.2 with h0 | ⟨g, cap, cur, hv, hg, hh, hr⟩
  · exact .inl h0
  · have := (hlt g (by rw [hv]; rfl)).2
    exact .inr ⟨g, cap, cur, hv, hg, (hk.block g this (fun hx => by have := hs g hx; omega)).trans hh, hr⟩
/-- The block of a row that is not empty. -/
theorem FreshG.open_ (h : FreshG E T B w (.slice A n c) l) (hn : l.length = n) (hpos : 0 < n) : ∃ g cur, A = some ⟨g, 0, none⟩ ∧ B ≤ g ∧ Blk w g T cur ∧ n * E.sz ≤ cur.size ∧ cur.toList.take (n * E.sz) = l.flatMap E.f ∧ n ≤ c := by
  obtain ⟨A', c', hv, hown⟩ := h
  injection hv with h1 h2 h3
  subst h1 h3
  rcases hown.2 with ⟨h0, _⟩ | ⟨g, cap, cur, hv, hg, hh, hnc, hcm, hsz, hx⟩
  · injection h0 with _ h0 _; omega
  · injection hv with h1 _ h3
    subst h3
    refine ⟨g, cur, h1, hg, hh, ?_, ?_, by omega⟩
    · rw [hsz, ← hn]; exact Nat.mul_le_mul_right _ hnc
    · rw [← hn]; exact hx
theorem FreshG.cells (h : FreshG E T B w (.slice A n c) l) (hn : l.length = n) {g : Nat} {cur : Array Value} (hA : A = some ⟨g, 0, none⟩) (hB : Blk w g T cur) {k j : Nat} {a : α} {u : Value} (hk : l[k]? = some a) (hu : (E.f a)[j]? = some u) : cur[k * E.sz + j]? = some u := by
  have hkl := (List.getElem?_eq_some_iff.1 hk).1
  obtain ⟨g', cur', hA', _, hB', _, hx, _⟩ := h.open_ hn (by omega)
  rw [hA] at hA'
  injection hA' with hA'
  injection hA' with hA'
  subst hA'
  have e : cur = cur' := by unfold Blk at hB hB'; rw [hB] at hB'; injection hB' with hB'; injection hB'
  subst e
  have h1 := flat_get E l k j a u hk hu
  have hlt : k * E.sz + j < (l.flatMap E.f).length := (List.getElem?_eq_some_iff.1 h1).1
  rw [← hx, List.getElem?_take] at h1
  split at h1
  · rw [← Array.getElem?_toList]; exact h1
  · cases h1
/-- The row behind a change of its block: some cells were stored, so that it reads l'. -/
theorem FreshG.turn (h : FreshG E T B w (.slice A n c) l) (hn : l.length = n) (hpos : 0 < n) {g : Nat} {cur : Array Value} (hA : A = some ⟨g, 0, none⟩) (hB : Blk w g T cur) {cur' : Array Value} (hB' : Blk w' g T cur') (hs : cur'.size = cur.size) {l' : List α} (hl' : l'.length = n)
    (hc : ∀ (k j : Nat) (a : α) (u : Value), l'[k]? = some a → (E.f a)[j]? = some u → cur'[k * E.sz + j]? = some u) : FreshG E T B w' (.slice A n c) l' := by
  obtain ⟨A', c', hv, hown⟩ := h
  injection hv with h1 h2 h3
  subst h1 h3
  rcases hown.2 with ⟨h0, _⟩ | ⟨g', cap, cur0, hv, hg, hh, hnc, hcm, hsz, hx⟩
  · injection h0 with _ h0 _; omega
  · injection hv with h1 _ h3
    subst h3
    rw [hA] at h1
    injection h1 with h1
    injection h1 with h1
    subst h1
    have e : cur = cur0 := by unfold Blk at hB; rw [hB] at hh; injection hh with hh; injection hh
    subst e
    refine ⟨A, c, by rw [hl'], ⟨by rw [flat_len, hl'], .inr ⟨g, c, cur', by rw [hl', hA], hg, hB', by omega, hcm, by rw [hs, hsz], ?_⟩⟩⟩
    apply List.ext_getElem?
    intro i
    rw [List.getElem?_take]
    by_cases hi : i < l'.length * E.sz
    · rw [if_pos hi]
      have hi2 : i < (l'.flatMap E.f).length := by rw [flat_len]; exact hi
      obtain ⟨u, hu⟩ : ∃ u, (l'.flatMap E.f)[i]? = some u := ⟨_, List.getElem?_eq_getElem hi2⟩
      obtain ⟨k, j, a, e1, hk, hj⟩ := flat_at E l' i u hu
      rw [hu, Array.getElem?_toList, e1]
      exact hc k j a _ hk hj
    · rw [if_neg hi, List.getElem?_eq_none (by rw [flat_len]; omega)]
/-- One element of one cell is stored. -/
theorem FreshG.setOne (h : FreshG E T B w (.slice A n c) l) (hn : l.length = n) (h1 : E.sz = 1) {g : Nat} {cur : Array Value} (hA : A = some ⟨g, 0, none⟩) (hB : Blk w g T cur) (k : Nat) (hk : k < n) (a : α) (x : Value) (hx : E.f a = [x]) :
    FreshG E T B (w.setCell ⟨g, k, none⟩ x) (.slice A n c) (l.set k a) := by
  have hsz : n ≤ cur.size := by
    obtain ⟨g', cur', hA', _, hB', hs, _⟩ := h.open_ hn (by omega)
    rw [hA] at hA'
    injection hA' with hA'
    injection hA' with hA'
    subst hA'
    have e : cur = cur' := by unfold Blk at hB hB'; rw [hB] at hB'; injection hB' with hB'; injection hB'
    subst e
    rw [h1] at hs
    omega
  refine h.turn hn (by omega) hA hB (hB.set_ _ _) (by simp) (by simpa using hn) fun q j y u hq hu => ?_
  have hj : j < 1 := by have := (List.getElem?_eq_some_iff.1 hu).1; rw [E.len, h1] at this; exact this
  obtain rfl : j = 0 := by omega
  rw [h1]
  show (cur.setIfInBounds k x)[q * 1 + 0]? = some u
  rw [Array.getElem?_setIfInBounds]
  rw [List.getElem?_set] at hq
  by_cases hqk : k = q
  · subst hqk
    rw [if_pos rfl, if_pos (by omega)] at hq
    injection hq with hq
    subst hq
    rw [if_pos (by omega), if_pos (by omega)]
    rw [hx] at hu
    exact hu
  · rw [if_neg hqk] at hq
    rw [if_neg (by omega)]
    have := h.cells hn hA hB hq hu
    rw [h1] at this
    exact this
/-- A cell of a row of one-cell elements. -/
theorem FreshG.oneCell (h : FreshG E T B w (.slice A n c) l) (hn : l.length = n) (h1 : E.sz = 1) {g : Nat} {cur : Array Value} (hA : A = some ⟨g, 0, none⟩) (_hB : Blk w g T cur) (k : Nat) (hk : k < n) : ∃ u, w.cell? ⟨g, k, none⟩ = some u := by
  obtain ⟨g', cur', hA', _, hB', hs, _⟩ := h.open_ hn (by omega)
  rw [hA] at hA'
  injection hA' with hA'
  injection hA' with hA'
  subst hA'
  rw [h1] at hs
  exact ⟨_, (hB'.cell k).trans (Array.getElem?_eq_getElem (by omega))⟩
end
/-- Numbers under way: the first k are laid, the rest are noughts. -/
def partN (l : List Nat) (k : Nat) : List Nat := l.take k ++ List.replicate (l.length - k) 0
theorem partN_len (l : List Nat) (k : Nat) (h : k ≤ l.length) : (partN l k).length = l.length := by simp [partN]; omega
theorem partN_done (l : List Nat) : partN l l.length = l := by simp [partN]
theorem partN_set {l : List Nat} {k x : Nat} (h : l[k]? = some x) : (partN l k).set k x = partN l (k + 1) := by
  have hk : k < l.length := (List.getElem?_eq_some_iff.1 h).1
  unfold partN
  apply List.ext_getElem?
  intro i
  rw [List.getElem?_set]
  simp only [List.length_append, List.length_take, List.length_replicate]
  by_cases hi : k = i
  · subst hi
    rw [if_pos rfl, if_pos (by omega), List.getElem?_append_left (by simp; omega), List.getElem?_take, if_pos (by omega), h]
  · rw [if_neg hi]
    rcases Nat.lt_or_ge i k with hlt | hge
    · rw [List.getElem?_append_left (by simp; omega), List.getElem?_append_left (by simp; omega), List.getElem?_take, List.getElem?_take, if_pos hlt, if_pos (by omega)]
    · rw [List.getElem?_append_right (by simp; omega), List.getElem?_append_right (by simp; omega), List.getElem?_replicate, List.getElem?_replicate]
      simp only [List.length_take]
      by_cases h2 : i < l.length
      · rw [if_pos (by omega), if_pos (by omega)]
      · rw [if_neg (by omega), if_neg (by omega)]
/-- make([]uint64, n): noughts. -/
theorem make_u64 {P : Program} {t e : TypeId} (ht : P.underlying t = some (.slice e)) (hi : (P.info? e).map (fun i => (i.zero, i.size, i.bytes)) = some (some (.int .u64 0), 1, 8)) (kl kc : IntKind) (n : Nat) (hn : n ≤ 1000000) (w : World) :
    (Instr.makeSlice t (.int kl (n : Int)) (.int kc (n : Int))).run P w = .ok (.slice (some ⟨w.heap.size, 0, none⟩) n n) (w.alloc (.cells (madeCells #[.int .u64 0] n) e)) := by
  obtain ⟨i, h1, h2, h3, h4⟩ := info_parts hi
  have hb : (i.bytes : Int) * (n : Int) ≤ 281474976710656 := by rw [h4]; omega
  have hr := run_make (P := P) w t e i _ ht h1 h2 kl kc n n (by omega) (by omega) hb (by omega)
  simp only [Int.toNat_natCast] at hr
  rw [h3, Nat.mul_one] at hr
  exact hr
theorem made_u64 (n : Nat) : (madeCells #[Value.int .u64 0] n).toList = (List.replicate n 0).flatMap u64E.f := by
  rw [toList_madeCells_one]
  induction n with
  | zero => rfl
  | succ n ih => rw [List.replicate_succ, List.replicate_succ, List.flatMap_cons, ← ih]; rfl
end Go.Proofs.Ythepgnankelmeaa
