/- Slices whose elements are of any kind, each of the same number of cells: what a slice reads, what a call of our own has made. No program in sight. -/
import Derived.Test.YtidlcplamgajpaaBytes
namespace Go.Proofs.Ytidlcplamgajpaa
open Go.RowKit

/-- How an element lies in memory: so many cells, each of one value. -/
structure Enc (α : Type) where
  sz : Nat
  f : α → List Value
  len : ∀ a, (f a).length = sz
  pos : 0 < sz
  one : ∀ a, ∀ u ∈ f a, u.oneCell' = true

/-- The slice value of address A and length n reads the elements l in the world w. -/
def RdG {α : Type} (E : Enc α) (w : World) (A : Option Addr) (n : Nat) (l : List α) : Prop :=
  l.length = n ∧ (0 < n → ∃ b off, A = some ⟨b, off, none⟩ ∧ b < w.heap.size ∧ ∀ (k : Nat) (a : α), l[k]? = some a → ∀ (j : Nat) (u : Value), (E.f a)[j]? = some u → w.cell? ⟨b, off + k * E.sz + j, none⟩ = some u)

section
variable {α : Type} {E : Enc α} {w w' : World} {A : Option Addr} {n : Nat} {l : List α}
theorem RdG.len (h : RdG E w A n l) : l.length = n := h.1
theorem RdG.nil : RdG E w A 0 [] := ⟨rfl, fun h => absurd h (by omega)⟩
theorem RdG.at_ (h : RdG E w A n l) {k : Nat} (hk : k < n) : ∃ b off a, A = some ⟨b, off, none⟩ ∧ b < w.heap.size ∧ l[k]? = some a ∧ ∀ (j : Nat) (u : Value), (E.f a)[j]? = some u → w.cell? ⟨b, off + k * E.sz + j, none⟩ = some u := by
  obtain ⟨b, off, e, hb, hc⟩ := h.2 (by omega)
  have hl : k < l.length := by have := h.1; omega
  exact ⟨b, off, l[k], e, hb, List.getElem?_eq_getElem hl, hc k _ (List.getElem?_eq_getElem hl)⟩
theorem RdG.on (h : RdG E w A n l) {B : Nat} (hb : Below B w w') (hB : w.heap.size ≤ B) : RdG E w' A n l :=
  ⟨h.1, fun hn => by
    obtain ⟨b, off, e, hlt, hc⟩ := h.2 hn
    exact ⟨b, off, e, Nat.lt_of_lt_of_le hlt hb.size, fun k a hk j u hu => (hb.cell (p := ⟨b, off + k * E.sz + j, none⟩) (by show b < B; omega)).trans (hc k a hk j u hu)⟩⟩
theorem RdG.below (h : RdG E w A n l) (hb : Below w.heap.size w w') : RdG E w' A n l := h.on hb (Nat.le_refl _)
theorem RdG.alloc (h : RdG E w A n l) (o : Obj) : RdG E (w.alloc o) A n l := h.below ((Below.refl _ _).alloc (Nat.le_refl _) o)
theorem RdG.drew (h : RdG E w A n l) : RdG E w.drew A n l := h
theorem flat_get (E : Enc α) : ∀ (l : List α) (k j : Nat) (a : α) (u : Value), l[k]? = some a → (E.f a)[j]? = some u → (l.flatMap E.f)[k * E.sz + j]? = some u
  | [], k, j, a, u, h, _ => by simp at h
  | x :: l, 0, j, a, u, h, hu => by
    simp at h
    subst h
    have hj : j < (E.f x).length := (List.getElem?_eq_some_iff.1 hu).1
    rw [List.flatMap_cons, Nat.zero_mul, Nat.zero_add, List.getElem?_append_left hj]
    exact hu
  | x :: l, k + 1, j, a, u, h, hu => by
    have ih := flat_get E l k j a u (by simpa using h) hu
    rw [List.flatMap_cons, List.getElem?_append_right (by rw [E.len, Nat.succ_mul]; omega), E.len, show (k + 1) * E.sz + j - E.sz = k * E.sz + j from by rw [Nat.succ_mul]; omega]
    exact ih
theorem flat_len (E : Enc α) : ∀ l : List α, (l.flatMap E.f).length = l.length * E.sz
  | [] => by simp
  | x :: l => by rw [List.flatMap_cons, List.length_append, E.len, flat_len E l, List.length_cons, Nat.succ_mul]; omega
theorem flat_one (E : Enc α) (l : List α) : ∀ u ∈ l.flatMap E.f, u.oneCell' = true := by
  intro u hu
  obtain ⟨a, _, ha⟩ := List.mem_flatMap.1 hu
  exact E.one a u ha
/-- The cells of a whole run of elements, by their number. -/
theorem flat_at (E : Enc α) : ∀ (l : List α) (i : Nat) (u : Value), (l.flatMap E.f)[i]? = some u → ∃ k j a, i = k * E.sz + j ∧ l[k]? = some a ∧ (E.f a)[j]? = some u
  | [], i, u, h => by simp at h
  | x :: l, i, u, h => by
    rw [List.flatMap_cons] at h
    rcases Nat.lt_or_ge i E.sz with hi | hi
    · rw [List.getElem?_append_left (by rw [E.len]; exact hi)] at h
      exact ⟨0, i, x, by omega, rfl, h⟩
    · rw [List.getElem?_append_right (by rw [E.len]; exact hi), E.len] at h
      obtain ⟨k, j, a, e, hk, hu⟩ := flat_at E l (i - E.sz) u h
      exact ⟨k + 1, j, a, by rw [Nat.succ_mul]; omega, by simpa using hk, hu⟩
theorem RdG.of_own {base : Nat} {e : TypeId} {c : Nat} (h : w.ownsRow base e E.sz (.slice A n c) n (l.flatMap E.f)) : RdG E w A n l := by
  have hl : l.length = n := by
    have := h.1
    rw [flat_len] at this
    exact Nat.eq_of_mul_eq_mul_right E.pos this
  refine ⟨hl, fun hn => ?_⟩
  rcases h.2 with ⟨_, h0⟩ | ⟨g, cap, cur, hv, _, hh, _⟩
  · omega
  · have hA : A = some ⟨g, 0, none⟩ := by injection hv
    subst hA
    have hlt : g < w.heap.size := by
      rcases Nat.lt_or_ge g w.heap.size with hlt | hge
      · exact hlt
      · rw [Array.getElem?_eq_none hge] at hh; cases hh
    refine ⟨g, 0, rfl, hlt, fun k a hk j u hu => ?_⟩
    have h1 := h.cells (g := g) rfl (k * E.sz + j) u (flat_get E l k j a u hk hu)
    have h2 : (⟨g, 0, none⟩ : Addr).add (k * E.sz + j) = ⟨g, 0 + k * E.sz + j, none⟩ := by unfold Addr.add; split <;> simp_all
    rw [h2] at h1
    exact h1
end

/-- The call has made the elements l: a row of its own, from block B on. T: the element type's number. -/
def FreshG {α : Type} (E : Enc α) (T : TypeId) (B : Nat) (w' : World) (v : Value) (l : List α) : Prop := ∃ A c, v = .slice A l.length c ∧ w'.ownsRow B T E.sz v l.length (l.flatMap E.f)
def GivesG {α : Type} (E : Enc α) (T : TypeId) (w : World) (l : List α) (e : Ending) (w' : World) : Prop := ∃ v, e = .returned v ∧ FreshG E T w.heap.size w' v l ∧ Below w.heap.size w w'
section
variable {α : Type} {E : Enc α} {T : TypeId} {B B' : Nat} {w w' : World} {v : Value} {l : List α}
theorem FreshG.rdn (h : FreshG E T B w v l) (n : Nat) (hn : l.length = n) : ∃ A c, v = .slice A n c ∧ RdG E w A n l ∧ w.ownsRow B T E.sz (.slice A n c) n (l.flatMap E.f) ∧ n ≤ c ∧ c ≤ maxLen := by
  subst hn
  obtain ⟨A, c, rfl, hown⟩ := h
  refine ⟨A, c, rfl, RdG.of_own hown, hown, ?_⟩
  rcases hown.2 with ⟨h0, h1⟩ | ⟨g, cap, cur, hv, _, _, h1, h2, _⟩
  · injection h0 with _ h3 h4; subst h4; exact ⟨by omega, by unfold maxLen; omega⟩
  · injection hv with _ _ h4; subst h4; exact ⟨h1, h2⟩
theorem FreshG.from_ (h : FreshG E T B w v l) (hB : B' ≤ B) : FreshG E T B' w v l := by
  obtain ⟨A, c, rfl, hown⟩ := h
  refine ⟨A, c, rfl, hown.1, ?_⟩
  rcases hown.2 with h0 | ⟨g, cap, cur, hv, hg, hr⟩
  · exact .inl h0
  · exact .inr ⟨g, cap, cur, hv, Nat.le_trans hB hg, hr⟩
theorem FreshG.nil (T : TypeId) (B : Nat) (w : World) : FreshG E T B w (.slice none 0 0) [] := ⟨none, 0, rfl, by simpa using World.ownsRow_nil w B T E.sz⟩
theorem FreshG.block (h : FreshG E T B w v l) : ∀ k, v.ownBlock = some k → B ≤ k ∧ k < w.heap.size := by
  obtain ⟨A, c, rfl, hown⟩ := h
  exact hown.lt
theorem FreshG.on (h : FreshG E T B w v l) (hb : Below B' w w') (hB : w.heap.size ≤ B') : FreshG E T B w' v l := by
  have hlt := h.block
  obtain ⟨A, c, rfl, hown⟩ := h
  refine ⟨A, c, rfl, hown.1, ?_⟩
  rcases hown.2 with h0 | ⟨g, cap, cur, hv, hg, hh, hr⟩
  · exact .inl h0
  · have := (hlt g (by rw [hv]; rfl)).2
    exact .inr ⟨g, cap, cur, hv, hg, (hb.block g (by omega)).trans hh, hr⟩
theorem FreshG.below (h : FreshG E T B w v l) (hb : Below w.heap.size w w') : FreshG E T B w' v l := h.on hb (Nat.le_refl _)
theorem FreshG.alloc (h : FreshG E T B w v l) (o : Obj) : FreshG E T B (w.alloc o) v l := h.below ((Below.refl _ _).alloc (Nat.le_refl _) o)
theorem FreshG.drew (h : FreshG E T B w v l) : FreshG E T B w.drew v l := h
/-- A block of a call's own, whole, is a row. -/
theorem FreshG.of_blk {g n : Nat} {cs : Array Value} (h : Blk w g T cs) (hb : B ≤ g) (hn : n ≤ maxLen) (hl : l.length = n) (hcs : cs.toList = l.flatMap E.f) : FreshG E T B w (.slice (some ⟨g, 0, none⟩) n n) l := by
  subst hl
  have hsz : cs.size = l.length * E.sz := by rw [← flat_len E l, ← hcs]; simp
  refine ⟨_, _, rfl, flat_len E l, .inr ⟨g, _, cs, rfl, hb, h, Nat.le_refl _, hn, hsz, ?_⟩⟩
  rw [hcs, List.take_of_length_le (by rw [flat_len]; exact Nat.le_refl _)]
/-- An element that has just been boxed, as a slice of one. -/
theorem RdG.boxed (w : World) (T : TypeId) (a : α) (cs : Array Value) (h : cs.toList = E.f a) : RdG E (w.alloc (.cells cs T)) (some ⟨w.heap.size, 0, none⟩) 1 [a] :=
  ⟨rfl, fun _ => ⟨w.heap.size, 0, rfl, by simp, fun k b hk j u hu => by
    match k, hk with
    | 0, hk =>
      simp at hk
      subst hk
      rw [Nat.zero_mul, Nat.zero_add, (Blk.new w T cs).cell j, ← Array.getElem?_toList, h]
      exact hu⟩⟩
end

section
variable {P : Program} {α : Type} {E : Enc α}
theorem run_append_G (w : World) (base : Nat) (t ty e : TypeId) {z : Value} {bytes : Nat} (ht : P.underlying t = some (.slice e)) (hi : (P.info? e).map (fun i => (i.zero, i.size, i.bytes)) = some (some z, E.sz, bytes)) (hzs : z.cells.size = E.sz)
    (v : Value) (l : List α) (hF : FreshG E e base w v l) (A : Option Addr) (m c : Nat) (l2 : List α) (hr : RdG E w A m l2) (hlen : (l.length + m) * bytes ≤ 140737488355328) (h63 : l.length + m ≤ 140737488355328) (hbase : base ≤ w.heap.size) :
    ∃ v' w', (Builtin.append_ #[t, t] ty #[v, .slice A m c]).run P w = .ok v' w' ∧ FreshG E e base w' v' (l ++ l2) ∧ w.grownBy w' v.ownBlock ∧ Below base w w' := by
  obtain ⟨i, h1, h2, h3, h4⟩ := info_parts hi
  have hlt := hF.block
  obtain ⟨A0, c0, rfl, hown⟩ := hF
  have hm : l2.length = m := hr.1
  have low : ∀ w', w.grownBy w' (Value.slice A0 l.length c0).ownBlock → Below base w w' := fun w' hg => (Below.refl _ _).grown hg hbase (fun k hk => (hlt k hk).1)
  have out : ∀ v' w', w'.ownsRow base e E.sz v' (l.length + m) (l.flatMap E.f ++ l2.flatMap E.f) → FreshG E e base w' v' (l ++ l2) := by
    intro v' w' ho
    have ho' : w'.ownsRow base e E.sz v' (l ++ l2).length ((l ++ l2).flatMap E.f) := by rw [List.length_append, hm, List.flatMap_append]; exact ho
    rcases ho.2 with ⟨rfl, h0⟩ | ⟨g, cap, cur, rfl, _⟩
    · have e0 : (l ++ l2).length = 0 := by rw [List.length_append]; omega
      exact ⟨none, 0, by rw [e0], by rw [e0] at ho' ⊢; exact ho'⟩
    · have e0 : l.length + m = (l ++ l2).length := by rw [List.length_append]; omega
      exact ⟨some ⟨g, 0, none⟩, cap, by rw [e0], by rw [← e0] at ho' ⊢; exact ho'⟩
  rcases A with _ | ad
  · have h0 : m = 0 := by
      rcases Nat.eq_zero_or_pos m with h0 | h0
      · exact h0
      · obtain ⟨_, _, h, _⟩ := hr.2 h0
        cases h
    subst h0
    have hn : l2 = [] := List.eq_nil_of_length_eq_zero hm
    subst hn
    exact ⟨_, w, run_append_of_nil w base t ty e i E.sz ht h1 _ _ _ hown c, out _ _ (by simpa using hown), World.grownBy.refl w _, low _ (World.grownBy.refl w _)⟩
  · have hcells : ∀ j u, (l2.flatMap E.f)[j]? = some u → w.cell? (ad.add j) = some u := by
      intro i u hu
      obtain ⟨k, j, a, e1, hk, hju⟩ := flat_at E l2 i u hu
      have hkl : k < l2.length := (List.getElem?_eq_some_iff.1 hk).1
      obtain ⟨b, o, hA, _, hc⟩ := hr.2 (by omega)
      injection hA with hA
      subst hA
      have h2 : (⟨b, o, none⟩ : Addr).add i = ⟨b, o + k * E.sz + j, none⟩ := by rw [e1]; unfold Addr.add; split <;> simp_all [Nat.add_assoc]
      rw [h2]
      exact hc k a hk j u hju
    obtain ⟨v', w', hrun, g2, g3, _, _⟩ := run_append_own_at (P := P) w base t ty e i z E.sz bytes ht h1 h2 h3 h4 hzs E.pos _ _ _ hown ad m c (l2.flatMap E.f) (by rw [flat_len, hm]) hcells (flat_one E l2) (by unfold maxLen; omega) hlen hbase
    exact ⟨v', w', hrun, out _ _ g2, g3, low _ g3⟩

theorem wpList_append_G (w : World) {ops : Array Oper} {rest : List Oper} {o : Oper} {a : Act} {Q : Exit → Act → World → Prop} (hgd : o.guard = none) (s x : Operand) (t : TypeId)
    (ho : o.op = .call { callee := .builtin .append, args := #[s, x], argTypes := #[t, t] })
    (base : Nat) (e : TypeId) {z : Value} {bytes : Nat} (ht : P.underlying t = some (.slice e)) (hi : (P.info? e).map (fun i => (i.zero, i.size, i.bytes)) = some (some z, E.sz, bytes)) (hzs : z.cells.size = E.sz)
    (v : Value) (l : List α) (hs : a.eval s = v) (hF : FreshG E e base w v l) (A : Option Addr) (m c : Nat) (l2 : List α) (hx : a.eval x = .slice A m c) (hr : RdG E w A m l2) (hlen : (l.length + m) * bytes ≤ 140737488355328) (h63 : l.length + m ≤ 140737488355328) (hbase : base ≤ w.heap.size)
    (h : ∀ v' w', FreshG E e base w' v' (l ++ l2) → w.grownBy w' v.ownBlock → Below base w w' → wpList P ops Q rest (a.put o.dst v') w') : wpList P ops Q (o :: rest) a w :=
  wpList_plain hgd fun _ hK => by
    obtain ⟨v', w', hrun, h2, h3, h4⟩ := run_append_G (P := P) w base t o.type e ht hi hzs v l hF A m c l2 hr hlen h63 hbase
    unfold Oper.wp execOp
    simp only [ho, resolve, invoke, builtin, Sem.run_bind, Sem.run_pure, Result.andThen_ok, List.map_toArray, List.map_cons, List.map_nil, hs, hx, hrun]
    exact hK _ _ (h v' w' h2 h3 h4)
end
end Go.Proofs.Ytidlcplamgajpaa
