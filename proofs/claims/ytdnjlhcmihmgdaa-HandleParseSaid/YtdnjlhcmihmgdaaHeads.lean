/- A block loaded or stored whole; heads: a number and sixteen more, by value. No program in sight. -/
import Derived.Test.YtdnjlhcmihmgdaaBase
import Derived.Test.YtdnjlhcmihmgdaaKept
import Derived.Deep.MidRow
import Derived.Laws.StructEq
import Derived.ChangeKeysEq
namespace Go.Proofs.Ytdnjlhcmihmgdaa
open Go.RowKit

section
variable {P : Program} {ops : Array Oper} {rest : List Oper} {op : Oper} {a : Act} {w : World} {Q : Exit → Act → World → Prop} {g o : Nat} {T : TypeId} {cur : Array Value}
/-- A part of a block is loaded. -/
theorem wpList_load_blk (hgd : op.guard = none) (ty : TypeId) (x : Operand) (ho : op.op = .load ty x) (g o : Nat) (T : TypeId) (cur cs : Array Value) (d : TypeDesc) (hx : a.eval x = .pointer (some ⟨g, o, none⟩)) (hB : Blk w g T cur) (hcs : ∀ (j : Nat) (v : Value), cs[j]? = some v → cur[o + j]? = some v)
    (hu : P.underlying ty = some d) (hd : d.isRow = true) (hi : (P.info? ty).map (·.size) = some cs.size) (h : wpList P ops Q rest (a.put op.dst (.agg cs)) w) : wpList P ops Q (op :: rest) a w :=
  wpList_load_mid hgd ty x ho g o hx cs.toList d (fun j v hv => by rw [hB.cell]; exact hcs j v (by simpa using hv)) hu hd (by simpa using hi) (by simpa using h)
theorem Blk.there (hB : Blk w g T cur) : w.there g 0 cur.size := fun j hj => by
  refine ⟨?_, ?_⟩
  · rw [hB.cell, Nat.zero_add, Array.getElem?_eq_getElem hj]; rfl
  · exact hB.frozen (0 + j)
theorem Blk.setCells : ∀ (vs : List Value) (o : Nat) (w : World) (cur : Array Value), Blk w g T cur → ∃ cur', Blk (w.setCells g o vs) g T cur' ∧ cur'.size = cur.size
  | [], _, _, cur, h => ⟨cur, h, rfl⟩
  | v :: vs, o, w, cur, h => by
    obtain ⟨c', h1, h2⟩ := Blk.setCells vs (o + 1) _ _ (h.set_ o v)
    exact ⟨c', h1, by rw [h2]; simp⟩
theorem Kept.setCells : ∀ (vs : List Value) (o : Nat) (w : World), Kept [g] w (w.setCells g o vs)
  | [], _, w => Kept.refl _ w
  | v :: vs, o, w => (Kept.setCell (Kept.refl _ w) (p := ⟨g, o, none⟩) (by simp) v).trans (Kept.setCells vs (o + 1) _)
theorem Blk.storeAll (hB : Blk w g T cur) (c' : Array Value) (hs : c'.size = cur.size) : Blk (w.setCells g 0 c'.toList) g T c' := by
  obtain ⟨cur', h1, h2⟩ := Blk.setCells (g := g) (T := T) c'.toList 0 w cur hB
  have hsame := World.rangeAt_setCells_same w g 0 c'.toList (by have := hB.there; rw [← hs] at this; simpa using this)
  have : cur' = c' := by
    apply Array.ext (by omega)
    intro i hi1 hi2
    have h3 := hsame i c'[i] (by simp [hi2])
    rw [h1.cell, Nat.zero_add, Array.getElem?_eq_getElem hi1] at h3
    injection h3
  rw [this] at h1
  exact h1
/-- A block is stored whole. -/
theorem wpList_store_blk (hgd : op.guard = none) (ty : TypeId) (x y : Operand) (ho : op.op = .store ty x y) (g : Nat) (T : TypeId) (cur c' : Array Value) (hx : a.eval x = .pointer (some ⟨g, 0, none⟩)) (hy : a.eval y = .agg c') (hB : Blk w g T cur) (hs : c'.size = cur.size)
    (hi : (P.info? ty).map (·.size) = some c'.size) (h1 : c'.all (·.oneCell') = true) (h : ∀ w', Blk w' g T c' → Kept [g] w w' → wpList P ops Q rest (a.put op.dst undef) w') : wpList P ops Q (op :: rest) a w :=
  wpList_store_mid hgd ty x y ho g 0 c' hx hy (by have := hB.there; rw [← hs] at this; exact this) hi h1 (h _ (hB.storeAll c' hs) (Kept.setCells _ _ _))
end

/-- The cells of a head: the next serial, the roots. -/
abbrev ar (f : Nat → Int) : Array Value := #[.int .u64 (f 0), .int .u64 (f 1), .int .u64 (f 2), .int .u64 (f 3), .int .u64 (f 4), .int .u64 (f 5), .int .u64 (f 6), .int .u64 (f 7), .int .u64 (f 8), .int .u64 (f 9), .int .u64 (f 10), .int .u64 (f 11), .int .u64 (f 12), .int .u64 (f 13), .int .u64 (f 14), .int .u64 (f 15)]
abbrev hz (n : Int) : Array Value := #[.int .u64 n, .int .u64 0, .int .u64 0, .int .u64 0, .int .u64 0, .int .u64 0, .int .u64 0, .int .u64 0, .int .u64 0, .int .u64 0, .int .u64 0, .int .u64 0, .int .u64 0, .int .u64 0, .int .u64 0, .int .u64 0, .int .u64 0]
abbrev hd (n : Int) (f : Nat → Int) : Array Value := #[.int .u64 n, .int .u64 (f 0), .int .u64 (f 1), .int .u64 (f 2), .int .u64 (f 3), .int .u64 (f 4), .int .u64 (f 5), .int .u64 (f 6), .int .u64 (f 7), .int .u64 (f 8), .int .u64 (f 9), .int .u64 (f 10), .int .u64 (f 11), .int .u64 (f 12), .int .u64 (f 13), .int .u64 (f 14), .int .u64 (f 15)]
/-- The first k of a head's roots, the others nought. -/
def upto (k : Nat) (f : Nat → Int) : Nat → Int := fun i => if i < k then f i else 0
theorem ar_get (f : Nat → Int) {k : Nat} (hk : k < 16) : (ar f)[k]? = some (.int .u64 (f k)) := by
  match k, hk with
  | 0, _ => rfl
  | 1, _ => rfl
  | 2, _ => rfl
  | 3, _ => rfl
  | 4, _ => rfl
  | 5, _ => rfl
  | 6, _ => rfl
  | 7, _ => rfl
  | 8, _ => rfl
  | 9, _ => rfl
  | 10, _ => rfl
  | 11, _ => rfl
  | 12, _ => rfl
  | 13, _ => rfl
  | 14, _ => rfl
  | 15, _ => rfl
  | k + 16, h => omega
theorem hd_get (n : Int) (f : Nat → Int) {k : Nat} (hk : k < 16) : (hd n f)[1 + k]? = some (.int .u64 (f k)) := by
  match k, hk with
  | 0, _ => rfl
  | 1, _ => rfl
  | 2, _ => rfl
  | 3, _ => rfl
  | 4, _ => rfl
  | 5, _ => rfl
  | 6, _ => rfl
  | 7, _ => rfl
  | 8, _ => rfl
  | 9, _ => rfl
  | 10, _ => rfl
  | 11, _ => rfl
  | 12, _ => rfl
  | 13, _ => rfl
  | 14, _ => rfl
  | 15, _ => rfl
  | k + 16, h => omega
theorem hd_ar (n : Int) (f : Nat → Int) : ∀ (j : Nat) (v : Value), (ar f)[j]? = some v → (hd n f)[1 + j]? = some v := by
  intro j v h
  have hj : j < (ar f).size := (Array.getElem?_eq_some_iff.1 h).1
  have hj : j < 16 := hj
  rw [ar_get f hj] at h
  rw [hd_get n f hj]
  exact h
theorem hd_self (n : Int) (f : Nat → Int) : ∀ (j : Nat) (v : Value), (hd n f)[j]? = some v → (hd n f)[0 + j]? = some v := by
  intro j v h
  rw [Nat.zero_add]
  exact h
theorem hd_ext {n : Int} {f g : Nat → Int} (h : ∀ i, i < 16 → f i = g i) : hd n f = hd n g := by
  unfold hd
  rw [h 0 (by omega), h 1 (by omega), h 2 (by omega), h 3 (by omega), h 4 (by omega), h 5 (by omega), h 6 (by omega), h 7 (by omega), h 8 (by omega), h 9 (by omega), h 10 (by omega), h 11 (by omega), h 12 (by omega), h 13 (by omega), h 14 (by omega), h 15 (by omega)]
theorem upto_zero (n : Int) (f : Nat → Int) : hd n (upto 0 f) = hz n := rfl
theorem upto_all (n : Int) (f : Nat → Int) : hd n (upto 16 f) = hd n f := hd_ext fun i hi => by unfold upto; rw [if_pos hi]
theorem upto_set (n : Int) (f : Nat → Int) {k : Nat} (hk : k < 16) : (hd n (upto k f)).setIfInBounds (1 + k) (.int .u64 (f k)) = hd n (upto (k + 1) f) := by
  match k, hk with
  | 0, _ => rfl
  | 1, _ => rfl
  | 2, _ => rfl
  | 3, _ => rfl
  | 4, _ => rfl
  | 5, _ => rfl
  | 6, _ => rfl
  | 7, _ => rfl
  | 8, _ => rfl
  | 9, _ => rfl
  | 10, _ => rfl
  | 11, _ => rfl
  | 12, _ => rfl
  | 13, _ => rfl
  | 14, _ => rfl
  | 15, _ => rfl
  | k + 16, h => omega

/-- Are two heads the same? -/
def eqH (n : Int) (f : Nat → Int) (m : Int) (h : Nat → Int) : Bool := (n == m) && (List.range 16).all fun i => f i == h i
theorem eqH_iff {n m : Int} {f h : Nat → Int} : eqH n f m h = true ↔ n = m ∧ ∀ i, i < 16 → f i = h i := by
  simp [eqH, List.all_eq_true]
theorem eqH_self (n : Int) (f : Nat → Int) : eqH n f n f = true := eqH_iff.2 ⟨rfl, fun _ _ => rfl⟩
theorem eqH_cells {n m : Int} {f h : Nat → Int} (e : eqH n f m h = true) : hd n f = hd m h := by
  obtain ⟨rfl, h2⟩ := eqH_iff.1 e
  exact hd_ext h2
section
variable {P : Program}
theorem run_eq_items (d : Nat) (elem : TypeId) (xs ys : Array Value) (f h : Nat → Int) (he : P.underlying elem = some (.int .u64)) : ∀ (l : List Nat) (w : World), (∀ i ∈ l, (Go.part elem xs (i * 1)).run P w = .ok (.int .u64 (f i)) w ∧ (Go.part elem ys (i * 1)).run P w = .ok (.int .u64 (h i)) w) →
    (Op.eqItems (d + 1) elem 1 xs ys l).run P w = .ok (l.all fun i => f i == h i) w
  | [], w, _ => by simp [Op.eqItems]
  | i :: l, w, hp => by
    obtain ⟨p1, p2⟩ := hp i (by simp)
    have ih := run_eq_items d elem xs ys f h he l w (fun j hj => hp j (by simp [hj]))
    simp only [Op.eqItems, Sem.run_bind, p1, p2, Result.andThen_ok, run_equalIn_int w d elem .u64 .u64 (f i) (h i) he]
    by_cases e : f i = h i
    · simp only [e, BEq.rfl, Bool.not_true, Bool.false_eq_true, if_false, List.all_cons, Bool.true_and]
      exact ih
    · have e2 : (f i == h i) = false := by simpa using e
      simp only [e2, Bool.not_false, if_true, Sem.run_pure, List.all_cons, Bool.false_and]
theorem run_part_cell (w : World) (t : TypeId) (cs : Array Value) (o : Nat) (v : Value) (hu : P.underlying t = some (.int .u64)) (hc : cs[o]? = some v) : (Go.part t cs o).run P w = .ok v w := by
  have hagg : (isAgg t).run P w = .ok false w := by
    unfold isAgg
    rw [Sem.run_bind, run_underlying hu w]
    simp
  unfold Go.part
  rw [Sem.run_bind, hagg]
  simp [hc]
/-- Two heads' arrays, one by one. -/
theorem run_eq_arr (d : Nat) (t elem : TypeId) (f h : Nat → Int) (ht : P.underlying t = some (.array 16 elem)) (he : P.underlying elem = some (.int .u64)) (hi : (P.info? elem).isSome = true) (hC : P.cellsOf elem = 1) (w : World) :
    (Op.equalIn (d + 2) t (.agg (ar f)) (.agg (ar h))).run P w = .ok ((List.range 16).all fun i => f i == h i) w := by
  obtain ⟨i, hi⟩ := Option.isSome_iff_exists.1 hi
  rw [run_equalIn_array w (d + 1) (ar f) (ar h) ht hi, hC]
  refine run_eq_items d elem _ _ f h he _ _ fun i hi => ?_
  have hi : i < 16 := List.mem_range.1 hi
  rw [Nat.mul_one]
  exact ⟨run_part_cell w elem _ _ _ he (ar_get f hi), run_part_cell w elem _ _ _ he (ar_get h hi)⟩
end
end Go.Proofs.Ytdnjlhcmihmgdaa
