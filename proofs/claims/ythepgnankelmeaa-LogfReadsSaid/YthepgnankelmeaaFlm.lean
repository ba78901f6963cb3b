/- A region that draws its order, in which a row that it made itself is marked ('[]byte' of a constant). No program in sight. -/
import Derived.Test.YthepgnankelmeaaFlow
namespace Go.Proofs.Ythepgnankelmeaa
open Go.RowKit

/-- Block g is marked; all that can be read stays. -/
structure Marked (w : World) (g : Nat) (w' : World) : Prop where
  os : w'.os = w.os
  tape : w'.tape = w.tape
  output : w'.output = w.output
  size : w'.heap.size = w.heap.size
  far : ∀ k, k ≠ g → w'.heap[k]? = w.heap[k]?
  at_ : ∃ C e f f', w.heap[g]? = some (.cells C e f) ∧ w'.heap[g]? = some (.cells C e f')
  small : ∀ C e f, w.heap[g]? = some (.cells C e f) → C.size ≤ 15
/-- Memory grows, or a block from B on is marked. -/
def Ext (B : Nat) (w w' : World) : Prop := Below w.heap.size w w' ∨ ∃ g, B ≤ g ∧ Marked w g w'
theorem Marked.cell {w w' : World} {g : Nat} (h : Marked w g w') (b o : Nat) : w'.cell? ⟨b, o, none⟩ = w.cell? ⟨b, o, none⟩ := by
  by_cases hb : b = g
  · subst hb
    obtain ⟨C, e, f, f', h1, h2⟩ := h.at_
    simp [World.cell?, h1, h2]
  · simp [World.cell?, h.far b hb]
theorem Ext.below {w0 w w' : World} (h : Ext w0.heap.size w w') (hb : Below w0.heap.size w0 w) : Below w0.heap.size w0 w' := by
  rcases h with h | ⟨g, hg, h⟩
  · exact hb.trans (h.mono hb.size)
  · exact ⟨h.os.trans hb.os, h.tape.trans hb.tape, h.output.trans hb.output, by rw [h.size]; exact hb.size, fun k hk => (h.far k (by omega)).trans (hb.block k hk)⟩
theorem Rd.ext {B : Nat} {w w' : World} {A : Option Addr} {n : Nat} {l : List UInt8} (h : Rd w A n l) (he : Ext B w w') : Rd w' A n l := by
  rcases he with he | ⟨g, hg, he⟩
  · exact h.below he
  · exact ⟨h.1, fun hn => by
      obtain ⟨b, off, hA, hlt, hc⟩ := h.2 hn
      exact ⟨b, off, hA, by rw [he.size]; exact hlt, fun j c hj => (he.cell b _).trans (hc j c hj)⟩⟩
theorem Marked.freeze {w : World} {g k : Nat} {C : Array Value} {e : TypeId} {f : Nat × Nat} (h : w.heap[g]? = some (.cells C e f)) (hC : C.size ≤ 15) : Marked w g (w.freeze ⟨g, k, none⟩ 1) := by
  obtain ⟨lo, hi⟩ := f
  unfold World.freeze
  rw [if_neg (by decide)]
  refine ⟨rfl, rfl, rfl, by simp, fun j hj => ?_, ⟨C, e, (lo, hi), (if lo == hi then (k, k + 1) else (min lo k, max hi (k + 1))), h, ?_⟩, fun C' e' f' h' => by rw [h] at h'; injection h' with h'; injection h' with h' _ _; rw [← h']; exact hC⟩
  · simp [Array.getElem?_modify, Ne.symm hj]
  · simp [Array.getElem?_modify, h]
/-- '[]byte' of a constant: a conversion of its row to the type it has. -/
theorem run_mark {P : Program} {w : World} {t e : TypeId} {g n c : Nat} {C : Array Value} {f : Nat × Nat} (ht : P.underlying t = some (.slice e)) (he : P.underlying e = some (.int .u8)) (h : w.heap[g]? = some (.cells C e f)) :
    (convert t t (.slice (some ⟨g, 0, none⟩) n c)).run P w = .ok (.slice (some ⟨g, 0, none⟩) n c) (w.freeze ⟨g, C.size, none⟩ 1) := by
  have hsh : w.shape? g = some (e, C.size) := by unfold World.shape?; rw [h]
  simp [convert, run_underlying ht, run_underlying he, markStringish, hsh]

section
variable {P : Program} {ops : Array Oper}
/-- Operation k, in whatever frame and world meet its facts, yields a value that meets its own, and memory only grows. -/
def StepM (P : Program) (ops : Array Oper) (F : Nat → Value → World → Prop) (a0 : Act) (w0 : World) (k : Nat) : Prop :=
  ∃ o d, ops[k]? = some o ∧ o.dst = some d ∧ ∃ srcs : List (Tmp × Option Nat), srcs.all (srcOk ops k) = true ∧
    ∀ a w, Below w0.heap.size w0 w → Facts F a0 a w srcs → ∀ K : Act → World → Prop, (∀ v w', Ext w0.heap.size w w' → F k v w' → K ⟨a.tmps.setIfInBounds d v, a.defers⟩ w') →
      if Region.wanted o (yielded ops a.tmps) = true then Oper.wp P o a w K (fun _ _ _ => False) else K ⟨a.tmps.setIfInBounds d undef, a.defers⟩ w

/-- The rule for an operation without a guard. -/
theorem StepM.plain {F : Nat → Value → World → Prop} {a0 : Act} {w0 : World} {k : Nat} (o : Oper) (d : Tmp) (ho : ops[k]? = some o) (hd : o.dst = some d) (hg : o.guard = none) (srcs : List (Tmp × Option Nat)) (hs : srcs.all (srcOk ops k) = true)
    (h : ∀ a w, Below w0.heap.size w0 w → Facts F a0 a w srcs → ∀ K : Act → World → Prop, (∀ v w', Ext w0.heap.size w w' → F k v w' → K ⟨a.tmps.setIfInBounds d v, a.defers⟩ w') → Oper.wp P o a w K (fun _ _ _ => False)) : StepM P ops F a0 w0 k :=
  ⟨o, d, ho, hd, srcs, hs, fun a w hb hf K hK => by rw [if_pos (by simp [Region.wanted, hg])]; exact h a w hb hf K hK⟩
/-- The rule for a guarded operation that runs. -/
theorem StepM.yes {F : Nat → Value → World → Prop} {a0 : Act} {w0 : World} {k j t : Nat} {b : Bool} (o : Oper) (d : Tmp) (ho : ops[k]? = some o) (hd : o.dst = some d) (hg : o.guard = some (j, b)) (hj : dstOf ops j = some t) (hjb : ∀ v w, F j v w → v = .bool b)
    (srcs : List (Tmp × Option Nat)) (hs : ((t, some j) :: srcs).all (srcOk ops k) = true)
    (h : ∀ a w, Below w0.heap.size w0 w → Facts F a0 a w srcs → ∀ K : Act → World → Prop, (∀ v w', Ext w0.heap.size w w' → F k v w' → K ⟨a.tmps.setIfInBounds d v, a.defers⟩ w') → Oper.wp P o a w K (fun _ _ _ => False)) : StepM P ops F a0 w0 k :=
  ⟨o, d, ho, hd, (t, some j) :: srcs, hs, fun a w hb hf K hK => by
    rw [if_pos (by simp [Region.wanted, hg, yielded_of hj (hjb _ _ hf.1)])]; exact h a w hb hf.2 K hK⟩
/-- The rule for a guarded operation that does not run. -/
theorem StepM.no {F : Nat → Value → World → Prop} {a0 : Act} {w0 : World} {k j t : Nat} {b c : Bool} (o : Oper) (d : Tmp) (ho : ops[k]? = some o) (hd : o.dst = some d) (hg : o.guard = some (j, b)) (hj : dstOf ops j = some t) (hjb : ∀ v w, F j v w → v = .bool c) (hbc : c ≠ b)
    (hs : [(t, some j)].all (srcOk ops k) = true) (hF : ∀ w, F k undef w) : StepM P ops F a0 w0 k :=
  ⟨o, d, ho, hd, [(t, some j)], hs, fun a w hb hf K hK => by
    rw [if_neg (by simp [Region.wanted, hg, yielded_of hj (hjb _ _ hf.1), hbc])]; exact hK _ _ (.inl (Below.refl _ _)) (hF w)⟩

theorem flm_any {F : Nat → Value → World → Prop} {a0 : Act} {w0 : World} {Q : Exit → Act → World → Prop} (hform : flowForm ops = true) (hbound : ∀ k d, k < ops.size → dstOf ops k = some d → d < a0.tmps.size)
    (hstable : ∀ i v w w', i < ops.size → Ext w0.heap.size w w' → F i v w → F i v w') (steps : ∀ k, k < ops.size → StepM P ops F a0 w0 k)
    (fin : ∀ a w, Below w0.heap.size w0 w → a.defers = a0.defers → a.tmps.size = a0.tmps.size → (∀ s, (∀ i, i < ops.size → dstOf ops i ≠ some s) → a.tmps[s]?.getD undef = a0.tmps[s]?.getD undef) →
      (∀ i d, i < ops.size → dstOf ops i = some d → F i (a.tmps[d]?.getD undef) w) → Q .normal a w) :
    ∀ fuel listed a w, undone listed ops.size ≤ fuel → Flow ops F a0 w0 listed a w → wpAny P .any ops Q fuel listed a w := by
  have final : ∀ listed a w, undone listed ops.size = 0 → Flow ops F a0 w0 listed a w → Q .normal a w := fun listed a w h0 hI => by
    have hall := undone_zero listed ops.size h0
    exact fin a w hI.below hI.defers hI.size (fun s hs => hI.base s fun i hi _ => hs i hi) (fun i d hi hd => hI.fact i d hi (hall i hi) hd)
  have getF : ∀ (listed : Array Bool) (j : Nat), listed.getD j false = true → listed.getD j true = true := fun listed j h => by
    simp only [Array.getD_eq_getD_getElem?] at h ⊢
    cases h2 : listed[j]? with
    | none => rfl
    | some b => rw [h2] at h; exact h
  have getT : ∀ (listed : Array Bool) (j : Nat), j < listed.size → listed.getD j true = true → listed.getD j false = true := fun listed j hj h => by
    simp only [Array.getD_eq_getD_getElem?, Array.getElem?_eq_getElem hj] at h ⊢
    exact h
  have noReady : ∀ listed a w, Flow ops F a0 w0 listed a w → Region.ready .any ops listed = [] → undone listed ops.size = 0 := fun listed a w hI hr => by
    have : ∀ i, i < ops.size → listed.getD i true = true := by
      intro i
      induction i using Nat.strongRecOn with
      | _ i ih =>
        intro hi
        cases hl : listed.getD i true with
        | true => rfl
        | false =>
          have hm : i ∈ Region.ready .any ops listed := (ready_iff listed i).2 ⟨hi, hl, fun j hj => by
            have hji := (flowForm_deps hform hi).1 j hj
            exact getT listed j (by rw [hI.lsize]; omega) (ih j hji (by omega))⟩
          rw [hr] at hm
          cases hm
    unfold undone
    rw [List.countP_eq_zero]
    intro i hi
    simp [this i (List.mem_range.1 hi)]
  intro fuel
  induction fuel with
  | zero =>
    intro listed a w hu hI
    refine ⟨?_, final listed a w (by omega) hI⟩
    rw [List.eq_nil_iff_forall_not_mem]
    intro k hk
    obtain ⟨hk1, hk2, _⟩ := (ready_iff listed k).1 hk
    rw [undone_zero listed ops.size (by omega) k hk1] at hk2
    cases hk2
  | succ fuel ih =>
    intro listed a w hu hI
    refine ⟨fun hr => final listed a w (noReady listed a w hI hr) hI, fun k hk => ?_⟩
    obtain ⟨hk1, hk2, hk3⟩ := (ready_iff listed k).1 hk
    obtain ⟨o, d, ho, hd, srcs, hs, hstep⟩ := steps k hk1
    have hdk : dstOf ops k = some d := by unfold dstOf; rw [ho]; exact hd
    have hun := undone_set listed k hk2 ops.size
    rw [if_pos hk1] at hun
    obtain ⟨f1, _, f3⟩ := flowForm_deps hform hk1
    -- the facts
    have hfacts : ∀ l : List (Tmp × Option Nat), l.all (srcOk ops k) = true → Facts F a0 a w l := by
      intro l
      induction l with
      | nil => intro _; trivial
      | cons x r ihr =>
        intro hl
        rw [List.all_cons, Bool.and_eq_true] at hl
        obtain ⟨t, s⟩ := x
        cases s with
        | some j =>
          have h1 := hl.1
          simp only [srcOk, Bool.and_eq_true, List.contains_iff_mem, beq_iff_eq] at h1
          exact ⟨hI.fact j t (by have := f1 j h1.1; omega) (getF listed j (hk3 j h1.1)) h1.2, ihr hl.2⟩
        | none =>
          refine ⟨hI.base t fun i hi hli hdi => ?_, ihr hl.2⟩
          have h1 := hl.1
          simp only [srcOk, List.all_eq_true, List.mem_range] at h1
          have h2 := h1 i hi
          simp only [Bool.or_eq_true, Bool.not_eq_true', beq_eq_false_iff_ne, beq_iff_eq, List.contains_iff_mem] at h2
          rcases h2 with (h2 | h2) | h2
          · exact h2 hdi
          · subst h2; rw [hli] at hk2; cases hk2
          · have := hI.closed i hi hli k h2
            rw [this] at hk2
            cases hk2
    have next : ∀ v w', Ext w0.heap.size w w' → F k v w' → wpAny P .any ops Q fuel (listed.setIfInBounds k true) ⟨a.tmps.setIfInBounds d v, a.defers⟩ w' := by
      intro v w' hb hF
      have hdsz : d < a.tmps.size := by rw [hI.size]; exact hbound k d hk1 hdk
      have e0 : (a.tmps.setIfInBounds d v)[d]?.getD undef = v := by rw [Array.getElem?_setIfInBounds]; simp [hdsz]
      have ene : ∀ s, s ≠ d → (a.tmps.setIfInBounds d v)[s]?.getD undef = a.tmps[s]?.getD undef := fun s hs => by rw [Array.getElem?_setIfInBounds_ne (Ne.symm hs)]
      refine ih _ _ _ (by omega) ⟨hb.below hI.below, hI.defers, by simpa using hI.size, by simpa using hI.lsize, ?_, ?_, ?_⟩
      · intro i hi hl j hj
        rcases getD_set_true listed k i hl with rfl | hl
        · exact getD_set_of listed i j (getF listed j (hk3 j hj))
        · exact getD_set_of listed k j (hI.closed i hi hl j hj)
      · intro s hs
        have hsd : s ≠ d := fun e => by subst e; exact hs k hk1 (getD_set_self listed k) hdk
        exact (ene s hsd).trans (hI.base s fun i hi hl => hs i hi (getD_set_of listed k i hl))
      · intro i di hi hl hdi
        by_cases hik : i = k
        · subst hik
          rw [hdk] at hdi
          obtain rfl := Option.some.inj hdi
          show F i ((a.tmps.setIfInBounds d v)[d]?.getD undef) w'
          rw [e0]; exact hF
        · have hne : di ≠ d := fun e => by subst e; exact f3 i hi hik (hdi.trans hdk.symm)
          rcases getD_set_true listed k i hl with h | hl
          · exact absurd h hik
          · show F i ((a.tmps.setIfInBounds d v)[di]?.getD undef) w'
            rw [ene di hne]
            exact hstable i _ w w' hi hb (hI.fact i di hi hl hdi)
    have hst := hstep a w hI.below (hfacts srcs hs) _ next
    unfold wpOp
    rw [ho]
    show if Region.wanted o (yielded ops a.tmps) = true then _ else _
    by_cases hw : Region.wanted o (yielded ops a.tmps) = true
    · rw [if_pos hw] at hst ⊢
      exact .inl (Oper.wp_weak (fun _ _ h => h) hst)
    · rw [if_neg hw] at hst ⊢
      have e : a.put o.dst undef = ⟨a.tmps.setIfInBounds d undef, a.defers⟩ := by rw [hd]; rfl
      rw [e]
      exact hst

/-- THE LAW: a region that draws its order, by the facts of its operations. -/
theorem wp_flm0 {F : Nat → Value → World → Prop} {a0 : Act} {w0 : World} {Q : Exit → Act → World → Prop} {id : Nat} (hm : P.follows .mixedOrders = true) (hform : flowForm ops = true)
    (hbound : ((List.range ops.size).all fun k => match dstOf ops k with | some d => decide (d < a0.tmps.size) | none => true) = true)
    (hstable : ∀ i v w w', i < ops.size → Ext w0.heap.size w w' → F i v w → F i v w') (steps : ∀ k, k < ops.size → StepM P ops F a0 w0.drew k)
    (fin : ∀ a w, Below w0.heap.size w0 w → a.defers = a0.defers → a.tmps.size = a0.tmps.size → (∀ s, (∀ i, i < ops.size → dstOf ops i ≠ some s) → a.tmps[s]?.getD undef = a0.tmps[s]?.getD undef) →
      (∀ i d, i < ops.size → dstOf ops i = some d → F i (a.tmps[d]?.getD undef) w) → Q .normal a w) : (Code.region id ops true).wp P Q a0 w0 := by
  refine wp_region_any hm ?_
  have hb : ∀ k d, k < ops.size → dstOf ops k = some d → d < a0.tmps.size := fun k d hk hd => by
    rw [List.all_eq_true] at hbound
    have := hbound k (List.mem_range.2 hk)
    rw [hd] at this
    exact of_decide_eq_true this
  have hrep : ∀ i, i < ops.size → (Array.replicate ops.size false).getD i true = true → False := fun i hi h => by
    simp [Array.getD_eq_getD_getElem?, hi] at h
  refine flm_any (w0 := w0.drew) hform hb hstable steps (fun a w hb2 => fin a w ((Below.refl _ _).drew.trans hb2)) ops.size _ a0 _ ?_ ⟨(Below.refl _ _), rfl, rfl, by simp, fun i hi h => (hrep i hi h).elim, fun _ _ => rfl, fun i _ hi h => (hrep i hi h).elim⟩
  unfold undone
  exact Nat.le_trans List.countP_le_length (by simp)
end
def StabM (B : Nat) (f : Value → World → Prop) : Prop := ∀ v w w', Ext B w w' → f v w → f v w'
def StabAllM (B : Nat) : List (Value → World → Prop) → Prop
  | [] => True
  | f :: r => StabM B f ∧ StabAllM B r
theorem FL.stableM {B : Nat} : ∀ (fs : List (Value → World → Prop)), StabAllM B fs → ∀ i v w w', Ext B w w' → FL fs i v w → FL fs i v w'
  | [], _, i, v, w, w', _, h => by simp [FL]
  | f :: r, hs, 0, v, w, w', hb, h => hs.1 v w w' hb h
  | f :: r, hs, i + 1, v, w, w', hb, h => by
    have := FL.stableM r hs.2 i v w w' hb
    simpa [FL] using this (by simpa [FL] using h)
theorem StabM.eq (B : Nat) (c : Value) : StabM B (fun v _ => v = c) := fun _ _ _ _ h => h
theorem StabM.any (B : Nat) : StabM B (fun _ _ => True) := fun _ _ _ _ h => h
theorem StabM.b (B n : Nat) (l : List UInt8) : StabM B (IsB n l) := fun _ _ _ hb ⟨A, c, e, hR, hn, hm⟩ => ⟨A, c, e, hR.ext hb, hn, hm⟩
/-- A row of constants, not yet marked or marked, in a block from B on. -/
def IsConst (B : Nat) (T : TypeId) (n : Nat) (l : List UInt8) (v : Value) (w : World) : Prop := ∃ g f, v = .slice (some ⟨g, 0, none⟩) n n ∧ B ≤ g ∧ w.heap[g]? = some (.cells (l.map bv).toArray T f) ∧ g < w.heap.size
theorem StabM.const (B : Nat) (T : TypeId) (n : Nat) (l : List UInt8) : StabM B (IsConst B T n l) := by
  rintro v w w' hb ⟨g, f, rfl, hg, hh, hlt⟩
  rcases hb with hb | ⟨g', hg', hb⟩
  · exact ⟨g, f, rfl, hg, (hb.block g hlt).trans hh, Nat.lt_of_lt_of_le hlt hb.size⟩
  · by_cases e : g = g'
    · subst e
      obtain ⟨C, e, f1, f2, h1, h2⟩ := hb.at_
      rw [hh] at h1
      injection h1 with h1
      injection h1 with h3 h4 h5
      subst h3 h4
      exact ⟨g, f2, rfl, hg, h2, by rw [hb.size]; exact hlt⟩
    · exact ⟨g, f, rfl, hg, (hb.far g e).trans hh, by rw [hb.size]; exact hlt⟩
theorem rd_of_cells {w : World} {g n : Nat} {T : TypeId} {l : List UInt8} {f : Nat × Nat} (hh : w.heap[g]? = some (.cells (l.map bv).toArray T f)) (hlt : g < w.heap.size) (hn : l.length = n) : Rd w (some ⟨g, 0, none⟩) n l :=
  ⟨hn, fun _ => ⟨g, 0, rfl, hlt, fun j c hj => by simp [World.cell?, hh, List.getElem?_map, hj]⟩⟩
theorem wp_flm {P : Program} {ops : Array Oper} (fs : List (Value → World → Prop)) {a0 : Act} {w0 : World} {Q : Exit → Act → World → Prop} {id : Nat} (hm : P.follows .mixedOrders = true) (hst : StabAllM w0.heap.size fs) (hform : flowForm ops = true)
    (hbound : ((List.range ops.size).all fun k => match dstOf ops k with | some d => decide (d < a0.tmps.size) | none => true) = true)
    (steps : ∀ k, k < ops.size → StepM P ops (FL fs) a0 w0.drew k)
    (fin : ∀ a w, Below w0.heap.size w0 w → a.defers = a0.defers → a.tmps.size = a0.tmps.size → (∀ s, (∀ i, i < ops.size → dstOf ops i ≠ some s) → a.tmps[s]?.getD undef = a0.tmps[s]?.getD undef) →
      (∀ i d, i < ops.size → dstOf ops i = some d → FL fs i (a.tmps[d]?.getD undef) w) → Q .normal a w) : (Code.region id ops true).wp P Q a0 w0 :=
  wp_flm0 hm hform hbound (fun i v w w' _ => FL.stableM fs hst i v w w') steps fin
end Go.Proofs.Ythepgnankelmeaa
