/- A region that draws its order, walked once, each operation for itself: whatever order the tape gives, what the operations yield meets their facts, if each fact stays true while memory only grows. No program in sight. -/
import Derived.Test.YtidlcplamgajpaaBytes
import Derived.Orders
namespace Go.Proofs.Ytidlcplamgajpaa
open Go.RowKit

section
variable {P : Program} {ops : Array Oper}

/-- What operation k waits for, in every order. -/
def depsOf (ops : Array Oper) (k : Nat) : List Nat := match ops[k]? with
  | some o => (o.after.toList.filter (Region.binds .any)).map (·.on)
  | none => []
def dstOf (ops : Array Oper) (k : Nat) : Option Tmp := (ops[k]?).bind (·.dst)
/-- The region's form: each waits for earlier ones alone; no two write one slot; each writes one. -/
def flowForm (ops : Array Oper) : Bool :=
  (List.range ops.size).all fun k => (depsOf ops k).all (fun j => decide (j < k)) && (dstOf ops k).isSome && (List.range ops.size).all fun i => i == k || !(dstOf ops i == dstOf ops k)
/-- Where a slot that operation k looks at comes from: operation j, for which k waits; or it is as it was (whoever writes it waits for k). -/
def srcOk (ops : Array Oper) (k : Nat) : Tmp × Option Nat → Bool
  | (t, some j) => (depsOf ops k).contains j && (dstOf ops j == some t)
  | (t, none) => (List.range ops.size).all fun i => !(dstOf ops i == some t) || i == k || (depsOf ops i).contains k

/-- The facts that operation k may lean on. -/
def Facts (F : Nat → Value → World → Prop) (a0 a : Act) (w : World) : List (Tmp × Option Nat) → Prop
  | [] => True
  | (t, some j) :: r => F j (a.tmps[t]?.getD undef) w ∧ Facts F a0 a w r
  | (t, none) :: r => a.tmps[t]?.getD undef = a0.tmps[t]?.getD undef ∧ Facts F a0 a w r

/-- Operation k, in whatever frame and world meet its facts, yields a value that meets its own, and memory only grows. -/
def StepOk (P : Program) (ops : Array Oper) (F : Nat → Value → World → Prop) (a0 : Act) (w0 : World) (k : Nat) : Prop :=
  ∃ o d, ops[k]? = some o ∧ o.dst = some d ∧ ∃ srcs : List (Tmp × Option Nat), srcs.all (srcOk ops k) = true ∧
    ∀ a w, Below w0.heap.size w0 w → Facts F a0 a w srcs → ∀ K : Act → World → Prop, (∀ v w', Below w.heap.size w w' → F k v w' → K ⟨a.tmps.setIfInBounds d v, a.defers⟩ w') →
      if Region.wanted o (yielded ops a.tmps) = true then Oper.wp P o a w K (fun _ _ _ => False) else K ⟨a.tmps.setIfInBounds d undef, a.defers⟩ w

theorem yielded_of {a : Act} {j d : Nat} {b : Bool} (hd : dstOf ops j = some d) (h : a.tmps[d]?.getD undef = .bool b) : yielded ops a.tmps j = some b := by
  unfold dstOf at hd
  unfold yielded
  rw [hd]
  show (match a.tmps[d]? with | some (.bool b) => some b | _ => none) = some b
  cases h2 : a.tmps[d]? with
  | none => rw [h2] at h; cases h
  | some v => rw [h2] at h; simp at h; subst h; rfl

/-- The rule for an operation without a guard. -/
theorem StepOk.plain {F : Nat → Value → World → Prop} {a0 : Act} {w0 : World} {k : Nat} (o : Oper) (d : Tmp) (ho : ops[k]? = some o) (hd : o.dst = some d) (hg : o.guard = none) (srcs : List (Tmp × Option Nat)) (hs : srcs.all (srcOk ops k) = true)
    (h : ∀ a w, Below w0.heap.size w0 w → Facts F a0 a w srcs → ∀ K : Act → World → Prop, (∀ v w', Below w.heap.size w w' → F k v w' → K ⟨a.tmps.setIfInBounds d v, a.defers⟩ w') → Oper.wp P o a w K (fun _ _ _ => False)) : StepOk P ops F a0 w0 k :=
  ⟨o, d, ho, hd, srcs, hs, fun a w hb hf K hK => by rw [if_pos (by simp [Region.wanted, hg])]; exact h a w hb hf K hK⟩
/-- The rule for a guarded operation that runs. -/
theorem StepOk.yes {F : Nat → Value → World → Prop} {a0 : Act} {w0 : World} {k j t : Nat} {b : Bool} (o : Oper) (d : Tmp) (ho : ops[k]? = some o) (hd : o.dst = some d) (hg : o.guard = some (j, b)) (hj : dstOf ops j = some t) (hjb : ∀ v w, F j v w → v = .bool b)
    (srcs : List (Tmp × Option Nat)) (hs : ((t, some j) :: srcs).all (srcOk ops k) = true)
    (h : ∀ a w, Below w0.heap.size w0 w → Facts F a0 a w srcs → ∀ K : Act → World → Prop, (∀ v w', Below w.heap.size w w' → F k v w' → K ⟨a.tmps.setIfInBounds d v, a.defers⟩ w') → Oper.wp P o a w K (fun _ _ _ => False)) : StepOk P ops F a0 w0 k :=
  ⟨o, d, ho, hd, (t, some j) :: srcs, hs, fun a w hb hf K hK => by
    rw [if_pos (by simp [Region.wanted, hg, yielded_of hj (hjb _ _ hf.1)])]; exact h a w hb hf.2 K hK⟩
/-- The rule for a guarded operation that does not run. -/
theorem StepOk.no {F : Nat → Value → World → Prop} {a0 : Act} {w0 : World} {k j t : Nat} {b c : Bool} (o : Oper) (d : Tmp) (ho : ops[k]? = some o) (hd : o.dst = some d) (hg : o.guard = some (j, b)) (hj : dstOf ops j = some t) (hjb : ∀ v w, F j v w → v = .bool c) (hbc : c ≠ b)
    (hs : [(t, some j)].all (srcOk ops k) = true) (hF : ∀ w, F k undef w) : StepOk P ops F a0 w0 k :=
  ⟨o, d, ho, hd, [(t, some j)], hs, fun a w hb hf K hK => by
    rw [if_neg (by simp [Region.wanted, hg, yielded_of hj (hjb _ _ hf.1), hbc])]; exact hK _ _ (Below.refl _ _) (hF w)⟩

/-- What holds under way. -/
structure Flow (ops : Array Oper) (F : Nat → Value → World → Prop) (a0 : Act) (w0 : World) (listed : Array Bool) (a : Act) (w : World) : Prop where
  below : Below w0.heap.size w0 w
  defers : a.defers = a0.defers
  size : a.tmps.size = a0.tmps.size
  lsize : listed.size = ops.size
  closed : ∀ i, i < ops.size → listed.getD i true = true → ∀ j ∈ depsOf ops i, listed.getD j true = true
  base : ∀ s, (∀ i, i < ops.size → listed.getD i true = true → dstOf ops i ≠ some s) → a.tmps[s]?.getD undef = a0.tmps[s]?.getD undef
  fact : ∀ i d, i < ops.size → listed.getD i true = true → dstOf ops i = some d → F i (a.tmps[d]?.getD undef) w

theorem Oper.wp_weak {o : Oper} {a : Act} {w : World} {K K' : Act → World → Prop} {Q : Exit → Act → World → Prop} (h : ∀ a w, K a w → K' a w)
    (hh : Oper.wp P o a w K (fun _ _ _ => False)) : Oper.wp P o a w K' Q := by
  unfold Oper.wp at *
  generalize (execOp a.eval o).run P w = r at *
  cases r with
  | ok n w' =>
    cases n <;> simp only [Oper.upon] at hh ⊢ <;>
      first
        | exact h _ _ hh
        | exact Calls.mono hh (fun e w'' he => by
            cases e with
            | returned v => exact h _ _ he
            | panicked c => exact absurd he (fun x => x)
            | outgrown => obtain ⟨_, _, hx⟩ := he; exact absurd hx (fun x => x))
        | exact Rows.mono hh (fun _ _ he => h _ _ he)
  | halt x w' =>
    cases x <;> simp only [Oper.upon] at hh ⊢

theorem getD_set_true (listed : Array Bool) (i j : Nat) (h : (listed.setIfInBounds i true).getD j true = true) : j = i ∨ listed.getD j true = true := by
  by_cases e : j = i
  · exact .inl e
  · right
    simp only [Array.getD_eq_getD_getElem?] at h ⊢
    rwa [Array.getElem?_setIfInBounds_ne (Ne.symm e)] at h
theorem getD_set_of (listed : Array Bool) (i j : Nat) (h : listed.getD j true = true) : (listed.setIfInBounds i true).getD j true = true := by
  simp only [Array.getD_eq_getD_getElem?] at h ⊢
  rw [Array.getElem?_setIfInBounds]
  split
  · split <;> rfl
  · exact h
theorem getD_set_self (listed : Array Bool) (i : Nat) : (listed.setIfInBounds i true).getD i true = true := by
  simp only [Array.getD_eq_getD_getElem?]
  rw [Array.getElem?_setIfInBounds]
  rw [if_pos rfl]
  split <;> rfl

def undone (listed : Array Bool) (n : Nat) : Nat := (List.range n).countP fun i => !listed.getD i true
theorem countP_flip (p q : Nat → Bool) (k : Nat) (hp : p k = true) (hq : q k = false) (he : ∀ i, i ≠ k → q i = p i) : ∀ n, (List.range n).countP q + (if k < n then 1 else 0) = (List.range n).countP p := by
  intro n
  induction n with
  | zero => simp
  | succ n ih =>
    rw [List.range_succ, List.countP_append, List.countP_append, ← ih]
    simp only [List.countP_cons, List.countP_nil, Nat.zero_add]
    by_cases e : n = k
    · subst e
      rw [hp, hq, if_neg (show ¬ n < n by omega), if_pos (show n < n + 1 by omega)]
      simp
    · rw [he n e]
      by_cases hkn : k < n
      · rw [if_pos hkn, if_pos (show k < n + 1 by omega)]; omega
      · rw [if_neg hkn, if_neg (show ¬ k < n + 1 by omega)]; omega
theorem undone_set (listed : Array Bool) (k : Nat) (hk : listed.getD k true = false) (n : Nat) : undone (listed.setIfInBounds k true) n + (if k < n then 1 else 0) = undone listed n := by
  refine countP_flip _ _ k (by rw [hk]; rfl) (by rw [getD_set_self]; rfl) (fun i hi => ?_) n
  simp only [Array.getD_eq_getD_getElem?]
  rw [Array.getElem?_setIfInBounds_ne (Ne.symm hi)]
theorem undone_zero (listed : Array Bool) (n : Nat) (h : undone listed n = 0) : ∀ i, i < n → listed.getD i true = true := by
  intro i hi
  unfold undone at h
  rw [List.countP_eq_zero] at h
  have := h i (List.mem_range.2 hi)
  simpa using this

theorem flowForm_deps (h : flowForm ops = true) {k : Nat} (hk : k < ops.size) : (∀ j ∈ depsOf ops k, j < k) ∧ (∃ d, dstOf ops k = some d) ∧ ∀ i, i < ops.size → i ≠ k → dstOf ops i ≠ dstOf ops k := by
  unfold flowForm at h
  rw [List.all_eq_true] at h
  have h1 := h k (List.mem_range.2 hk)
  simp only [Bool.and_eq_true, List.all_eq_true, decide_eq_true_eq] at h1
  obtain ⟨⟨h2, h3⟩, h4⟩ := h1
  refine ⟨h2, Option.isSome_iff_exists.1 h3, fun i hi hne he => ?_⟩
  have h5 := h4 i (List.mem_range.2 hi)
  simp [hne, he] at h5

theorem ready_iff (listed : Array Bool) (k : Nat) : k ∈ Region.ready .any ops listed ↔ k < ops.size ∧ listed.getD k true = false ∧ ∀ j ∈ depsOf ops k, listed.getD j false = true := by
  unfold Region.ready
  rw [List.mem_filter, List.mem_range]
  refine and_congr_right fun hk => ?_
  have ho : ops[k]? = some ops[k] := Array.getElem?_eq_getElem hk
  rw [ho]
  unfold depsOf
  rw [ho]
  simp only [Option.map_some, Option.getD_some, Bool.and_eq_true, Bool.not_eq_true', Array.all_eq_true', List.mem_map, List.mem_filter, Array.mem_toList_iff, Bool.or_eq_true]
  refine and_congr_right fun _ => ⟨?_, ?_⟩
  · rintro h j ⟨e, ⟨he, hb⟩, rfl⟩
    have := h e he
    rcases this with h1 | h1
    · rw [hb] at h1; cases h1
    · exact h1
  · intro h e he
    cases hb : Region.binds .any e
    · exact .inl rfl
    · exact .inr (h _ ⟨e, ⟨he, hb⟩, rfl⟩)

theorem flow_any {F : Nat → Value → World → Prop} {a0 : Act} {w0 : World} {Q : Exit → Act → World → Prop} (hform : flowForm ops = true) (hbound : ∀ k d, k < ops.size → dstOf ops k = some d → d < a0.tmps.size)
    (hstable : ∀ i v w w', i < ops.size → Below w.heap.size w w' → F i v w → F i v w') (steps : ∀ k, k < ops.size → StepOk P ops F a0 w0 k)
    (fin : ∀ a w, Below w0.heap.size w0 w → a.defers = a0.defers → a.tmps.size = a0.tmps.size → (∀ s, (∀ i, i < ops.size → dstOf ops i ≠ some s) → a.tmps[s]?.getD undef = a0.tmps[s]?.getD undef) →
      (∀ i d, i < ops.size → dstOf ops i = some d → F i (a.tmps[d]?.getD undef) w) → Q .normal a w) :
    ∀ fuel listed a w, undone listed ops.size ≤ fuel → Flow ops F a0 w0 listed a w → wpAny P .any ops Q fuel listed a w := by
  have final : ∀ listed a w, undone listed ops.size = 0 → Flow ops F a0 w0 listed a w → Q .normal a w := fun listed a w h0 hI => by
    have hall := undone_zero listed ops.size h0
    exact fin a w hI.below hI.defers hI.size (fun s hs => hI.base s fun i hi _ => hs i hi) (fun i d hi hd => hI.fact i d hi (hall i hi) hd)
  have getF : ∀ (listed : Array Bool) (j : Nat), listed.getD j false = true → listed.getD j true = true := fun listed j h => by
    simp only [Array.getD_eq_getD_getElem?] at h ⊢
    cases h2 : listed[j]? with
    | none => rfl
    | some b => rw [h2] at h; exact h
  have getT : ∀ (listed : Array Bool) (j : Nat), j < listed.size → listed.getD j true = true → listed.getD j false = true := fun listed j hj h => by
    simp only [Array.getD_eq_getD_getElem?, Array.getElem?_eq_getElem hj] at h ⊢
    exact h
  have noReady : ∀ listed a w, Flow ops F a0 w0 listed a w → Region.ready .any ops listed = [] → undone listed ops.size = 0 := fun listed a w hI hr => by
    have : ∀ i, i < ops.size → listed.getD i true = true := by
      intro i
      induction i using Nat.strongRecOn with
      | _ i ih =>
        intro hi
        cases hl : listed.getD i true with
        | true => rfl
        | false =>
          have hm : i ∈ Region.ready .any ops listed := (ready_iff listed i).2 ⟨hi, hl, fun j hj => by
            have hji := (flowForm_deps hform hi).1 j hj
            exact getT listed j (by rw [hI.lsize]; omega) (ih j hji (by omega))⟩
          rw [hr] at hm
          cases hm
    unfold undone
    rw [List.countP_eq_zero]
    intro i hi
    simp [this i (List.mem_range.1 hi)]
  intro fuel
  induction fuel with
  | zero =>
    intro listed a w hu hI
    refine ⟨?_, final listed a w (by omega) hI⟩
    rw [List.eq_nil_iff_forall_not_mem]
    intro k hk
    obtain ⟨hk1, hk2, _⟩ := (ready_iff listed k).1 hk
    rw [undone_zero listed ops.size (by omega) k hk1] at hk2
    cases hk2
  | succ fuel ih =>
    intro listed a w hu hI
    refine ⟨fun hr => final listed a w (noReady listed a w hI hr) hI, fun k hk => ?_⟩
    obtain ⟨hk1, hk2, hk3⟩ := (ready_iff listed k).1 hk
    obtain ⟨o, d, ho, hd, srcs, hs, hstep⟩ := steps k hk1
    have hdk : dstOf ops k = some d := by unfold dstOf; rw [ho]; exact hd
    have hun := undone_set listed k hk2 ops.size
    rw [if_pos hk1] at hun
    obtain ⟨f1, _, f3⟩ := flowForm_deps hform hk1
    -- the facts
    have hfacts : ∀ l : List (Tmp × Option Nat), l.all (srcOk ops k) = true → Facts F a0 a w l := by
      intro l
      induction l with
      | nil => intro _; trivial
      | cons x r ihr =>
        intro hl
        rw [List.all_cons, Bool.and_eq_true] at hl
        obtain ⟨t, s⟩ := x
        cases s with
        | some j =>
          have h1 := hl.1
          simp only [srcOk, Bool.and_eq_true, List.contains_iff_mem, beq_iff_eq] at h1
          exact ⟨hI.fact j t (by have := f1 j h1.1; omega) (getF listed j (hk3 j h1.1)) h1.2, ihr hl.2⟩
        | none =>
          refine ⟨hI.base t fun i hi hli hdi => ?_, ihr hl.2⟩
          have h1 := hl.1
          simp only [srcOk, List.all_eq_true, List.mem_range] at h1
          have h2 := h1 i hi
          simp only [Bool.or_eq_true, Bool.not_eq_true', beq_eq_false_iff_ne, beq_iff_eq, List.contains_iff_mem] at h2
          rcases h2 with (h2 | h2) | h2
          · exact h2 hdi
          · subst h2; rw [hli] at hk2; cases hk2
          · have := hI.closed i hi hli k h2
            rw [this] at hk2
            cases hk2
    have next : ∀ v w', Below w.heap.size w w' → F k v w' → wpAny P .any ops Q fuel (listed.setIfInBounds k true) ⟨a.tmps.setIfInBounds d v, a.defers⟩ w' := by
      intro v w' hb hF
      have hdsz : d < a.tmps.size := by rw [hI.size]; exact hbound k d hk1 hdk
      have e0 : (a.tmps.setIfInBounds d v)[d]?.getD undef = v := by rw [Array.getElem?_setIfInBounds]; simp [hdsz]
      have ene : ∀ s, s ≠ d → (a.tmps.setIfInBounds d v)[s]?.getD undef = a.tmps[s]?.getD undef := fun s hs => by rw [Array.getElem?_setIfInBounds_ne (Ne.symm hs)]
      refine ih _ _ _ (by omega) ⟨hI.below.trans (hb.mono hI.below.size), hI.defers, by simpa using hI.size, by simpa using hI.lsize, ?_, ?_, ?_⟩
      · intro i hi hl j hj
        rcases getD_set_true listed k i hl with rfl | hl
        · exact getD_set_of listed i j (getF listed j (hk3 j hj))
        · exact getD_set_of listed k j (hI.closed i hi hl j hj)
      · intro s hs
        have hsd : s ≠ d := fun e => by subst e; exact hs k hk1 (getD_set_self listed k) hdk
        exact (ene s hsd).trans (hI.base s fun i hi hl => hs i hi (getD_set_of listed k i hl))
      · intro i di hi hl hdi
        by_cases hik : i = k
        · subst hik
          rw [hdk] at hdi
          obtain rfl := Option.some.inj hdi
          show F i ((a.tmps.setIfInBounds d v)[d]?.getD undef) w'
          rw [e0]; exact hF
        · have hne : di ≠ d := fun e => by subst e; exact f3 i hi hik (hdi.trans hdk.symm)
          rcases getD_set_true listed k i hl with h | hl
          · exact absurd h hik
          · show F i ((a.tmps.setIfInBounds d v)[di]?.getD undef) w'
            rw [ene di hne]
            exact hstable i _ w w' hi hb (hI.fact i di hi hl hdi)
    have hst := hstep a w hI.below (hfacts srcs hs) _ next
    unfold wpOp
    rw [ho]
    show if Region.wanted o (yielded ops a.tmps) = true then _ else _
    by_cases hw : Region.wanted o (yielded ops a.tmps) = true
    · rw [if_pos hw] at hst ⊢
      exact .inl (Oper.wp_weak (fun _ _ h => h) hst)
    · rw [if_neg hw] at hst ⊢
      have e : a.put o.dst undef = ⟨a.tmps.setIfInBounds d undef, a.defers⟩ := by rw [hd]; rfl
      rw [e]
      exact hst

/-- THE LAW: a region that draws its order, by the facts of its operations. -/
theorem wp_flow {F : Nat → Value → World → Prop} {a0 : Act} {w0 : World} {Q : Exit → Act → World → Prop} {id : Nat} (hm : P.follows .mixedOrders = true) (hform : flowForm ops = true)
    (hbound : ((List.range ops.size).all fun k => match dstOf ops k with | some d => decide (d < a0.tmps.size) | none => true) = true)
    (hstable : ∀ i v w w', i < ops.size → Below w.heap.size w w' → F i v w → F i v w') (steps : ∀ k, k < ops.size → StepOk P ops F a0 w0.drew k)
    (fin : ∀ a w, Below w0.heap.size w0 w → a.defers = a0.defers → a.tmps.size = a0.tmps.size → (∀ s, (∀ i, i < ops.size → dstOf ops i ≠ some s) → a.tmps[s]?.getD undef = a0.tmps[s]?.getD undef) →
      (∀ i d, i < ops.size → dstOf ops i = some d → F i (a.tmps[d]?.getD undef) w) → Q .normal a w) : (Code.region id ops true).wp P Q a0 w0 := by
  refine wp_region_any hm ?_
  have hb : ∀ k d, k < ops.size → dstOf ops k = some d → d < a0.tmps.size := fun k d hk hd => by
    rw [List.all_eq_true] at hbound
    have := hbound k (List.mem_range.2 hk)
    rw [hd] at this
    exact of_decide_eq_true this
  have hrep : ∀ i, i < ops.size → (Array.replicate ops.size false).getD i true = true → False := fun i hi h => by
    simp [Array.getD_eq_getD_getElem?, hi] at h
  refine flow_any (w0 := w0.drew) hform hb hstable steps (fun a w hb2 => fin a w ((Below.refl _ _).drew.trans hb2)) ops.size _ a0 _ ?_ ⟨(Below.refl _ _), rfl, rfl, by simp, fun i hi h => (hrep i hi h).elim, fun _ _ => rfl, fun i _ hi h => (hrep i hi h).elim⟩
  unfold undone
  exact Nat.le_trans List.countP_le_length (by simp)
end
theorem arr_eq (T : Array Value) (n : Nat) (h : T.size = n) : T = ((List.range n).map fun i => T[i]?.getD undef).toArray := by
  subst h
  apply Array.ext
  · simp
  · intro i h1 h2
    simp [h1]

/-! ### Facts as a list -/
/-- A fact that stays true while memory only grows. -/
def Stab (f : Value → World → Prop) : Prop := ∀ v w w', Below w.heap.size w w' → f v w → f v w'
def StabAll : List (Value → World → Prop) → Prop
  | [] => True
  | f :: r => Stab f ∧ StabAll r
def FL (fs : List (Value → World → Prop)) (i : Nat) (v : Value) (w : World) : Prop := match fs[i]? with
  | some f => f v w
  | none => True
theorem FL.stable : ∀ (fs : List (Value → World → Prop)), StabAll fs → ∀ i v w w', Below w.heap.size w w' → FL fs i v w → FL fs i v w'
  | [], _, i, v, w, w', _, h => by simp [FL]
  | f :: r, hs, 0, v, w, w', hb, h => hs.1 v w w' hb h
  | f :: r, hs, i + 1, v, w, w', hb, h => by
    have := FL.stable r hs.2 i v w w' hb
    simpa [FL] using this (by simpa [FL] using h)
theorem Stab.eq (c : Value) : Stab (fun v _ => v = c) := fun _ _ _ _ h => h
theorem Stab.any : Stab (fun _ _ => True) := fun _ _ _ _ h => h
/-- The value is a slice that reads the bytes l, n of them. -/
def IsB (n : Nat) (l : List UInt8) (v : Value) (w : World) : Prop := ∃ A c, v = .slice A n c ∧ Rd w A n l ∧ n ≤ c ∧ c ≤ maxLen
theorem Stab.b (n : Nat) (l : List UInt8) : Stab (IsB n l) := fun _ _ _ hb ⟨A, c, e, hR, hn, hm⟩ => ⟨A, c, e, hR.below hb, hn, hm⟩
theorem IsB.of {T : TypeId} {B : Nat} {w : World} {v : Value} {l : List UInt8} (h : Fresh T B w v l) {n : Nat} (hn : l.length = n) : IsB n l v w := by
  obtain ⟨A, c, e, hR, _, h1, h2⟩ := h.rdn n hn
  exact ⟨A, c, e, hR, h1, h2⟩
theorem wp_flows {P : Program} {ops : Array Oper} (fs : List (Value → World → Prop)) {a0 : Act} {w0 : World} {Q : Exit → Act → World → Prop} {id : Nat} (hm : P.follows .mixedOrders = true) (hst : StabAll fs) (hform : flowForm ops = true)
    (hbound : ((List.range ops.size).all fun k => match dstOf ops k with | some d => decide (d < a0.tmps.size) | none => true) = true)
    (steps : ∀ k, k < ops.size → StepOk P ops (FL fs) a0 w0.drew k)
    (fin : ∀ a w, Below w0.heap.size w0 w → a.defers = a0.defers → a.tmps.size = a0.tmps.size → (∀ s, (∀ i, i < ops.size → dstOf ops i ≠ some s) → a.tmps[s]?.getD undef = a0.tmps[s]?.getD undef) →
      (∀ i d, i < ops.size → dstOf ops i = some d → FL fs i (a.tmps[d]?.getD undef) w) → Q .normal a w) : (Code.region id ops true).wp P Q a0 w0 :=
  wp_flow hm hform hbound (fun i v w w' _ => FL.stable fs hst i v w w') steps fin
theorem not_dst {ops : Array Oper} {s : Nat} (h : ((List.range ops.size).all fun i => !(dstOf ops i == some s)) = true) : ∀ i, i < ops.size → dstOf ops i ≠ some s := fun i hi he => by
  rw [List.all_eq_true] at h
  have := h i (List.mem_range.2 hi)
  simp [he] at this
/-- The frame behind a region: only what its operations write is another one. -/
theorem set_all (g : Nat → Value) : ∀ (D : List Nat) (b : Array Value) (s : Nat), (D.foldl (fun a d => a.setIfInBounds d (g d)) b)[s]? = if s ∈ D ∧ s < b.size then some (g s) else b[s]?
  | [], b, s => by simp
  | d :: D, b, s => by
    rw [List.foldl_cons, set_all g D, Array.size_setIfInBounds, Array.getElem?_setIfInBounds]
    by_cases h1 : s ∈ D ∧ s < b.size
    · rw [if_pos h1, if_pos ⟨List.mem_cons_of_mem _ h1.1, h1.2⟩]
    · rw [if_neg h1]
      by_cases h2 : d = s
      · subst h2
        rw [if_pos rfl]
        by_cases h3 : d < b.size
        · rw [if_pos h3, if_pos ⟨List.mem_cons_self, h3⟩]
        · rw [if_neg h3, if_neg (fun h => h3 h.2), Array.getElem?_eq_none (by omega)]
      · rw [if_neg h2, if_neg]
        intro h
        rcases List.mem_cons.1 h.1 with h3 | h3
        · exact h2 h3.symm
        · exact h1 ⟨h3, h.2⟩
theorem frame_back {ops : Array Oper} (T : Array Value) {base : Array Value} (D : List Nat) (hb : ∀ s, (∀ i, i < ops.size → dstOf ops i ≠ some s) → T[s]?.getD undef = base[s]?.getD undef) (hs : T.size = base.size) (hD : ((List.range ops.size).all fun i => match dstOf ops i with | some d => D.contains d | none => true) = true) :
    T = D.foldl (fun a d => a.setIfInBounds d (T[d]?.getD undef)) base := by
  apply Array.ext_getElem?
  intro s
  rw [set_all]
  by_cases h : s < base.size
  · have hT : T[s]? = some (T[s]?.getD undef) := by rw [Array.getElem?_eq_getElem (by omega)]; rfl
    by_cases h1 : s ∈ D
    · rw [if_pos ⟨h1, h⟩]; exact hT
    · rw [if_neg (fun x => h1 x.1), hT, hb s ?_, Array.getElem?_eq_getElem h]; rfl
      intro i hi he
      rw [List.all_eq_true] at hD
      have := hD i (List.mem_range.2 hi)
      rw [he] at this
      simp at this
      exact h1 this
  · rw [if_neg (fun x => h x.2), Array.getElem?_eq_none (by omega), Array.getElem?_eq_none (by omega)]
end Go.Proofs.Ytidlcplamgajpaa
