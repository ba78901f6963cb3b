/- A region that draws its order: memory grows, or changes in a way that is told by a relation; the chain's state knows all values that the chain's operations gave. No program in sight. -/
import Derived.Test.YthepgnankelmeaaFlx
namespace Go.Proofs.Ythepgnankelmeaa
open Go.RowKit

/-- How memory may change. -/
structure KRel (Kp : World → World → Prop) : Prop where
  refl : ∀ w, Kp w w
  trans : ∀ a b c, Kp a b → Kp b c → Kp a c
  below : ∀ w w', Below w.heap.size w w' → Kp w w'
def StabK (Kp : World → World → Prop) (f : Value → World → Prop) : Prop := ∀ v w w', Kp w w' → f v w → f v w'
def StabAllK (Kp : World → World → Prop) : List (Value → World → Prop) → Prop
  | [] => True
  | f :: r => StabK Kp f ∧ StabAllK Kp r
theorem FL.stableK {Kp : World → World → Prop} : ∀ (fs : List (Value → World → Prop)), StabAllK Kp fs → ∀ i v w w', Kp w w' → FL fs i v w → FL fs i v w'
  | [], _, i, v, w, w', _, h => by simp [FL]
  | f :: r, hs, 0, v, w, w', hb, h => hs.1 v w w' hb h
  | f :: r, hs, i + 1, v, w, w', hb, h => by
    have := FL.stableK r hs.2 i v w w' hb
    simpa [FL] using this (by simpa [FL] using h)
theorem StabK.eq (Kp : World → World → Prop) (c : Value) : StabK Kp (fun v _ => v = c) := fun _ _ _ _ h => h
theorem StabK.any (Kp : World → World → Prop) : StabK Kp (fun _ _ => True) := fun _ _ _ _ h => h

section
variable {P : Program} {ops : Array Oper}
/-- The values that the chain's operations gave. -/
def Lasts (ops : Array Oper) (W : List Nat) (a : Act) (us : List Value) : Prop := ∀ (j q d : Nat) (u : Value), W[j]? = some q → us[j]? = some u → dstOf ops q = some d → a.tmps[d]?.getD undef = u
/-- A step: in whatever frame and world meet its facts. At a changing operation (c: its place in the chain) the chain's state is known, and it goes on; at others memory only grows. -/
def StepZ (P : Program) (ops : Array Oper) (F : Nat → Value → World → Prop) (Kp : World → World → Prop) (Inv : List Value → World → Prop) (W : List Nat) (a0 : Act) (w0 : World) (k : Nat) : Prop :=
  ∃ o, ops[k]? = some o ∧ ∃ srcs : List (Tmp × Option Nat), srcs.all (srcOk ops k) = true ∧
    ∀ a w us, Kp w0 w → Facts F a0 a w srcs → (∀ i, W[i]? = some k → us.length = i ∧ Inv us w ∧ Lasts ops W a us) → (∀ j q, W[j]? = some q → dep2 ops q k = true → ∃ us, us.length ≤ j ∧ Inv us w) → ∀ K : Act → World → Prop,
      (∀ v w', (if k ∈ W then Kp w w' ∧ Inv (us ++ [v]) w' else Below w.heap.size w w') → F k v w' → K (a.put o.dst v) w') →
      if Region.wanted o (yielded ops a.tmps) = true then Oper.wp P o a w K (fun _ _ _ => False) else K (a.put o.dst undef) w

/-- What holds under way. -/
structure Flz (ops : Array Oper) (F : Nat → Value → World → Prop) (Kp : World → World → Prop) (Inv : List Value → World → Prop) (W : List Nat) (a0 : Act) (w0 : World) (listed : Array Bool) (a : Act) (w : World) : Prop where
  kept : Kp w0 w
  inv : ∃ us : List Value, us.length = (W.countP fun k => listed.getD k true) ∧ Inv us w ∧ Lasts ops W a us
  defers : a.defers = a0.defers
  size : a.tmps.size = a0.tmps.size
  lsize : listed.size = ops.size
  closed : ∀ i, i < ops.size → listed.getD i true = true → ∀ j ∈ depsOf ops i, listed.getD j true = true
  base : ∀ s, (∀ i, i < ops.size → listed.getD i true = true → dstOf ops i ≠ some s) → a.tmps[s]?.getD undef = a0.tmps[s]?.getD undef
  fact : ∀ i d, i < ops.size → listed.getD i true = true → dstOf ops i = some d → F i (a.tmps[d]?.getD undef) w

theorem flz_any {F : Nat → Value → World → Prop} {Kp : World → World → Prop} (hK : KRel Kp) {Inv : List Value → World → Prop} {W : List Nat} {a0 : Act} {w0 : World} {Q : Exit → Act → World → Prop} (hform : flwForm ops = true) (hchain : chainOk ops W = true) (hW : ∀ k ∈ W, k < ops.size) (hbound : ∀ k d, k < ops.size → dstOf ops k = some d → d < a0.tmps.size)
    (hstable : ∀ i v w w', i < ops.size → Kp w w' → F i v w → F i v w') (hinv : ∀ us w w', Below w.heap.size w w' → Inv us w → Inv us w') (steps : ∀ k, k < ops.size → StepZ P ops F Kp Inv W a0 w0 k)
    (fin : ∀ a w, Kp w0 w → (∃ us : List Value, us.length = W.length ∧ Inv us w ∧ Lasts ops W a us) → a.defers = a0.defers → a.tmps.size = a0.tmps.size → (∀ s, (∀ i, i < ops.size → dstOf ops i ≠ some s) → a.tmps[s]?.getD undef = a0.tmps[s]?.getD undef) →
      (∀ i d, i < ops.size → dstOf ops i = some d → F i (a.tmps[d]?.getD undef) w) → Q .normal a w) :
    ∀ fuel listed a w, undone listed ops.size ≤ fuel → Flz ops F Kp Inv W a0 w0 listed a w → wpAny P .any ops Q fuel listed a w := by
  have hnodup := chain_nodup W hchain hW (fun k hk => (flwForm_deps hform hk).1)
  have final : ∀ listed a w, undone listed ops.size = 0 → Flz ops F Kp Inv W a0 w0 listed a w → Q .normal a w := fun listed a w h0 hI => by
    have hall := undone_zero listed ops.size h0
    refine fin a w hI.kept ?_ hI.defers hI.size (fun s hs => hI.base s fun i hi _ => hs i hi) (fun i d hi hd => hI.fact i d hi (hall i hi) hd)
    obtain ⟨u, h0, h1, h2⟩ := hI.inv
    rw [List.countP_eq_length.2 fun k hk => hall k (hW k hk)] at h0
    exact ⟨u, h0, h1, h2⟩
  have getF : ∀ (listed : Array Bool) (j : Nat), listed.getD j false = true → listed.getD j true = true := fun listed j h => by
    simp only [Array.getD_eq_getD_getElem?] at h ⊢
    cases h2 : listed[j]? with
    | none => rfl
    | some b => rw [h2] at h; exact h
  have getT : ∀ (listed : Array Bool) (j : Nat), j < listed.size → listed.getD j true = true → listed.getD j false = true := fun listed j hj h => by
    simp only [Array.getD_eq_getD_getElem?, Array.getElem?_eq_getElem hj] at h ⊢
    exact h
  have noReady : ∀ listed a w, Flz ops F Kp Inv W a0 w0 listed a w → Region.ready .any ops listed = [] → undone listed ops.size = 0 := fun listed a w hI hr => by
    have : ∀ i, i < ops.size → listed.getD i true = true := by
      intro i
      induction i using Nat.strongRecOn with
      | _ i ih =>
        intro hi
        cases hl : listed.getD i true with
        | true => rfl
        | false =>
          have hm : i ∈ Region.ready .any ops listed := (ready_iff listed i).2 ⟨hi, hl, fun j hj => by
            have hji := (flwForm_deps hform hi).1 j hj
            exact getT listed j (by rw [hI.lsize]; omega) (ih j hji (by omega))⟩
          rw [hr] at hm
          cases hm
    unfold undone
    rw [List.countP_eq_zero]
    intro i hi
    simp [this i (List.mem_range.1 hi)]
  intro fuel
  induction fuel with
  | zero =>
    intro listed a w hu hI
    refine ⟨?_, final listed a w (by omega) hI⟩
    rw [List.eq_nil_iff_forall_not_mem]
    intro k hk
    obtain ⟨hk1, hk2, _⟩ := (ready_iff listed k).1 hk
    rw [undone_zero listed ops.size (by omega) k hk1] at hk2
    cases hk2
  | succ fuel ih =>
    intro listed a w hu hI
    refine ⟨fun hr => final listed a w (noReady listed a w hI hr) hI, fun k hk => ?_⟩
    obtain ⟨hk1, hk2, hk3⟩ := (ready_iff listed k).1 hk
    obtain ⟨o, ho, srcs, hs, hstep⟩ := steps k hk1
    have hdk : dstOf ops k = o.dst := by unfold dstOf; rw [ho]; rfl
    have hun := undone_set listed k hk2 ops.size
    rw [if_pos hk1] at hun
    obtain ⟨f1, f3⟩ := flwForm_deps hform hk1
    -- the facts
    have hfacts : ∀ l : List (Tmp × Option Nat), l.all (srcOk ops k) = true → Facts F a0 a w l := by
      intro l
      induction l with
      | nil => intro _; trivial
      | cons x r ihr =>
        intro hl
        rw [List.all_cons, Bool.and_eq_true] at hl
        obtain ⟨t, s⟩ := x
        cases s with
        | some j =>
          have h1 := hl.1
          simp only [srcOk, Bool.and_eq_true, List.contains_iff_mem, beq_iff_eq] at h1
          exact ⟨hI.fact j t (by have := f1 j h1.1; omega) (getF listed j (hk3 j h1.1)) h1.2, ihr hl.2⟩
        | none =>
          refine ⟨hI.base t fun i hi hli hdi => ?_, ihr hl.2⟩
          have h1 := hl.1
          simp only [srcOk, List.all_eq_true, List.mem_range] at h1
          have h2 := h1 i hi
          simp only [Bool.or_eq_true, Bool.not_eq_true', beq_eq_false_iff_ne, beq_iff_eq, List.contains_iff_mem] at h2
          rcases h2 with (h2 | h2) | h2
          · exact h2 hdi
          · subst h2; rw [hli] at hk2; cases hk2
          · have := hI.closed i hi hli k h2
            rw [this] at hk2
            cases hk2
    have hph : ∀ i, W[i]? = some k → (W.countP fun k => listed.getD k true) = i := fun i hi =>
      chain_at (ops := ops) (fun k => listed.getD k true) W i k hchain hW hI.closed hi hk2 (fun j hj => getF listed j (hk3 j hj))
    obtain ⟨us, hul, hus, hla⟩ := hI.inv
    have next : ∀ v w', (if k ∈ W then Kp w w' ∧ Inv (us ++ [v]) w' else Below w.heap.size w w') → F k v w' → wpAny P .any ops Q fuel (listed.setIfInBounds k true) (a.put o.dst v) w' := by
      intro v w' hkw hF
      obtain ⟨p1, p2, p3, p4⟩ := put_tmps a o.dst v
      have hkp : Kp w w' := by
        split at hkw
        · exact hkw.1
        · exact hK.below _ _ hkw
      have hiv : ∃ us : List Value, us.length = (W.countP fun j => (listed.setIfInBounds k true).getD j true) ∧ Inv us w' ∧ Lasts ops W (a.put o.dst v) us := by
        split at hkw
        · rename_i hm
          obtain ⟨i, hi⟩ := List.mem_iff_getElem?.1 hm
          have hci := hph i hi
          refine ⟨us ++ [v], ?_, hkw.2, fun j q d u hq hu hd => ?_⟩
          · rw [countP_next W listed k hnodup hm hk2, List.length_append, hul]
            rfl
          · have hqW : q ∈ W := List.mem_of_getElem? hq
            rcases Nat.lt_or_ge j us.length with hj | hj
            · rw [List.getElem?_append_left hj] at hu
              have hqk : q ≠ k := by
                intro e
                subst e
                have := (List.getElem?_inj (i := j) (j := i) (List.getElem?_eq_some_iff.1 hq).1 hnodup).1 (hq.trans hi.symm)
                omega
              rw [p3 d (fun e => f3 q d (hW q hqW) hqk (hdk.trans e) hd)]
              exact hla j q d u hq hu hd
            · rw [List.getElem?_append_right hj] at hu
              have hj0 : j = us.length := by
                have h_ := (List.getElem?_eq_some_iff.1 hu).1
                simp at h_
                omega
              subst hj0
              rw [Nat.sub_self] at hu
              simp at hu
              subst hu
              rw [hul, hci, hi] at hq
              injection hq with hq
              subst hq
              exact p4 d (hdk.symm.trans hd) (by rw [hI.size]; exact hbound k d hk1 hd)
        · rename_i hm
          rw [countP_same W listed k hm]
          refine ⟨us, hul, hinv _ _ _ hkw hus, fun j q d u hq hu hd => ?_⟩
          have hqW : q ∈ W := List.mem_of_getElem? hq
          have hqk : q ≠ k := fun e => hm (e ▸ hqW)
          rw [p3 d (fun e => f3 q d (hW q hqW) hqk (hdk.trans e) hd)]
          exact hla j q d u hq hu hd
      refine ih _ _ _ (by omega) ⟨hK.trans _ _ _ hI.kept hkp, hiv, p1.trans hI.defers, p2.trans hI.size, by simpa using hI.lsize, ?_, ?_, ?_⟩
      · intro i hi hl j hj
        rcases getD_set_true listed k i hl with rfl | hl
        · exact getD_set_of listed i j (getF listed j (hk3 j hj))
        · exact getD_set_of listed k j (hI.closed i hi hl j hj)
      · intro s hs
        have hsd : o.dst ≠ some s := fun e => hs k hk1 (getD_set_self listed k) (hdk.trans e)
        exact (p3 s hsd).trans (hI.base s fun i hi hl => hs i hi (getD_set_of listed k i hl))
      · intro i di hi hl hdi
        by_cases hik : i = k
        · subst hik
          rw [p4 di (hdk.symm.trans hdi) (by rw [hI.size]; exact hbound i di hi hdi)]
          exact hF
        · have hne : o.dst ≠ some di := fun e => f3 i di hi hik (hdk.trans e) hdi
          rcases getD_set_true listed k i hl with h | hl
          · exact absurd h hik
          · rw [p3 di hne]
            exact hstable i _ w w' hi hkp (hI.fact i di hi hl hdi)
    have hzero : ∀ j q, W[j]? = some q → dep2 ops q k = true → ∃ us, us.length ≤ j ∧ Inv us w := fun j q hq hd => by
      have hqW : q ∈ W := List.mem_of_getElem? hq
      have hql : listed.getD q true = false := by
        cases hx : listed.getD q true with
        | false => rfl
        | true =>
          unfold dep2 at hd
          rw [Bool.or_eq_true] at hd
          rcases hd with hd | hd
          · rw [hI.closed q (hW q hqW) hx k (by simpa using hd)] at hk2; cases hk2
          · obtain ⟨j, hj, hjk⟩ := List.any_eq_true.1 hd
            have hjq := (flwForm_deps hform (hW q hqW)).1 j hj
            have h1 := hI.closed q (hW q hqW) hx j hj
            rw [hI.closed j (Nat.lt_trans hjq (hW q hqW)) h1 k (by simpa using hjk)] at hk2
            cases hk2
      exact ⟨us, by rw [hul]; exact chain_le (ops := ops) (fun k => listed.getD k true) W j q hchain hW hI.closed hq hql, hus⟩
    have hst := hstep a w us hI.kept (hfacts srcs hs) (fun i hi => ⟨by rw [hul, hph i hi], hus, hla⟩) hzero _ next
    unfold wpOp
    rw [ho]
    show if Region.wanted o (yielded ops a.tmps) = true then _ else _
    by_cases hw : Region.wanted o (yielded ops a.tmps) = true
    · rw [if_pos hw] at hst ⊢
      exact .inl (Oper.wp_weak (fun _ _ h => h) hst)
    · rw [if_neg hw] at hst ⊢
      exact hst

/-- THE LAW. W: the changing operations, in order. Inv: what holds of the world behind so many of them. -/
theorem wp_flz (fs : List (Value → World → Prop)) (Kp : World → World → Prop) (Inv : List Value → World → Prop) (W : List Nat) {a0 : Act} {w0 : World} {Q : Exit → Act → World → Prop} {id : Nat} (hm : P.follows .mixedOrders = true) (hK : KRel Kp) (hst : StabAllK Kp fs) (hinv : ∀ us w w', Below w.heap.size w w' → Inv us w → Inv us w') (h0 : Inv [] w0)
    (hform : flwForm ops = true) (hchain : chainOk ops W = true) (hW : W.all (fun k => decide (k < ops.size)) = true)
    (hbound : ((List.range ops.size).all fun k => match dstOf ops k with | some d => decide (d < a0.tmps.size) | none => true) = true)
    (steps : ∀ k, k < ops.size → StepZ P ops (FL fs) Kp Inv W a0 w0.drew k)
    (fin : ∀ a w, Kp w0 w → (∃ us : List Value, us.length = W.length ∧ Inv us w ∧ Lasts ops W a us) → a.defers = a0.defers → a.tmps.size = a0.tmps.size → (∀ s, (∀ i, i < ops.size → dstOf ops i ≠ some s) → a.tmps[s]?.getD undef = a0.tmps[s]?.getD undef) →
      (∀ i d, i < ops.size → dstOf ops i = some d → FL fs i (a.tmps[d]?.getD undef) w) → Q .normal a w) : (Code.region id ops true).wp P Q a0 w0 := by
  refine wp_region_any hm ?_
  have hb : ∀ k d, k < ops.size → dstOf ops k = some d → d < a0.tmps.size := fun k d hk hd => by
    rw [List.all_eq_true] at hbound
    have := hbound k (List.mem_range.2 hk)
    rw [hd] at this
    exact of_decide_eq_true this
  have hrep : ∀ i, i < ops.size → (Array.replicate ops.size false).getD i true = true → False := fun i hi h => by
    simp [Array.getD_eq_getD_getElem?, hi] at h
  have hWs : ∀ k ∈ W, k < ops.size := fun k hk => of_decide_eq_true (List.all_eq_true.1 hW k hk)
  refine flz_any hK (w0 := w0.drew) hform hchain hWs hb (fun i v w w' _ => FL.stableK fs hst i v w w') hinv steps (fun a w hb2 => fin a w (hK.trans _ _ _ (hK.below _ _ ((Below.refl _ w0).drew)) hb2)) ops.size _ a0 _ ?_
    ⟨hK.refl _, ?_, rfl, rfl, by simp, fun i hi h => (hrep i hi h).elim, fun _ _ => rfl, fun i _ hi h => (hrep i hi h).elim⟩
  · unfold undone
    exact Nat.le_trans List.countP_le_length (by simp)
  · rw [List.countP_eq_zero.2 fun k hk h => hrep k (hWs k hk) h]
    exact ⟨[], rfl, hinv _ _ _ ((Below.refl _ _).drew) h0, fun j q d u _ hu => by simp at hu⟩

/-- The rules for a step: a plain one that changes nothing, .. -/
theorem StepZ.plain {F : Nat → Value → World → Prop} {Kp : World → World → Prop} {Inv : List Value → World → Prop} {W : List Nat} {a0 : Act} {w0 : World} {k : Nat} (o : Oper) (ho : ops[k]? = some o) (hg : o.guard = none) (hW : W.contains k = false) (srcs : List (Tmp × Option Nat)) (hs : srcs.all (srcOk ops k) = true)
    (h : ∀ a w, Kp w0 w → (∀ j q, W[j]? = some q → dep2 ops q k = true → ∃ us, us.length ≤ j ∧ Inv us w) → Facts F a0 a w srcs → ∀ K : Act → World → Prop, (∀ v w', Below w.heap.size w w' → F k v w' → K (a.put o.dst v) w') → Oper.wp P o a w K (fun _ _ _ => False)) : StepZ P ops F Kp Inv W a0 w0 k :=
  ⟨o, ho, srcs, hs, fun a w _ hb hf _ hz K hK => by
    rw [if_pos (by simp [Region.wanted, hg])]
    exact h a w hb hz hf K fun v w' h1 h2 => hK v w' (by rw [if_neg (by simpa using hW)]; exact h1) h2⟩
/-- .. one that changes: number i of the chain, .. -/
theorem StepZ.chain {F : Nat → Value → World → Prop} {Kp : World → World → Prop} {Inv : List Value → World → Prop} {W : List Nat} {a0 : Act} {w0 : World} {k : Nat} (i : Nat) (o : Oper) (ho : ops[k]? = some o) (hg : o.guard = none) (hW : W[i]? = some k) (srcs : List (Tmp × Option Nat)) (hs : srcs.all (srcOk ops k) = true)
    (h : ∀ a w us, Kp w0 w → us.length = i → Inv us w → Lasts ops W a us → Facts F a0 a w srcs → ∀ K : Act → World → Prop, (∀ v w', Kp w w' → Inv (us ++ [v]) w' → F k v w' → K (a.put o.dst v) w') → Oper.wp P o a w K (fun _ _ _ => False)) : StepZ P ops F Kp Inv W a0 w0 k :=
  ⟨o, ho, srcs, hs, fun a w us hb hf hi _ K hK => by
    rw [if_pos (by simp [Region.wanted, hg])]
    obtain ⟨h1, h2, h3⟩ := hi i hW
    exact h a w us hb h1 h2 h3 hf K fun v w' g1 g2 g3 => hK v w' (by rw [if_pos (List.mem_of_getElem? hW)]; exact ⟨g1, g2⟩) g3⟩
/-- .. a guarded one that runs, .. -/
theorem StepZ.yes {F : Nat → Value → World → Prop} {Kp : World → World → Prop} {Inv : List Value → World → Prop} {W : List Nat} {a0 : Act} {w0 : World} {k j t : Nat} {b : Bool} (o : Oper) (ho : ops[k]? = some o) (hg : o.guard = some (j, b)) (hW : W.contains k = false) (hj : dstOf ops j = some t) (hjb : ∀ v w, F j v w → v = .bool b)
    (srcs : List (Tmp × Option Nat)) (hs : ((t, some j) :: srcs).all (srcOk ops k) = true)
    (h : ∀ a w, Kp w0 w → (∀ j q, W[j]? = some q → dep2 ops q k = true → ∃ us, us.length ≤ j ∧ Inv us w) → Facts F a0 a w srcs → ∀ K : Act → World → Prop, (∀ v w', Below w.heap.size w w' → F k v w' → K (a.put o.dst v) w') → Oper.wp P o a w K (fun _ _ _ => False)) : StepZ P ops F Kp Inv W a0 w0 k :=
  ⟨o, ho, (t, some j) :: srcs, hs, fun a w _ hb hf _ hz K hK => by
    rw [if_pos (by simp [Region.wanted, hg, yielded_of hj (hjb _ _ hf.1)])]
    exact h a w hb hz hf.2 K fun v w' h1 h2 => hK v w' (by rw [if_neg (by simpa using hW)]; exact h1) h2⟩
/-- .. a guarded one that does not run. -/
theorem StepZ.no {F : Nat → Value → World → Prop} {Kp : World → World → Prop} {Inv : List Value → World → Prop} {W : List Nat} {a0 : Act} {w0 : World} {k j t : Nat} {b c : Bool} (o : Oper) (ho : ops[k]? = some o) (hg : o.guard = some (j, b)) (hW : W.contains k = false) (hj : dstOf ops j = some t) (hjb : ∀ v w, F j v w → v = .bool c) (hbc : c ≠ b)
    (hs : [(t, some j)].all (srcOk ops k) = true) (hF : ∀ w, F k undef w) : StepZ P ops F Kp Inv W a0 w0 k :=
  ⟨o, ho, [(t, some j)], hs, fun a w _ hb hf _ _ K hK => by
    rw [if_neg (by simp [Region.wanted, hg, yielded_of hj (hjb _ _ hf.1), hbc])]
    exact hK undef w (by rw [if_neg (by simpa using hW)]; exact Below.refl _ _) (hF w)⟩
end
theorem lenz1 {us : List Value} (h : us.length = 1) : ∃ a, us = [a] := List.length_eq_one_iff.1 h
theorem lenz2 {us : List Value} (h : us.length = 2) : ∃ a b, us = [a, b] := by
  match us, h with
  | [a, b], _ => exact ⟨a, b, rfl⟩
theorem lenz3 {us : List Value} (h : us.length = 3) : ∃ a b c, us = [a, b, c] := by
  match us, h with
  | [a, b, c], _ => exact ⟨a, b, c, rfl⟩
theorem lenz4 {us : List Value} (h : us.length = 4) : ∃ a b c d, us = [a, b, c, d] := by
  match us, h with
  | [a, b, c, d], _ => exact ⟨a, b, c, d, rfl⟩
/-- Memory grows, and of what stood blocks of a kind alone change, none of them below a number. -/
structure PKept (B : Nat) (Pd : Obj → Prop) (w w' : World) : Prop where
  os : w'.os = w.os
  tape : w'.tape = w.tape
  output : w'.output = w.output
  size : w.heap.size ≤ w'.heap.size
  block : ∀ k o, w.heap[k]? = some o → (k < B ∨ ¬ Pd o) → w'.heap[k]? = some o
section
variable {B : Nat} {Pd : Obj → Prop} {w w' : World}
theorem PKept.rel (B : Nat) (Pd : Obj → Prop) : KRel (PKept B Pd) where
  refl w := ⟨rfl, rfl, rfl, Nat.le_refl _, fun _ _ h _ => h⟩
  trans a b c h k := ⟨k.os.trans h.os, k.tape.trans h.tape, k.output.trans h.output, Nat.le_trans h.size k.size, fun i o hi hn => k.block i o (h.block i o hi hn) hn⟩
  below w w' h := ⟨h.os, h.tape, h.output, h.size, fun k o hk _ => by
    have hlt : k < w.heap.size := (Array.getElem?_eq_some_iff.1 hk).1
    rw [h.block k hlt]
    exact hk⟩
theorem PKept.setCell {g : Nat} {o : Obj} (hg : B ≤ g) (ho : w.heap[g]? = some o) (hp : Pd o) (i : Nat) (u : Value) : PKept B Pd w (w.setCell ⟨g, i, none⟩ u) :=
  ⟨rfl, rfl, rfl, by simp [World.setCell], fun k o' hk hn => by
    have hne : k ≠ g := by
      intro e
      subst e
      rw [ho] at hk
      injection hk with hk
      subst hk
      rcases hn with hn | hn
      · omega
      · exact hn hp
    rw [Below.heap_setCell w ⟨g, i, none⟩ u k hne]
    exact hk⟩
theorem PKept.toBelow (h : PKept B Pd w w') (hB : B ≤ w.heap.size) : Below B w w' :=
  ⟨h.os, h.tape, h.output, h.size, fun k hk => by
    have hlt : k < w.heap.size := by omega
    have h_ := h.block k _ (Array.getElem?_eq_getElem hlt) (.inl hk)
    rw [h_, Array.getElem?_eq_getElem hlt]⟩
end
end Go.Proofs.Ythepgnankelmeaa
