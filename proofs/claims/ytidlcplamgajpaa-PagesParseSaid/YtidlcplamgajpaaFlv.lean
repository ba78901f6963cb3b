/- A region that draws its order and whose operations change named blocks, the chain's state knowing the value that the last changing operation gave. No program in sight. -/
import Derived.Test.YtidlcplamgajpaaFlw
namespace Go.Proofs.Ytidlcplamgajpaa
open Go.RowKit

section
variable {P : Program} {ops : Array Oper}
/-- Does q wait for k, at one remove or at two? -/
def dep2 (ops : Array Oper) (q k : Nat) : Bool := (depsOf ops q).contains k || (depsOf ops q).any fun j => (depsOf ops j).contains k
/-- The value that the chain's operation ahead of place i gave. -/
def Last (ops : Array Oper) (W : List Nat) (a : Act) (i : Nat) (u : Value) : Prop := ∀ j q d, i = j + 1 → W[j]? = some q → dstOf ops q = some d → a.tmps[d]?.getD undef = u
/-- A step: in whatever frame and world meet its facts. At a changing operation (c: its place in the chain) the chain's state is known, and it goes on; at others memory only grows. -/
def StepV (P : Program) (ops : Array Oper) (F : Nat → Value → World → Prop) (gs : List Nat) (Inv : Nat → Value → World → Prop) (W : List Nat) (a0 : Act) (w0 : World) (k : Nat) : Prop :=
  ∃ o, ops[k]? = some o ∧ ∃ srcs : List (Tmp × Option Nat), srcs.all (srcOk ops k) = true ∧
    ∀ a w, Kept gs w0 w → Facts F a0 a w srcs → (∀ i, W[i]? = some k → ∃ u, Inv i u w ∧ Last ops W a i u) → (∀ q, W[0]? = some q → dep2 ops q k = true → ∃ u, Inv 0 u w) → ∀ K : Act → World → Prop,
      (∀ v w', (if k ∈ W then Kept gs w w' ∧ ∀ i, W[i]? = some k → Inv (i + 1) v w' else Below w.heap.size w w') → F k v w' → K (a.put o.dst v) w') →
      if Region.wanted o (yielded ops a.tmps) = true then Oper.wp P o a w K (fun _ _ _ => False) else K (a.put o.dst undef) w

/-- What holds under way. -/
structure Flv (ops : Array Oper) (F : Nat → Value → World → Prop) (gs : List Nat) (Inv : Nat → Value → World → Prop) (W : List Nat) (a0 : Act) (w0 : World) (listed : Array Bool) (a : Act) (w : World) : Prop where
  kept : Kept gs w0 w
  inv : ∃ u, Inv (W.countP fun k => listed.getD k true) u w ∧ Last ops W a (W.countP fun k => listed.getD k true) u
  defers : a.defers = a0.defers
  size : a.tmps.size = a0.tmps.size
  lsize : listed.size = ops.size
  closed : ∀ i, i < ops.size → listed.getD i true = true → ∀ j ∈ depsOf ops i, listed.getD j true = true
  base : ∀ s, (∀ i, i < ops.size → listed.getD i true = true → dstOf ops i ≠ some s) → a.tmps[s]?.getD undef = a0.tmps[s]?.getD undef
  fact : ∀ i d, i < ops.size → listed.getD i true = true → dstOf ops i = some d → F i (a.tmps[d]?.getD undef) w

theorem chain_zero (p : Nat → Bool) : ∀ (l : List Nat) (z : Nat), chainOk ops (z :: l) = true → (∀ k ∈ z :: l, k < ops.size) → (∀ i, i < ops.size → p i = true → ∀ j ∈ depsOf ops i, p j = true) → p z = false → (z :: l).countP p = 0
  | [], z, _, _, _, hz => by simp [hz]
  | u :: l, z, hc, hs, hcl, hz => by
    simp only [chainOk, Bool.and_eq_true, List.contains_iff_mem] at hc
    have hu : p u = false := by
      cases hu : p u
      · rfl
      · rw [hcl u (hs u (by simp)) hu z hc.1] at hz; cases hz
    rw [List.countP_cons_of_neg (by simp [hz])]
    exact chain_zero p l u hc.2 (fun k hk => hs k (by simp at hk ⊢; right; exact hk)) hcl hu
theorem flv_any {F : Nat → Value → World → Prop} {gs : List Nat} {Inv : Nat → Value → World → Prop} {W : List Nat} {a0 : Act} {w0 : World} {Q : Exit → Act → World → Prop} (hform : flwForm ops = true) (hchain : chainOk ops W = true) (hW : ∀ k ∈ W, k < ops.size) (hbound : ∀ k d, k < ops.size → dstOf ops k = some d → d < a0.tmps.size)
    (hstable : ∀ i v w w', i < ops.size → Kept gs w w' → F i v w → F i v w') (hinv : ∀ i u w w', Below w.heap.size w w' → Inv i u w → Inv i u w') (steps : ∀ k, k < ops.size → StepV P ops F gs Inv W a0 w0 k)
    (fin : ∀ a w, Kept gs w0 w → (∃ u, Inv W.length u w ∧ Last ops W a W.length u) → a.defers = a0.defers → a.tmps.size = a0.tmps.size → (∀ s, (∀ i, i < ops.size → dstOf ops i ≠ some s) → a.tmps[s]?.getD undef = a0.tmps[s]?.getD undef) →
      (∀ i d, i < ops.size → dstOf ops i = some d → F i (a.tmps[d]?.getD undef) w) → Q .normal a w) :
    ∀ fuel listed a w, undone listed ops.size ≤ fuel → Flv ops F gs Inv W a0 w0 listed a w → wpAny P .any ops Q fuel listed a w := by
  have hnodup := chain_nodup W hchain hW (fun k hk => (flwForm_deps hform hk).1)
  have final : ∀ listed a w, undone listed ops.size = 0 → Flv ops F gs Inv W a0 w0 listed a w → Q .normal a w := fun listed a w h0 hI => by
    have hall := undone_zero listed ops.size h0
    refine fin a w hI.kept ?_ hI.defers hI.size (fun s hs => hI.base s fun i hi _ => hs i hi) (fun i d hi hd => hI.fact i d hi (hall i hi) hd)
    obtain ⟨u, h1, h2⟩ := hI.inv
    rw [List.countP_eq_length.2 fun k hk => hall k (hW k hk)] at h1 h2
    exact ⟨u, h1, h2⟩
  have getF : ∀ (listed : Array Bool) (j : Nat), listed.getD j false = true → listed.getD j true = true := fun listed j h => by
    simp only [Array.getD_eq_getD_getElem?] at h ⊢
    cases h2 : listed[j]? with
    | none => rfl
    | some b => rw [h2] at h; exact h
  have getT : ∀ (listed : Array Bool) (j : Nat), j < listed.size → listed.getD j true = true → listed.getD j false = true := fun listed j hj h => by
    simp only [Array.getD_eq_getD_getElem?, Array.getElem?_eq_getElem hj] at h ⊢
    exact h
  have noReady : ∀ listed a w, Flv ops F gs Inv W a0 w0 listed a w → Region.ready .any ops listed = [] → undone listed ops.size = 0 := fun listed a w hI hr => by
    have : ∀ i, i < ops.size → listed.getD i true = true := by
      intro i
      induction i using Nat.strongRecOn with
      | _ i ih =>
        intro hi
        cases hl : listed.getD i true with
        | true => rfl
        | false =>
          have hm : i ∈ Region.ready .any ops listed := (ready_iff listed i).2 ⟨hi, hl, fun j hj => by
            have hji := (flwForm_deps hform hi).1 j hj
            exact getT listed j (by rw [hI.lsize]; omega) (ih j hji (by omega))⟩
          rw [hr] at hm
          cases hm
    unfold undone
    rw [List.countP_eq_zero]
    intro i hi
    simp [this i (List.mem_range.1 hi)]
  intro fuel
  induction fuel with
  | zero =>
    intro listed a w hu hI
    refine ⟨?_, final listed a w (by omega) hI⟩
    rw [List.eq_nil_iff_forall_not_mem]
    intro k hk
    obtain ⟨hk1, hk2, _⟩ := (ready_iff listed k).1 hk
    rw [undone_zero listed ops.size (by omega) k hk1] at hk2
    cases hk2
  | succ fuel ih =>
    intro listed a w hu hI
    refine ⟨fun hr => final listed a w (noReady listed a w hI hr) hI, fun k hk => ?_⟩
    obtain ⟨hk1, hk2, hk3⟩ := (ready_iff listed k).1 hk
    obtain ⟨o, ho, srcs, hs, hstep⟩ := steps k hk1
    have hdk : dstOf ops k = o.dst := by unfold dstOf; rw [ho]; rfl
    have hun := undone_set listed k hk2 ops.size
    rw [if_pos hk1] at hun
    obtain ⟨f1, f3⟩ := flwForm_deps hform hk1
    -- the facts
    have hfacts : ∀ l : List (Tmp × Option Nat), l.all (srcOk ops k) = true → Facts F a0 a w l := by
      intro l
      induction l with
      | nil => intro _; trivial
      | cons x r ihr =>
        intro hl
        rw [List.all_cons, Bool.and_eq_true] at hl
        obtain ⟨t, s⟩ := x
        cases s with
        | some j =>
          have h1 := hl.1
          simp only [srcOk, Bool.and_eq_true, List.contains_iff_mem, beq_iff_eq] at h1
          exact ⟨hI.fact j t (by have := f1 j h1.1; omega) (getF listed j (hk3 j h1.1)) h1.2, ihr hl.2⟩
        | none =>
          refine ⟨hI.base t fun i hi hli hdi => ?_, ihr hl.2⟩
          have h1 := hl.1
          simp only [srcOk, List.all_eq_true, List.mem_range] at h1
          have h2 := h1 i hi
          simp only [Bool.or_eq_true, Bool.not_eq_true', beq_eq_false_iff_ne, beq_iff_eq, List.contains_iff_mem] at h2
          rcases h2 with (h2 | h2) | h2
          · exact h2 hdi
          · subst h2; rw [hli] at hk2; cases hk2
          · have := hI.closed i hi hli k h2
            rw [this] at hk2
            cases hk2
    have hph : ∀ i, W[i]? = some k → (W.countP fun k => listed.getD k true) = i := fun i hi =>
      chain_at (ops := ops) (fun k => listed.getD k true) W i k hchain hW hI.closed hi hk2 (fun j hj => getF listed j (hk3 j hj))
    have next : ∀ v w', (if k ∈ W then Kept gs w w' ∧ ∀ i, W[i]? = some k → Inv (i + 1) v w' else Below w.heap.size w w') → F k v w' → wpAny P .any ops Q fuel (listed.setIfInBounds k true) (a.put o.dst v) w' := by
      intro v w' hkw hF
      obtain ⟨p1, p2, p3, p4⟩ := put_tmps a o.dst v
      have hkp : Kept gs w w' := by
        split at hkw
        · exact hkw.1
        · exact .of_below hkw
      have hiv : ∃ u, Inv (W.countP fun j => (listed.setIfInBounds k true).getD j true) u w' ∧ Last ops W (a.put o.dst v) (W.countP fun j => (listed.setIfInBounds k true).getD j true) u := by
        split at hkw
        · rename_i hm
          obtain ⟨i, hi⟩ := List.mem_iff_getElem?.1 hm
          rw [countP_next W listed k hnodup hm hk2, hph i hi]
          refine ⟨v, hkw.2 i hi, fun j q d hj hq hd => ?_⟩
          obtain rfl : j = i := by omega
          rw [hi] at hq
          injection hq with hq
          subst hq
          exact p4 d (hdk.symm.trans hd) (by rw [hI.size]; exact hbound k d hk1 hd)
        · rename_i hm
          rw [countP_same W listed k hm]
          obtain ⟨u, hu, hl⟩ := hI.inv
          refine ⟨u, hinv _ _ _ _ hkw hu, fun j q d hj hq hd => ?_⟩
          have hqW : q ∈ W := List.mem_of_getElem? hq
          have hqk : q ≠ k := fun e => hm (e ▸ hqW)
          rw [p3 d (fun e => f3 q d (hW q hqW) hqk (hdk.trans e) hd)]
          exact hl j q d hj hq hd
      refine ih _ _ _ (by omega) ⟨hI.kept.trans hkp, hiv, p1.trans hI.defers, p2.trans hI.size, by simpa using hI.lsize, ?_, ?_, ?_⟩
      · intro i hi hl j hj
        rcases getD_set_true listed k i hl with rfl | hl
        · exact getD_set_of listed i j (getF listed j (hk3 j hj))
        · exact getD_set_of listed k j (hI.closed i hi hl j hj)
      · intro s hs
        have hsd : o.dst ≠ some s := fun e => hs k hk1 (getD_set_self listed k) (hdk.trans e)
        exact (p3 s hsd).trans (hI.base s fun i hi hl => hs i hi (getD_set_of listed k i hl))
      · intro i di hi hl hdi
        by_cases hik : i = k
        · subst hik
          rw [p4 di (hdk.symm.trans hdi) (by rw [hI.size]; exact hbound i di hi hdi)]
          exact hF
        · have hne : o.dst ≠ some di := fun e => f3 i di hi hik (hdk.trans e) hdi
          rcases getD_set_true listed k i hl with h | hl
          · exact absurd h hik
          · rw [p3 di hne]
            exact hstable i _ w w' hi hkp (hI.fact i di hi hl hdi)
    have hzero : ∀ q, W[0]? = some q → dep2 ops q k = true → ∃ u, Inv 0 u w := fun q hq hd => by
      obtain ⟨u, h1, _⟩ := hI.inv
      have hqW : q ∈ W := List.mem_of_getElem? hq
      have hql : listed.getD q true = false := by
        cases hx : listed.getD q true with
        | false => rfl
        | true =>
          unfold dep2 at hd
          rw [Bool.or_eq_true] at hd
          rcases hd with hd | hd
          · rw [hI.closed q (hW q hqW) hx k (by simpa using hd)] at hk2; cases hk2
          · obtain ⟨j, hj, hjk⟩ := List.any_eq_true.1 hd
            have hjq := (flwForm_deps hform (hW q hqW)).1 j hj
            have h1 := hI.closed q (hW q hqW) hx j hj
            rw [hI.closed j (Nat.lt_trans hjq (hW q hqW)) h1 k (by simpa using hjk)] at hk2
            cases hk2
      have h0 : (W.countP fun k => listed.getD k true) = 0 := by
        match W, hq, hchain, hW with
        | z :: l, hq, hchain, hW =>
          simp at hq
          subst hq
          exact chain_zero (ops := ops) (fun k => listed.getD k true) l z hchain hW hI.closed hql
      rw [h0] at h1
      exact ⟨u, h1⟩
    have hst := hstep a w hI.kept (hfacts srcs hs) (fun i hi => by obtain ⟨u, h1, h2⟩ := hI.inv; rw [hph i hi] at h1 h2; exact ⟨u, h1, h2⟩) hzero _ next
    unfold wpOp
    rw [ho]
    show if Region.wanted o (yielded ops a.tmps) = true then _ else _
    by_cases hw : Region.wanted o (yielded ops a.tmps) = true
    · rw [if_pos hw] at hst ⊢
      exact .inl (Oper.wp_weak (fun _ _ h => h) hst)
    · rw [if_neg hw] at hst ⊢
      exact hst

/-- THE LAW. W: the changing operations, in order. Inv: what holds of the world behind so many of them. -/
theorem wp_flvl (fs : List (Value → World → Prop)) (gs : List Nat) (Inv : Nat → Value → World → Prop) (W : List Nat) {a0 : Act} {w0 : World} {Q : Exit → Act → World → Prop} {id : Nat} (hm : P.follows .mixedOrders = true) (hst : StabAllW gs fs) (hinv : ∀ i u w w', Below w.heap.size w w' → Inv i u w → Inv i u w') (h0 : Inv 0 undef w0)
    (hform : flwForm ops = true) (hchain : chainOk ops W = true) (hW : W.all (fun k => decide (k < ops.size)) = true)
    (hbound : ((List.range ops.size).all fun k => match dstOf ops k with | some d => decide (d < a0.tmps.size) | none => true) = true)
    (steps : ∀ k, k < ops.size → StepV P ops (FL fs) gs Inv W a0 w0.drew k)
    (fin : ∀ a w, Kept gs w0 w → (∃ u, Inv W.length u w ∧ Last ops W a W.length u) → a.defers = a0.defers → a.tmps.size = a0.tmps.size → (∀ s, (∀ i, i < ops.size → dstOf ops i ≠ some s) → a.tmps[s]?.getD undef = a0.tmps[s]?.getD undef) →
      (∀ i d, i < ops.size → dstOf ops i = some d → FL fs i (a.tmps[d]?.getD undef) w) → Q .normal a w) : (Code.region id ops true).wp P Q a0 w0 := by
  refine wp_region_any hm ?_
  have hb : ∀ k d, k < ops.size → dstOf ops k = some d → d < a0.tmps.size := fun k d hk hd => by
    rw [List.all_eq_true] at hbound
    have := hbound k (List.mem_range.2 hk)
    rw [hd] at this
    exact of_decide_eq_true this
  have hrep : ∀ i, i < ops.size → (Array.replicate ops.size false).getD i true = true → False := fun i hi h => by
    simp [Array.getD_eq_getD_getElem?, hi] at h
  have hWs : ∀ k ∈ W, k < ops.size := fun k hk => of_decide_eq_true (List.all_eq_true.1 hW k hk)
  refine flv_any (w0 := w0.drew) hform hchain hWs hb (fun i v w w' _ => FL.stableW fs hst i v w w') hinv steps (fun a w hb2 => fin a w (((Kept.refl gs w0).drew).trans hb2)) ops.size _ a0 _ ?_
    ⟨Kept.refl _ _, ?_, rfl, rfl, by simp, fun i hi h => (hrep i hi h).elim, fun _ _ => rfl, fun i _ hi h => (hrep i hi h).elim⟩
  · unfold undone
    exact Nat.le_trans List.countP_le_length (by simp)
  · rw [List.countP_eq_zero.2 fun k hk h => hrep k (hWs k hk) h]
    exact ⟨undef, hinv 0 _ _ _ ((Below.refl _ _).drew) h0, fun j q d hj => by omega⟩

/-- The same, without the last value. -/
theorem wp_flv (fs : List (Value → World → Prop)) (gs : List Nat) (Inv : Nat → Value → World → Prop) (W : List Nat) {a0 : Act} {w0 : World} {Q : Exit → Act → World → Prop} {id : Nat} (hm : P.follows .mixedOrders = true) (hst : StabAllW gs fs) (hinv : ∀ i u w w', Below w.heap.size w w' → Inv i u w → Inv i u w') (h0 : Inv 0 undef w0)
    (hform : flwForm ops = true) (hchain : chainOk ops W = true) (hW : W.all (fun k => decide (k < ops.size)) = true)
    (hbound : ((List.range ops.size).all fun k => match dstOf ops k with | some d => decide (d < a0.tmps.size) | none => true) = true)
    (steps : ∀ k, k < ops.size → StepV P ops (FL fs) gs Inv W a0 w0.drew k)
    (fin : ∀ a w, Kept gs w0 w → (∃ u, Inv W.length u w) → a.defers = a0.defers → a.tmps.size = a0.tmps.size → (∀ s, (∀ i, i < ops.size → dstOf ops i ≠ some s) → a.tmps[s]?.getD undef = a0.tmps[s]?.getD undef) →
      (∀ i d, i < ops.size → dstOf ops i = some d → FL fs i (a.tmps[d]?.getD undef) w) → Q .normal a w) : (Code.region id ops true).wp P Q a0 w0 :=
  wp_flvl fs gs Inv W hm hst hinv h0 hform hchain hW hbound steps fun a w hk hi => fin a w hk (by obtain ⟨u, h1, _⟩ := hi; exact ⟨u, h1⟩)

/-- The rules for a step: a plain one that changes nothing, .. -/
theorem StepV.plain {F : Nat → Value → World → Prop} {gs : List Nat} {Inv : Nat → Value → World → Prop} {W : List Nat} {a0 : Act} {w0 : World} {k : Nat} (o : Oper) (ho : ops[k]? = some o) (hg : o.guard = none) (hW : W.contains k = false) (srcs : List (Tmp × Option Nat)) (hs : srcs.all (srcOk ops k) = true)
    (h : ∀ a w, Kept gs w0 w → (∀ q, W[0]? = some q → dep2 ops q k = true → ∃ u, Inv 0 u w) → Facts F a0 a w srcs → ∀ K : Act → World → Prop, (∀ v w', Below w.heap.size w w' → F k v w' → K (a.put o.dst v) w') → Oper.wp P o a w K (fun _ _ _ => False)) : StepV P ops F gs Inv W a0 w0 k :=
  ⟨o, ho, srcs, hs, fun a w hb hf _ hz K hK => by
    rw [if_pos (by simp [Region.wanted, hg])]
    exact h a w hb hz hf K fun v w' h1 h2 => hK v w' (by rw [if_neg (by simpa using hW)]; exact h1) h2⟩
/-- .. one that changes: number i of the chain, .. -/
theorem StepV.chain {F : Nat → Value → World → Prop} {gs : List Nat} {Inv : Nat → Value → World → Prop} {W : List Nat} {a0 : Act} {w0 : World} {k : Nat} (i : Nat) (o : Oper) (ho : ops[k]? = some o) (hg : o.guard = none) (hW : W[i]? = some k) (hnd : W.countP (· == k) = 1) (srcs : List (Tmp × Option Nat)) (hs : srcs.all (srcOk ops k) = true)
    (h : ∀ a w, Kept gs w0 w → (∃ u, Inv i u w ∧ Last ops W a i u) → Facts F a0 a w srcs → ∀ K : Act → World → Prop, (∀ v w', Kept gs w w' → Inv (i + 1) v w' → F k v w' → K (a.put o.dst v) w') → Oper.wp P o a w K (fun _ _ _ => False)) : StepV P ops F gs Inv W a0 w0 k :=
  ⟨o, ho, srcs, hs, fun a w hb hf hi _ K hK => by
    rw [if_pos (by simp [Region.wanted, hg])]
    refine h a w hb (hi i hW) hf K fun v w' h1 h2 h3 => hK v w' ?_ h3
    rw [if_pos (List.mem_of_getElem? hW)]
    refine ⟨h1, fun j hj => ?_⟩
    have hji : j = i := by
      have hil : i < W.length := (List.getElem?_eq_some_iff.1 hW).1
      have hjl : j < W.length := (List.getElem?_eq_some_iff.1 hj).1
      rcases Nat.lt_trichotomy i j with hlt | he | hlt
      · exfalso
        have e1 : 1 ≤ (W.take (i + 1)).countP (· == k) := List.one_le_countP_iff.2 ⟨k, List.mem_of_getElem? (i := i) (by rw [List.getElem?_take, if_pos (by omega)]; exact hW), by simp⟩
        have e2 : 1 ≤ (W.drop (i + 1)).countP (· == k) := List.one_le_countP_iff.2 ⟨k, List.mem_of_getElem? (i := j - (i + 1)) (by rw [List.getElem?_drop, show i + 1 + (j - (i + 1)) = j from by omega]; exact hj), by simp⟩
        have e3 : W.countP (· == k) = (W.take (i + 1)).countP (· == k) + (W.drop (i + 1)).countP (· == k) := by rw [← List.countP_append, List.take_append_drop]
        omega
      · exact he.symm
      · exfalso
        have e1 : 1 ≤ (W.take (j + 1)).countP (· == k) := List.one_le_countP_iff.2 ⟨k, List.mem_of_getElem? (i := j) (by rw [List.getElem?_take, if_pos (by omega)]; exact hj), by simp⟩
        have e2 : 1 ≤ (W.drop (j + 1)).countP (· == k) := List.one_le_countP_iff.2 ⟨k, List.mem_of_getElem? (i := i - (j + 1)) (by rw [List.getElem?_drop, show j + 1 + (i - (j + 1)) = i from by omega]; exact hW), by simp⟩
        have e3 : W.countP (· == k) = (W.take (j + 1)).countP (· == k) + (W.drop (j + 1)).countP (· == k) := by rw [← List.countP_append, List.take_append_drop]
        omega
    rw [hji]
    exact h2⟩
/-- .. a guarded one that runs, .. -/
theorem StepV.yes {F : Nat → Value → World → Prop} {gs : List Nat} {Inv : Nat → Value → World → Prop} {W : List Nat} {a0 : Act} {w0 : World} {k j t : Nat} {b : Bool} (o : Oper) (ho : ops[k]? = some o) (hg : o.guard = some (j, b)) (hW : W.contains k = false) (hj : dstOf ops j = some t) (hjb : ∀ v w, F j v w → v = .bool b)
    (srcs : List (Tmp × Option Nat)) (hs : ((t, some j) :: srcs).all (srcOk ops k) = true)
    (h : ∀ a w, Kept gs w0 w → (∀ q, W[0]? = some q → dep2 ops q k = true → ∃ u, Inv 0 u w) → Facts F a0 a w srcs → ∀ K : Act → World → Prop, (∀ v w', Below w.heap.size w w' → F k v w' → K (a.put o.dst v) w') → Oper.wp P o a w K (fun _ _ _ => False)) : StepV P ops F gs Inv W a0 w0 k :=
  ⟨o, ho, (t, some j) :: srcs, hs, fun a w hb hf _ hz K hK => by
    rw [if_pos (by simp [Region.wanted, hg, yielded_of hj (hjb _ _ hf.1)])]
    exact h a w hb hz hf.2 K fun v w' h1 h2 => hK v w' (by rw [if_neg (by simpa using hW)]; exact h1) h2⟩
/-- .. a guarded one that does not run. -/
theorem StepV.no {F : Nat → Value → World → Prop} {gs : List Nat} {Inv : Nat → Value → World → Prop} {W : List Nat} {a0 : Act} {w0 : World} {k j t : Nat} {b c : Bool} (o : Oper) (ho : ops[k]? = some o) (hg : o.guard = some (j, b)) (hW : W.contains k = false) (hj : dstOf ops j = some t) (hjb : ∀ v w, F j v w → v = .bool c) (hbc : c ≠ b)
    (hs : [(t, some j)].all (srcOk ops k) = true) (hF : ∀ w, F k undef w) : StepV P ops F gs Inv W a0 w0 k :=
  ⟨o, ho, [(t, some j)], hs, fun a w hb hf _ _ K hK => by
    rw [if_neg (by simp [Region.wanted, hg, yielded_of hj (hjb _ _ hf.1), hbc])]
    exact hK undef w (by rw [if_neg (by simpa using hW)]; exact Below.refl _ _) (hF w)⟩
end
end Go.Proofs.Ytidlcplamgajpaa
