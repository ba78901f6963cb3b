/- A region that draws its order and whose operations change named blocks: the changing ones stand in a chain; each of the others is met in any frame. No program in sight. -/
import Derived.Test.YtidlcplamgajpaaFlow
import Derived.Test.YtidlcplamgajpaaKept
namespace Go.Proofs.Ytidlcplamgajpaa
open Go.RowKit

section
variable {P : Program} {ops : Array Oper}

/-- The region's form: each waits for earlier ones alone; no two write one slot. -/
def flwForm (ops : Array Oper) : Bool :=
  (List.range ops.size).all fun k => (depsOf ops k).all (fun j => decide (j < k)) && (List.range ops.size).all fun i => i == k || !(dstOf ops i == dstOf ops k) || (dstOf ops k).isNone
/-- The changing operations, each waiting for the one ahead. -/
def chainOk (ops : Array Oper) : List Nat → Bool
  | a :: b :: r => (depsOf ops b).contains a && chainOk ops (b :: r)
  | _ => true

/-- A step: in whatever frame and world meet its facts. At a changing operation (c: its place in the chain) the chain's state is known, and it goes on; at others memory only grows. -/
def StepW (P : Program) (ops : Array Oper) (F : Nat → Value → World → Prop) (gs : List Nat) (Inv : Nat → World → Prop) (W : List Nat) (a0 : Act) (w0 : World) (k : Nat) : Prop :=
  ∃ o, ops[k]? = some o ∧ ∃ srcs : List (Tmp × Option Nat), srcs.all (srcOk ops k) = true ∧
    ∀ a w, Kept gs w0 w → Facts F a0 a w srcs → (∀ i, W[i]? = some k → Inv i w) → ∀ K : Act → World → Prop,
      (∀ v w', (if k ∈ W then Kept gs w w' ∧ ∀ i, W[i]? = some k → Inv (i + 1) w' else Below w.heap.size w w') → F k v w' → K (a.put o.dst v) w') →
      if Region.wanted o (yielded ops a.tmps) = true then Oper.wp P o a w K (fun _ _ _ => False) else K (a.put o.dst undef) w

/-- What holds under way. -/
structure Flw (ops : Array Oper) (F : Nat → Value → World → Prop) (gs : List Nat) (Inv : Nat → World → Prop) (W : List Nat) (a0 : Act) (w0 : World) (listed : Array Bool) (a : Act) (w : World) : Prop where
  kept : Kept gs w0 w
  inv : Inv (W.countP fun k => listed.getD k true) w
  defers : a.defers = a0.defers
  size : a.tmps.size = a0.tmps.size
  lsize : listed.size = ops.size
  closed : ∀ i, i < ops.size → listed.getD i true = true → ∀ j ∈ depsOf ops i, listed.getD j true = true
  base : ∀ s, (∀ i, i < ops.size → listed.getD i true = true → dstOf ops i ≠ some s) → a.tmps[s]?.getD undef = a0.tmps[s]?.getD undef
  fact : ∀ i d, i < ops.size → listed.getD i true = true → dstOf ops i = some d → F i (a.tmps[d]?.getD undef) w

theorem flwForm_deps (h : flwForm ops = true) {k : Nat} (hk : k < ops.size) : (∀ j ∈ depsOf ops k, j < k) ∧ ∀ i d, i < ops.size → i ≠ k → dstOf ops k = some d → dstOf ops i ≠ some d := by
  unfold flwForm at h
  rw [List.all_eq_true] at h
  have h1 := h k (List.mem_range.2 hk)
  simp only [Bool.and_eq_true, List.all_eq_true, decide_eq_true_eq] at h1
  obtain ⟨h2, h4⟩ := h1
  refine ⟨h2, fun i d hi hne hd he => ?_⟩
  have h5 := h4 i (List.mem_range.2 hi)
  simp [hne, he, hd] at h5

/-- The changing operations that are done stand ahead of those that are not. -/
theorem chain_at (p : Nat → Bool) : ∀ (W : List Nat) (i k : Nat), chainOk ops W = true → (∀ k ∈ W, k < ops.size) → (∀ i, i < ops.size → p i = true → ∀ j ∈ depsOf ops i, p j = true) → W[i]? = some k → p k = false → (∀ j ∈ depsOf ops k, p j = true) → W.countP p = i
  | [], i, k, _, _, _, h, _, _ => by simp at h
  | [x], 0, k, _, _, _, h, hk, _ => by
    simp at h; subst h; simp [hk]
  | [x], i + 1, k, _, _, _, h, _, _ => by simp at h
  | x :: y :: r, 0, k, hc, hs, hcl, h, hk, hd => by
    simp at h; subst h
    simp only [chainOk, Bool.and_eq_true, List.contains_iff_mem] at hc
    have hy : p y = false := by
      cases hy : p y
      · rfl
      · rw [hcl y (hs y (by simp)) hy x hc.1] at hk; cases hk
    have : ∀ (l : List Nat) (z : Nat), chainOk ops (z :: l) = true → (∀ k ∈ z :: l, k < ops.size) → p z = false → (z :: l).countP p = 0 := by
      intro l
      induction l with
      | nil => intro z _ _ hz; simp [hz]
      | cons u l ih =>
        intro z hc hs hz
        simp only [chainOk, Bool.and_eq_true, List.contains_iff_mem] at hc
        have hu : p u = false := by
          cases hu : p u
          · rfl
          · rw [hcl u (hs u (by simp)) hu z hc.1] at hz; cases hz
        rw [List.countP_cons_of_neg (by simp [hz])]
        exact ih u hc.2 (fun k hk => hs k (by simp at hk ⊢; right; exact hk)) hu
    rw [List.countP_cons_of_neg (by simp [hk])]
    exact this r y hc.2 (fun k hk => hs k (by simp at hk ⊢; right; exact hk)) hy
  | x :: y :: r, i + 1, k, hc, hs, hcl, h, hk, hd => by
    have hc0 := hc
    simp only [chainOk, Bool.and_eq_true, List.contains_iff_mem] at hc
    have h' : (y :: r)[i]? = some k := by simpa using h
    have ih := chain_at p (y :: r) i k hc.2 (fun k hk => hs k (by simp at hk ⊢; right; exact hk)) hcl h' hk hd
    have hx : p x = true := by
      cases i with
      | zero => simp at h'; subst h'; exact hd x hc.1
      | succ i =>
        have hy : p y = true := by
          have : ∀ (l : List Nat) (z : Nat) (i : Nat), chainOk ops (z :: l) = true → (∀ k ∈ z :: l, k < ops.size) → l[i]? = some k → p z = true := by
            intro l
            induction l with
            | nil => intro z i _ _ h; simp at h
            | cons u l ih =>
              intro z i hc hs h
              simp only [chainOk, Bool.and_eq_true, List.contains_iff_mem] at hc
              cases i with
              | zero => simp at h; subst h; exact hd z hc.1
              | succ i =>
                have := ih u i hc.2 (fun k hk => hs k (by simp at hk ⊢; right; exact hk)) (by simpa using h)
                exact hcl u (hs u (by simp)) this z hc.1
          exact this r y i hc.2 (fun k hk => hs k (by simp at hk ⊢; right; exact hk)) (by simpa using h')
        exact hcl y (hs y (by simp)) hy x hc.1
    rw [List.countP_cons_of_pos hx, ih]

theorem put_tmps (a : Act) (d : Option Tmp) (v : Value) : (a.put d v).defers = a.defers ∧ (a.put d v).tmps.size = a.tmps.size ∧ (∀ s, d ≠ some s → (a.put d v).tmps[s]?.getD undef = a.tmps[s]?.getD undef) ∧ ∀ s, d = some s → s < a.tmps.size → (a.put d v).tmps[s]?.getD undef = v := by
  cases d with
  | none => exact ⟨rfl, rfl, fun _ _ => rfl, fun s h => by cases h⟩
  | some t =>
    refine ⟨rfl, ?_, fun s hs => ?_, fun s hs hlt => ?_⟩
    · show (a.tmps.setIfInBounds t v).size = _
      simp
    · show (a.tmps.setIfInBounds t v)[s]?.getD undef = _
      rw [Array.getElem?_setIfInBounds_ne (fun e => hs (by rw [e]))]
    · injection hs with hs
      subst hs
      show (a.tmps.setIfInBounds t v)[t]?.getD undef = _
      rw [Array.getElem?_setIfInBounds]
      simp [hlt]

theorem countP_same (W : List Nat) (listed : Array Bool) (k : Nat) (h : k ∉ W) : (W.countP fun j => (listed.setIfInBounds k true).getD j true) = W.countP fun j => listed.getD j true := by
  apply List.countP_congr
  intro j hj
  have hne : j ≠ k := fun e => h (e ▸ hj)
  simp only [Array.getD_eq_getD_getElem?]
  rw [Array.getElem?_setIfInBounds_ne (Ne.symm hne)]
theorem countP_next : ∀ (W : List Nat) (listed : Array Bool) (k : Nat), W.Nodup → k ∈ W → listed.getD k true = false → (W.countP fun j => (listed.setIfInBounds k true).getD j true) = (W.countP fun j => listed.getD j true) + 1
  | [], _, _, _, h, _ => by simp at h
  | x :: W, listed, k, hn, h, hk => by
    rw [List.nodup_cons] at hn
    by_cases e : x = k
    · subst e
      rw [List.countP_cons_of_pos (by exact getD_set_self listed x), List.countP_cons_of_neg (by simp [hk]), countP_same W listed x hn.1]
    · have hm : k ∈ W := by simp at h; rcases h with h | h; exact absurd h.symm e; exact h
      have ih := countP_next W listed k hn.2 hm hk
      have hx : (listed.setIfInBounds k true).getD x true = listed.getD x true := by
        simp only [Array.getD_eq_getD_getElem?]
        rw [Array.getElem?_setIfInBounds_ne (Ne.symm e)]
      rw [List.countP_cons, List.countP_cons, ih, hx]
      omega
theorem chain_nodup : ∀ W : List Nat, chainOk ops W = true → (∀ k ∈ W, k < ops.size) → (∀ k, k < ops.size → ∀ j ∈ depsOf ops k, j < k) → W.Nodup
  | [], _, _, _ => List.nodup_nil
  | [x], _, _, _ => by simp
  | x :: y :: r, hc, hs, hd => by
    have hc0 := hc
    simp only [chainOk, Bool.and_eq_true, List.contains_iff_mem] at hc
    have ih := chain_nodup (y :: r) hc.2 (fun k hk => hs k (by simp at hk ⊢; right; exact hk)) hd
    rw [List.nodup_cons]
    refine ⟨?_, ih⟩
    have : ∀ (l : List Nat) (z b : Nat), chainOk ops (z :: l) = true → (∀ k ∈ z :: l, k < ops.size) → b < z → b ∉ z :: l := by
      intro l
      induction l with
      | nil => intro z b _ _ h hm; simp at hm; omega
      | cons u l ih =>
        intro z b hc hs h hm
        simp only [chainOk, Bool.and_eq_true, List.contains_iff_mem] at hc
        have hzu := hd u (hs u (by simp)) z hc.1
        rcases List.mem_cons.1 hm with e | hm
        · omega
        · exact ih u b hc.2 (fun k hk => hs k (by simp at hk ⊢; right; exact hk)) (by omega) hm
    exact this r y x hc.2 (fun k hk => hs k (by simp at hk ⊢; right; exact hk)) (hd y (hs y (by simp)) x hc.1)

theorem flw_any {F : Nat → Value → World → Prop} {gs : List Nat} {Inv : Nat → World → Prop} {W : List Nat} {a0 : Act} {w0 : World} {Q : Exit → Act → World → Prop} (hform : flwForm ops = true) (hchain : chainOk ops W = true) (hW : ∀ k ∈ W, k < ops.size) (hbound : ∀ k d, k < ops.size → dstOf ops k = some d → d < a0.tmps.size)
    (hstable : ∀ i v w w', i < ops.size → Kept gs w w' → F i v w → F i v w') (hinv : ∀ i w w', Below w.heap.size w w' → Inv i w → Inv i w') (steps : ∀ k, k < ops.size → StepW P ops F gs Inv W a0 w0 k)
    (fin : ∀ a w, Kept gs w0 w → Inv W.length w → a.defers = a0.defers → a.tmps.size = a0.tmps.size → (∀ s, (∀ i, i < ops.size → dstOf ops i ≠ some s) → a.tmps[s]?.getD undef = a0.tmps[s]?.getD undef) →
      (∀ i d, i < ops.size → dstOf ops i = some d → F i (a.tmps[d]?.getD undef) w) → Q .normal a w) :
    ∀ fuel listed a w, undone listed ops.size ≤ fuel → Flw ops F gs Inv W a0 w0 listed a w → wpAny P .any ops Q fuel listed a w := by
  have hnodup := chain_nodup W hchain hW (fun k hk => (flwForm_deps hform hk).1)
  have final : ∀ listed a w, undone listed ops.size = 0 → Flw ops F gs Inv W a0 w0 listed a w → Q .normal a w := fun listed a w h0 hI => by
    have hall := undone_zero listed ops.size h0
    refine fin a w hI.kept ?_ hI.defers hI.size (fun s hs => hI.base s fun i hi _ => hs i hi) (fun i d hi hd => hI.fact i d hi (hall i hi) hd)
    have h1 := hI.inv
    rw [List.countP_eq_length.2 fun k hk => hall k (hW k hk)] at h1
    exact h1
  have getF : ∀ (listed : Array Bool) (j : Nat), listed.getD j false = true → listed.getD j true = true := fun listed j h => by
    simp only [Array.getD_eq_getD_getElem?] at h ⊢
    cases h2 : listed[j]? with
    | none => rfl
    | some b => rw [h2] at h; exact h
  have getT : ∀ (listed : Array Bool) (j : Nat), j < listed.size → listed.getD j true = true → listed.getD j false = true := fun listed j hj h => by
    simp only [Array.getD_eq_getD_getElem?, Array.getElem?_eq_getElem hj] at h ⊢
    exact h
  have noReady : ∀ listed a w, Flw ops F gs Inv W a0 w0 listed a w → Region.ready .any ops listed = [] → undone listed ops.size = 0 := fun listed a w hI hr => by
    have : ∀ i, i < ops.size → listed.getD i true = true := by
      intro i
      induction i using Nat.strongRecOn with
      | _ i ih =>
        intro hi
        cases hl : listed.getD i true with
        | true => rfl
        | false =>
          have hm : i ∈ Region.ready .any ops listed := (ready_iff listed i).2 ⟨hi, hl, fun j hj => by
            have hji := (flwForm_deps hform hi).1 j hj
            exact getT listed j (by rw [hI.lsize]; omega) (ih j hji (by omega))⟩
          rw [hr] at hm
          cases hm
    unfold undone
    rw [List.countP_eq_zero]
    intro i hi
    simp [this i (List.mem_range.1 hi)]
  intro fuel
  induction fuel with
  | zero =>
    intro listed a w hu hI
    refine ⟨?_, final listed a w (by omega) hI⟩
    rw [List.eq_nil_iff_forall_not_mem]
    intro k hk
    obtain ⟨hk1, hk2, _⟩ := (ready_iff listed k).1 hk
    rw [undone_zero listed ops.size (by omega) k hk1] at hk2
    cases hk2
  | succ fuel ih =>
    intro listed a w hu hI
    refine ⟨fun hr => final listed a w (noReady listed a w hI hr) hI, fun k hk => ?_⟩
    obtain ⟨hk1, hk2, hk3⟩ := (ready_iff listed k).1 hk
    obtain ⟨o, ho, srcs, hs, hstep⟩ := steps k hk1
    have hdk : dstOf ops k = o.dst := by unfold dstOf; rw [ho]; rfl
    have hun := undone_set listed k hk2 ops.size
    rw [if_pos hk1] at hun
    obtain ⟨f1, f3⟩ := flwForm_deps hform hk1
    -- the facts
    have hfacts : ∀ l : List (Tmp × Option Nat), l.all (srcOk ops k) = true → Facts F a0 a w l := by
      intro l
      induction l with
      | nil => intro _; trivial
      | cons x r ihr =>
        intro hl
        rw [List.all_cons, Bool.and_eq_true] at hl
        obtain ⟨t, s⟩ := x
        cases s with
        | some j =>
          have h1 := hl.1
          simp only [srcOk, Bool.and_eq_true, List.contains_iff_mem, beq_iff_eq] at h1
          exact ⟨hI.fact j t (by have := f1 j h1.1; omega) (getF listed j (hk3 j h1.1)) h1.2, ihr hl.2⟩
        | none =>
          refine ⟨hI.base t fun i hi hli hdi => ?_, ihr hl.2⟩
          have h1 := hl.1
          simp only [srcOk, List.all_eq_true, List.mem_range] at h1
          have h2 := h1 i hi
          simp only [Bool.or_eq_true, Bool.not_eq_true', beq_eq_false_iff_ne, beq_iff_eq, List.contains_iff_mem] at h2
          rcases h2 with (h2 | h2) | h2
          · exact h2 hdi
          · subst h2; rw [hli] at hk2; cases hk2
          · have := hI.closed i hi hli k h2
            rw [this] at hk2
            cases hk2
    have hph : ∀ i, W[i]? = some k → (W.countP fun k => listed.getD k true) = i := fun i hi =>
      chain_at (ops := ops) (fun k => listed.getD k true) W i k hchain hW hI.closed hi hk2 (fun j hj => getF listed j (hk3 j hj))
    have next : ∀ v w', (if k ∈ W then Kept gs w w' ∧ ∀ i, W[i]? = some k → Inv (i + 1) w' else Below w.heap.size w w') → F k v w' → wpAny P .any ops Q fuel (listed.setIfInBounds k true) (a.put o.dst v) w' := by
      intro v w' hkw hF
      obtain ⟨p1, p2, p3, p4⟩ := put_tmps a o.dst v
      have hkp : Kept gs w w' := by
        split at hkw
        · exact hkw.1
        · exact .of_below hkw
      have hiv : Inv (W.countP fun j => (listed.setIfInBounds k true).getD j true) w' := by
        split at hkw
        · rename_i hm
          obtain ⟨i, hi⟩ := List.mem_iff_getElem?.1 hm
          rw [countP_next W listed k hnodup hm hk2, hph i hi]
          exact hkw.2 i hi
        · rename_i hm
          rw [countP_same W listed k hm]
          exact hinv _ _ _ hkw hI.inv
      refine ih _ _ _ (by omega) ⟨hI.kept.trans hkp, hiv, p1.trans hI.defers, p2.trans hI.size, by simpa using hI.lsize, ?_, ?_, ?_⟩
      · intro i hi hl j hj
        rcases getD_set_true listed k i hl with rfl | hl
        · exact getD_set_of listed i j (getF listed j (hk3 j hj))
        · exact getD_set_of listed k j (hI.closed i hi hl j hj)
      · intro s hs
        have hsd : o.dst ≠ some s := fun e => hs k hk1 (getD_set_self listed k) (hdk.trans e)
        exact (p3 s hsd).trans (hI.base s fun i hi hl => hs i hi (getD_set_of listed k i hl))
      · intro i di hi hl hdi
        by_cases hik : i = k
        · subst hik
          rw [p4 di (hdk.symm.trans hdi) (by rw [hI.size]; exact hbound i di hi hdi)]
          exact hF
        · have hne : o.dst ≠ some di := fun e => f3 i di hi hik (hdk.trans e) hdi
          rcases getD_set_true listed k i hl with h | hl
          · exact absurd h hik
          · rw [p3 di hne]
            exact hstable i _ w w' hi hkp (hI.fact i di hi hl hdi)
    have hst := hstep a w hI.kept (hfacts srcs hs) (fun i hi => by have := hI.inv; rw [hph i hi] at this; exact this) _ next
    unfold wpOp
    rw [ho]
    show if Region.wanted o (yielded ops a.tmps) = true then _ else _
    by_cases hw : Region.wanted o (yielded ops a.tmps) = true
    · rw [if_pos hw] at hst ⊢
      exact .inl (Oper.wp_weak (fun _ _ h => h) hst)
    · rw [if_neg hw] at hst ⊢
      exact hst

/-- Facts that stay true while all but the blocks gs stays. -/
def StabW (gs : List Nat) (f : Value → World → Prop) : Prop := ∀ v w w', Kept gs w w' → f v w → f v w'
def StabAllW (gs : List Nat) : List (Value → World → Prop) → Prop
  | [] => True
  | f :: r => StabW gs f ∧ StabAllW gs r
theorem FL.stableW {gs : List Nat} : ∀ (fs : List (Value → World → Prop)), StabAllW gs fs → ∀ i v w w', Kept gs w w' → FL fs i v w → FL fs i v w'
  | [], _, i, v, w, w', _, h => by simp [FL]
  | f :: r, hs, 0, v, w, w', hb, h => hs.1 v w w' hb h
  | f :: r, hs, i + 1, v, w, w', hb, h => by
    have := FL.stableW r hs.2 i v w w' hb
    simpa [FL] using this (by simpa [FL] using h)
theorem StabW.eq (gs : List Nat) (c : Value) : StabW gs (fun v _ => v = c) := fun _ _ _ _ h => h
theorem StabW.any (gs : List Nat) : StabW gs (fun _ _ => True) := fun _ _ _ _ h => h
/-- The value is a slice that reads the bytes l, n of them, outside the blocks gs. -/
def IsN (gs : List Nat) (n : Nat) (l : List UInt8) (v : Value) (w : World) : Prop := ∃ A c, v = .slice A n c ∧ RdN w gs A n l ∧ n ≤ c ∧ c ≤ maxLen
theorem StabW.b (gs : List Nat) (n : Nat) (l : List UInt8) : StabW gs (IsN gs n l) := fun _ _ _ hb ⟨A, c, e, hR, hn, hm⟩ => ⟨A, c, e, hR.kept hb fun _ h => h, hn, hm⟩
theorem IsN.of {gs : List Nat} {T : TypeId} {B : Nat} {w : World} {v : Value} {l : List UInt8} (h : Fresh T B w v l) (hs : ∀ x ∈ gs, x < B) {n : Nat} (hn : l.length = n) : IsN gs n l v w := by
  obtain ⟨A, c, e, hR, hown, h1, h2⟩ := h.rdn n hn
  exact ⟨A, c, e, RdN.new hown hs, h1, h2⟩

/-- THE LAW. W: the changing operations, in order. Inv: what holds of the world behind so many of them. -/
theorem wp_flw (fs : List (Value → World → Prop)) (gs : List Nat) (Inv : Nat → World → Prop) (W : List Nat) {a0 : Act} {w0 : World} {Q : Exit → Act → World → Prop} {id : Nat} (hm : P.follows .mixedOrders = true) (hst : StabAllW gs fs) (hinv : ∀ i w w', Below w.heap.size w w' → Inv i w → Inv i w') (h0 : Inv 0 w0)
    (hform : flwForm ops = true) (hchain : chainOk ops W = true) (hW : W.all (fun k => decide (k < ops.size)) = true)
    (hbound : ((List.range ops.size).all fun k => match dstOf ops k with | some d => decide (d < a0.tmps.size) | none => true) = true)
    (steps : ∀ k, k < ops.size → StepW P ops (FL fs) gs Inv W a0 w0.drew k)
    (fin : ∀ a w, Kept gs w0 w → Inv W.length w → a.defers = a0.defers → a.tmps.size = a0.tmps.size → (∀ s, (∀ i, i < ops.size → dstOf ops i ≠ some s) → a.tmps[s]?.getD undef = a0.tmps[s]?.getD undef) →
      (∀ i d, i < ops.size → dstOf ops i = some d → FL fs i (a.tmps[d]?.getD undef) w) → Q .normal a w) : (Code.region id ops true).wp P Q a0 w0 := by
  refine wp_region_any hm ?_
  have hb : ∀ k d, k < ops.size → dstOf ops k = some d → d < a0.tmps.size := fun k d hk hd => by
    rw [List.all_eq_true] at hbound
    have := hbound k (List.mem_range.2 hk)
    rw [hd] at this
    exact of_decide_eq_true this
  have hrep : ∀ i, i < ops.size → (Array.replicate ops.size false).getD i true = true → False := fun i hi h => by
    simp [Array.getD_eq_getD_getElem?, hi] at h
  have hWs : ∀ k ∈ W, k < ops.size := fun k hk => of_decide_eq_true (List.all_eq_true.1 hW k hk)
  refine flw_any (w0 := w0.drew) hform hchain hWs hb (fun i v w w' _ => FL.stableW fs hst i v w w') hinv steps (fun a w hb2 => fin a w (((Kept.refl gs w0).drew).trans hb2)) ops.size _ a0 _ ?_
    ⟨Kept.refl _ _, ?_, rfl, rfl, by simp, fun i hi h => (hrep i hi h).elim, fun _ _ => rfl, fun i _ hi h => (hrep i hi h).elim⟩
  · unfold undone
    exact Nat.le_trans List.countP_le_length (by simp)
  · rw [List.countP_eq_zero.2 fun k hk h => hrep k (hWs k hk) h]
    exact hinv 0 _ _ ((Below.refl _ _).drew) h0

/-- The rules for a step: a plain one that changes nothing, .. -/
theorem StepW.plain {F : Nat → Value → World → Prop} {gs : List Nat} {Inv : Nat → World → Prop} {W : List Nat} {a0 : Act} {w0 : World} {k : Nat} (o : Oper) (ho : ops[k]? = some o) (hg : o.guard = none) (hW : W.contains k = false) (srcs : List (Tmp × Option Nat)) (hs : srcs.all (srcOk ops k) = true)
    (h : ∀ a w, Kept gs w0 w → Facts F a0 a w srcs → ∀ K : Act → World → Prop, (∀ v w', Below w.heap.size w w' → F k v w' → K (a.put o.dst v) w') → Oper.wp P o a w K (fun _ _ _ => False)) : StepW P ops F gs Inv W a0 w0 k :=
  ⟨o, ho, srcs, hs, fun a w hb hf _ K hK => by
    rw [if_pos (by simp [Region.wanted, hg])]
    exact h a w hb hf K fun v w' h1 h2 => hK v w' (by rw [if_neg (by simpa using hW)]; exact h1) h2⟩
/-- .. one that changes: number i of the chain, .. -/
theorem StepW.chain {F : Nat → Value → World → Prop} {gs : List Nat} {Inv : Nat → World → Prop} {W : List Nat} {a0 : Act} {w0 : World} {k : Nat} (i : Nat) (o : Oper) (ho : ops[k]? = some o) (hg : o.guard = none) (hW : W[i]? = some k) (hnd : W.countP (· == k) = 1) (srcs : List (Tmp × Option Nat)) (hs : srcs.all (srcOk ops k) = true)
    (h : ∀ a w, Kept gs w0 w → Inv i w → Facts F a0 a w srcs → ∀ K : Act → World → Prop, (∀ v w', Kept gs w w' → Inv (i + 1) w' → F k v w' → K (a.put o.dst v) w') → Oper.wp P o a w K (fun _ _ _ => False)) : StepW P ops F gs Inv W a0 w0 k :=
  ⟨o, ho, srcs, hs, fun a w hb hf hi K hK => by
    rw [if_pos (by simp [Region.wanted, hg])]
    refine h a w hb (hi i hW) hf K fun v w' h1 h2 h3 => hK v w' ?_ h3
    rw [if_pos (List.mem_of_getElem? hW)]
    refine ⟨h1, fun j hj => ?_⟩
    have hji : j = i := by
      have hil : i < W.length := (List.getElem?_eq_some_iff.1 hW).1
      have hjl : j < W.length := (List.getElem?_eq_some_iff.1 hj).1
      rcases Nat.lt_trichotomy i j with hlt | he | hlt
      · exfalso
        have e1 : 1 ≤ (W.take (i + 1)).countP (· == k) := List.one_le_countP_iff.2 ⟨k, List.mem_of_getElem? (i := i) (by rw [List.getElem?_take, if_pos (by omega)]; exact hW), by simp⟩
        have e2 : 1 ≤ (W.drop (i + 1)).countP (· == k) := List.one_le_countP_iff.2 ⟨k, List.mem_of_getElem? (i := j - (i + 1)) (by rw [List.getElem?_drop, show i + 1 + (j - (i + 1)) = j from by omega]; exact hj), by simp⟩
        have e3 : W.countP (· == k) = (W.take (i + 1)).countP (· == k) + (W.drop (i + 1)).countP (· == k) := by rw [← List.countP_append, List.take_append_drop]
        omega
      · exact he.symm
      · exfalso
        have e1 : 1 ≤ (W.take (j + 1)).countP (· == k) := List.one_le_countP_iff.2 ⟨k, List.mem_of_getElem? (i := j) (by rw [List.getElem?_take, if_pos (by omega)]; exact hj), by simp⟩
        have e2 : 1 ≤ (W.drop (j + 1)).countP (· == k) := List.one_le_countP_iff.2 ⟨k, List.mem_of_getElem? (i := i - (j + 1)) (by rw [List.getElem?_drop, show j + 1 + (i - (j + 1)) = i from by omega]; exact hW), by simp⟩
        have e3 : W.countP (· == k) = (W.take (j + 1)).countP (· == k) + (W.drop (j + 1)).countP (· == k) := by rw [← List.countP_append, List.take_append_drop]
        omega
    rw [hji]
    exact h2⟩
/-- .. a guarded one that runs, .. -/
theorem StepW.yes {F : Nat → Value → World → Prop} {gs : List Nat} {Inv : Nat → World → Prop} {W : List Nat} {a0 : Act} {w0 : World} {k j t : Nat} {b : Bool} (o : Oper) (ho : ops[k]? = some o) (hg : o.guard = some (j, b)) (hW : W.contains k = false) (hj : dstOf ops j = some t) (hjb : ∀ v w, F j v w → v = .bool b)
    (srcs : List (Tmp × Option Nat)) (hs : ((t, some j) :: srcs).all (srcOk ops k) = true)
    (h : ∀ a w, Kept gs w0 w → Facts F a0 a w srcs → ∀ K : Act → World → Prop, (∀ v w', Below w.heap.size w w' → F k v w' → K (a.put o.dst v) w') → Oper.wp P o a w K (fun _ _ _ => False)) : StepW P ops F gs Inv W a0 w0 k :=
  ⟨o, ho, (t, some j) :: srcs, hs, fun a w hb hf _ K hK => by
    rw [if_pos (by simp [Region.wanted, hg, yielded_of hj (hjb _ _ hf.1)])]
    exact h a w hb hf.2 K fun v w' h1 h2 => hK v w' (by rw [if_neg (by simpa using hW)]; exact h1) h2⟩
/-- .. a guarded one that does not run. -/
theorem StepW.no {F : Nat → Value → World → Prop} {gs : List Nat} {Inv : Nat → World → Prop} {W : List Nat} {a0 : Act} {w0 : World} {k j t : Nat} {b c : Bool} (o : Oper) (ho : ops[k]? = some o) (hg : o.guard = some (j, b)) (hW : W.contains k = false) (hj : dstOf ops j = some t) (hjb : ∀ v w, F j v w → v = .bool c) (hbc : c ≠ b)
    (hs : [(t, some j)].all (srcOk ops k) = true) (hF : ∀ w, F k undef w) : StepW P ops F gs Inv W a0 w0 k :=
  ⟨o, ho, [(t, some j)], hs, fun a w hb hf _ K hK => by
    rw [if_neg (by simp [Region.wanted, hg, yielded_of hj (hjb _ _ hf.1), hbc])]
    exact hK undef w (by rw [if_neg (by simpa using hW)]; exact Below.refl _ _) (hF w)⟩
end
end Go.Proofs.Ytidlcplamgajpaa
