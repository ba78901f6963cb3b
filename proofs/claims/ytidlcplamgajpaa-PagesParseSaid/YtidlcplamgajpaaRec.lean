/- Records that hold one slice of bytes each. -/
import Derived.Test.YtidlcplamgajpaaSlices
import Derived.Test.YtidlcplamgajpaaFresh
import Derived.Test.YtidlcplamgajpaaKept
import Derived.Test.YtidlcplamgajpaaFlv
import Derived.Laws.AppendOwn
import Derived.Laws.CopyRow
namespace Go.Proofs.Ytidlcplamgajpaa
open Go.RowKit

/-- Bytes that lie below a number, or in a block of a type. -/
def RdX (B : Nat) (T : TypeId) (w : World) (A : Option Addr) (n : Nat) (l : List UInt8) : Prop :=
  Rd w A n l ∧ ∀ ad, 0 < n → A = some ad → ad.block < B ∨ ∃ cs fr, w.heap[ad.block]? = some (.cells cs T fr)
section
variable {B B' : Nat} {T T2 : TypeId} {w w' : World} {A : Option Addr} {n : Nat} {l : List UInt8}
theorem RdX.below (h : RdX B T w A n l) (hb : Below w.heap.size w w') : RdX B T w' A n l := by
  refine ⟨h.1.below hb, fun ad hn hA => ?_⟩
  obtain ⟨b, off, hA', hlt, _⟩ := h.1.2 hn
  rw [hA'] at hA
  injection hA with hA
  subst hA
  rcases h.2 _ hn hA' with h1 | ⟨cs, fr, h1⟩
  · exact .inl h1
  · exact .inr ⟨cs, fr, by rw [hb.block b hlt]; exact h1⟩
theorem RdX.nil : RdX B T w A 0 [] := ⟨Rd.nil, fun _ h => absurd h (by omega)⟩
theorem RdX.old (h : Rd w A n l) (hB : w.heap.size ≤ B) : RdX B T w A n l := ⟨h, fun ad hn hA => by
  obtain ⟨b, off, hA', hlt, _⟩ := h.2 hn
  rw [hA'] at hA
  injection hA with hA
  subst hA
  exact .inl (by show b < B; omega)⟩
theorem RdX.own {c : Nat} (h : w.ownsRow B' T 1 (.slice A n c) n (l.map bv)) : RdX B T w A n l := ⟨Rd.of_own h, fun ad hn hA => by
  rcases h.2 with ⟨e, _⟩ | ⟨g, cap, cur, e, _, hh, _⟩
  · injection e with e; rw [hA] at e; cases e
  · injection e with e
    rw [hA] at e
    injection e with e
    subst e
    exact .inr ⟨cur, _, hh⟩⟩
theorem RdX.mono (h : RdX B T w A n l) (hB : B ≤ B') : RdX B' T w A n l := ⟨h.1, fun ad hn hA => by
  rcases h.2 ad hn hA with h1 | h1
  · exact .inl (Nat.lt_of_lt_of_le h1 hB)
  · exact .inr h1⟩
/-- A row of another type's elements, of the call's own, has grown. -/
theorem RdX.grown (h : RdX B T w A n l) {s : Nat} {v : Value} {m Br : Nat} {xs : List Value} (hrow : w.ownsRow Br T2 s v m xs) (hBr : B ≤ Br) (hT : T ≠ T2) (hg : w.grownBy w' v.ownBlock) : RdX B T w' A n l := by
  have key : ∀ ad, 0 < n → A = some ad → some ad.block ≠ v.ownBlock := by
    intro ad hn hA hx
    rcases hrow.2 with ⟨e, _⟩ | ⟨g, cap, cur, e, hgB, hh, _⟩
    · rw [e] at hx; cases hx
    · rw [e] at hx
      injection hx with hx
      have hx : ad.block = g := hx
      rcases h.2 ad hn hA with h1 | ⟨cs, fr, h1⟩
      · omega
      · rw [hx, hh] at h1
        injection h1 with h1
        injection h1 with _ h1
        exact hT h1.symm
  refine ⟨⟨h.1.1, fun hn => ?_⟩, fun ad hn hA => ?_⟩
  · obtain ⟨b, off, hA, hlt, hc⟩ := h.1.2 hn
    refine ⟨b, off, hA, Nat.lt_of_lt_of_le hlt hg.size, fun j u hj => ?_⟩
    rw [World.cell?_of_block (hg.block b hlt (key _ hn hA))]
    exact hc j u hj
  · obtain ⟨b, off, hA', hlt, _⟩ := h.1.2 hn
    have := key _ hn hA'
    rw [hA'] at hA
    injection hA with hA
    subst hA
    rcases h.2 _ hn hA' with h1 | ⟨cs, fr, h1⟩
    · exact .inl h1
    · exact .inr ⟨cs, fr, by rw [hg.block b hlt this]; exact h1⟩
end

theorem RdX.rdn {B : Nat} {T : TypeId} {w : World} {A : Option Addr} {n : Nat} {l : List UInt8} {gs : List Nat} (h : RdX B T w A n l) (hg : ∀ x ∈ gs, B ≤ x) (ht : ∀ x ∈ gs, ∃ cs t fr, w.heap[x]? = some (.cells cs t fr) ∧ T ≠ t) : RdN w gs A n l := by
  refine ⟨h.1, fun ad hn hA hx => ?_⟩
  obtain ⟨cs, t, fr, g2, g3⟩ := ht _ hx
  have g1 := hg _ hx
  rcases h.2 ad hn hA with h3 | ⟨cs', fr', h3⟩
  · omega
  · rw [g2] at h3
    injection h3 with h3
    injection h3 with _ h3
    exact g3 h3.symm
/-- A kind of record: how its cells lie (η: with the slice's address), its bytes, and when a head agrees with what is meant. -/
structure RKind (η α : Type) where
  E : Enc η
  sl : η → Option Addr × Nat × Nat
  bs : α → List UInt8
  eq : η → α → Prop
variable {η α : Type}
/-- A head and its bytes. -/
def RItem (K : RKind η α) (B : Nat) (T : TypeId) (w : World) (h : η) (e : α) : Prop :=
  K.eq h e ∧ RdX B T w (K.sl h).1 (K.sl h).2.1 (K.bs e) ∧ (K.sl h).2.1 ≤ (K.sl h).2.2 ∧ (K.sl h).2.2 ≤ maxLen
def RAll (K : RKind η α) (B : Nat) (T : TypeId) (w : World) (hs : List η) (es : List α) : Prop :=
  hs.length = es.length ∧ ∀ (i : Nat) (h : η) (e : α), hs[i]? = some h → es[i]? = some e → RItem K B T w h e
/-- Records that can be read. -/
def RdR (K : RKind η α) (B : Nat) (T : TypeId) (w : World) (A : Option Addr) (n : Nat) (es : List α) : Prop :=
  ∃ hs, RdG K.E w A n hs ∧ RAll K B T w hs es
/-- A row of records, the call's own. -/
def OwnR (K : RKind η α) (T2 : TypeId) (Br B : Nat) (T : TypeId) (w : World) (v : Value) (es : List α) : Prop :=
  ∃ hs, FreshG K.E T2 Br w v hs ∧ RAll K B T w hs es
section
variable {K : RKind η α} {B B' Br : Nat} {T T2 : TypeId} {w w' : World} {A : Option Addr} {n : Nat} {v : Value} {h : η} {e : α} {hs : List η} {es : List α}
theorem RItem.below (hi : RItem K B T w h e) (hb : Below w.heap.size w w') : RItem K B T w' h e := ⟨hi.1, hi.2.1.below hb, hi.2.2⟩
theorem RAll.below (ha : RAll K B T w hs es) (hb : Below w.heap.size w w') : RAll K B T w' hs es := ⟨ha.1, fun i h e h1 h2 => (ha.2 i h e h1 h2).below hb⟩
theorem RAll.mono (ha : RAll K B T w hs es) (hB : B ≤ B') : RAll K B' T w hs es := ⟨ha.1, fun i h e h1 h2 => ⟨(ha.2 i h e h1 h2).1, (ha.2 i h e h1 h2).2.1.mono hB, (ha.2 i h e h1 h2).2.2⟩⟩
theorem RdR.below (hr : RdR K B T w A n es) (hb : Below w.heap.size w w') : RdR K B T w' A n es := by
  obtain ⟨hs, h1, h2⟩ := hr
  exact ⟨hs, h1.below hb, h2.below hb⟩
theorem RdR.on (hr : RdR K B T w A n es) (hb : Below B' w w') (hB : w.heap.size ≤ B') : RdR K B T w' A n es := hr.below (hb.mono hB)
theorem RdR.alloc (hr : RdR K B T w A n es) (o : Obj) : RdR K B T (w.alloc o) A n es := hr.below ((Below.refl _ _).alloc (Nat.le_refl _) o)
theorem RdR.mono (hr : RdR K B T w A n es) (hB : B ≤ B') : RdR K B' T w A n es := by
  obtain ⟨hs, h1, h2⟩ := hr
  exact ⟨hs, h1, h2.mono hB⟩
theorem RdR.len (hr : RdR K B T w A n es) : es.length = n := by obtain ⟨hs, h1, h2⟩ := hr; rw [← h2.1, h1.len]
theorem RdR.nil : RdR K B T w A 0 [] := ⟨[], RdG.nil, rfl, fun i h e h1 => by simp at h1⟩
theorem RdR.at_ (hr : RdR K B T w A n es) {k : Nat} (hk : k < n) : ∃ b off h e, A = some ⟨b, off, none⟩ ∧ b < w.heap.size ∧ es[k]? = some e ∧ (∀ (j : Nat) (u : Value), (K.E.f h)[j]? = some u → w.cell? ⟨b, off + k * K.E.sz + j, none⟩ = some u) ∧ RItem K B T w h e := by
  obtain ⟨hs, h1, h2⟩ := hr
  obtain ⟨b, off, h, hA, hb, hh, hc⟩ := h1.at_ hk
  have hke : k < es.length := by rw [← h2.1, h1.len]; exact hk
  exact ⟨b, off, h, es[k], hA, hb, List.getElem?_eq_getElem hke, hc, h2.2 k h _ hh (List.getElem?_eq_getElem hke)⟩
theorem OwnR.nil (w : World) : OwnR K T2 Br B T w (.slice none 0 0) [] := ⟨[], FreshG.nil _ _ _, rfl, fun i h e h1 => by simp at h1⟩
theorem OwnR.below (ho : OwnR K T2 Br B T w v es) (hb : Below w.heap.size w w') : OwnR K T2 Br B T w' v es := by
  obtain ⟨hs, h1, h2⟩ := ho
  exact ⟨hs, h1.below hb, h2.below hb⟩
theorem OwnR.alloc (ho : OwnR K T2 Br B T w v es) (o : Obj) : OwnR K T2 Br B T (w.alloc o) v es := ho.below ((Below.refl _ _).alloc (Nat.le_refl _) o)
theorem OwnR.rd (ho : OwnR K T2 Br B T w v es) (n : Nat) (hn : es.length = n) : ∃ A c, v = .slice A n c ∧ RdR K B T w A n es ∧ n ≤ c ∧ c ≤ maxLen := by
  obtain ⟨hs, h1, h2⟩ := ho
  obtain ⟨A, c, rfl, hR, _, hc, hm⟩ := h1.rdn n (h2.1.trans hn)
  exact ⟨A, c, rfl, ⟨hs, hR, h2⟩, hc, hm⟩
theorem OwnR.shape (ho : OwnR K T2 Br B T w v es) : ∃ A n c, v = .slice A n c := by
  obtain ⟨hs, ⟨A, c, e, _⟩, h2⟩ := ho
  exact ⟨A, _, c, e⟩
theorem OwnR.from_ {Br' : Nat} (ho : OwnR K T2 Br B T w v es) (hB : Br' ≤ Br) : OwnR K T2 Br' B T w v es := by
  obtain ⟨hs, h1, h2⟩ := ho
  exact ⟨hs, h1.from_ hB, h2⟩
theorem OwnR.block (ho : OwnR K T2 Br B T w v es) : ∀ k, v.ownBlock = some k → Br ≤ k ∧ k < w.heap.size := by
  obtain ⟨hs, h1, h2⟩ := ho
  exact h1.block
/-- The blocks that an append of one record may touch: the cell's, and the row's own. -/
theorem OwnR.blocks (ho : OwnR K T2 Br B T w v es) {TL : TypeId} {g B0 : Nat} {cur : Array Value} (hB : Blk w g TL cur) (hTL : T ≠ TL) (hT2 : T ≠ T2) (h0 : B0 ≤ g) (h1 : g < Br) : ∃ gs : List Nat, g ∈ gs ∧ (∀ x, v.ownBlock = some x → x ∈ gs) ∧ (∀ x ∈ gs, x < w.heap.size) ∧ (∀ x ∈ gs, B0 ≤ x) ∧ (∀ x ∈ gs, x = g ∨ Br ≤ x) ∧ ∀ x ∈ gs, ∃ cs t fr, w.heap[x]? = some (.cells cs t fr) ∧ T ≠ t := by
  have hlt := hB.lt
  have hb := ho.block
  have hty : ∀ y, v.ownBlock = some y → ∃ cs t fr, w.heap[y]? = some (.cells cs t fr) ∧ T ≠ t := by
    intro y hy
    obtain ⟨hs, ⟨A, c, e, hown⟩, _⟩ := ho
    rcases hown.2 with ⟨e0, _⟩ | ⟨g', cap, cur', e0, _, hh, _⟩
    · rw [e0] at hy; cases hy
    · rw [e0] at hy
      injection hy with hy
      have hy : g' = y := hy
      subst hy
      exact ⟨cur', T2, _, hh, hT2⟩
  cases hv : v.ownBlock with
  | none => exact ⟨[g], by simp, (fun x h => by cases h), (fun x hx => by simp at hx; omega), (fun x hx => by simp at hx; omega), (fun x hx => by simp at hx; omega), (fun x hx => by simp at hx; subst hx; exact ⟨cur, TL, _, hB, hTL⟩)⟩
  | some y =>
    have hy := hb y hv
    refine ⟨[g, y], by simp, (fun x h => by injection h with h; subst h; simp), (fun x hx => ?_), (fun x hx => ?_), (fun x hx => ?_), (fun x hx => ?_)⟩
    · simp at hx; rcases hx with rfl | rfl <;> omega
    · simp at hx; rcases hx with rfl | rfl <;> omega
    · simp at hx; rcases hx with rfl | rfl <;> omega
    · simp at hx
      rcases hx with rfl | rfl
      · exact ⟨cur, TL, _, hB, hTL⟩
      · exact hty _ hv
/-- One more is appended. -/
theorem RAll.more (ha : RAll K B T w hs es) (hi : RItem K B T w h e) {s : Nat} {m : Nat} {xs : List Value} (hrow : w.ownsRow Br T2 s v m xs) (hBr : B ≤ Br) (hT : T ≠ T2) (hg : w.grownBy w' v.ownBlock) : RAll K B T w' (hs ++ [h]) (es ++ [e]) := by
  have up : ∀ {h : η} {e : α}, RItem K B T w h e → RItem K B T w' h e := fun hi => ⟨hi.1, hi.2.1.grown hrow hBr hT hg, hi.2.2⟩
  refine ⟨by simp [ha.1], fun i h' e' h1 h2 => ?_⟩
  rcases Nat.lt_or_ge i hs.length with hk | hk
  · rw [List.getElem?_append_left hk] at h1
    rw [List.getElem?_append_left (by rw [← ha.1]; exact hk)] at h2
    exact up (ha.2 i h' e' h1 h2)
  · rw [List.getElem?_append_right hk] at h1
    rw [List.getElem?_append_right (by rw [← ha.1]; exact hk), ← ha.1] at h2
    generalize i - hs.length = q at h1 h2
    match q, h1, h2 with
    | 0, h1, h2 =>
      simp at h1 h2
      subst h1 h2
      exact up hi
    | _ + 1, h1, h2 => simp at h1
end
/-- A block of another type, not an old one, is stored into. -/
theorem RdX.set_ {B : Nat} {T TL : TypeId} {w : World} {A : Option Addr} {n g : Nat} {l : List UInt8} {cur : Array Value} (h : RdX B T w A n l) (hB : Blk w g TL cur) (hT : T ≠ TL) (hg : B ≤ g) (i : Nat) (u : Value) : RdX B T (w.setCell ⟨g, i, none⟩ u) A n l := by
  have key : ∀ ad, 0 < n → A = some ad → ad.block ≠ g := by
    intro ad hn hA hx
    rcases h.2 ad hn hA with h1 | ⟨cs, fr, h1⟩
    · omega
    · unfold Blk at hB
      rw [hx, hB] at h1
      injection h1 with h1
      injection h1 with _ h1
      exact hT h1.symm
  refine ⟨⟨h.1.1, fun hn => ?_⟩, fun ad hn hA => ?_⟩
  · obtain ⟨b, off, hA, hlt, hc⟩ := h.1.2 hn
    have hne : b ≠ g := key _ hn hA
    refine ⟨b, off, hA, by simpa [World.setCell] using hlt, fun j x hj => ?_⟩
    rw [World.cell?_of_block (Below.heap_setCell w ⟨g, i, none⟩ u b hne)]
    exact hc j x hj
  · have hne := key ad hn hA
    rcases h.2 _ hn hA with h1 | ⟨cs, fr, h1⟩
    · exact .inl h1
    · exact .inr ⟨cs, fr, by rw [Below.heap_setCell w ⟨g, i, none⟩ u _ hne]; exact h1⟩
theorem RAll.set_ {K : RKind η α} {B : Nat} {T TL : TypeId} {w : World} {g : Nat} {hs : List η} {es : List α} {cur : Array Value} (h : RAll K B T w hs es) (hB : Blk w g TL cur) (hT : T ≠ TL) (hg : B ≤ g) (i : Nat) (u : Value) : RAll K B T (w.setCell ⟨g, i, none⟩ u) hs es :=
  ⟨h.1, fun k x e h1 h2 => ⟨(h.2 k x e h1 h2).1, (h.2 k x e h1 h2).2.1.set_ hB hT hg i u, (h.2 k x e h1 h2).2.2⟩⟩
theorem FreshG.setFar {β : Type} {E : Enc β} {T : TypeId} {B : Nat} {w : World} {v : Value} {l : List β} (h : FreshG E T B w v l) {p : Addr} (hg : p.block < B) (u : Value) : FreshG E T B (w.setCell p u) v l := by
  obtain ⟨A, c, e, hown⟩ := h
  refine ⟨A, c, e, hown.kept (row := some p.block) ⟨rfl, rfl, rfl, by simp [World.setCell], fun k _ hn => Below.heap_setCell w p u k (fun e => hn (by rw [e]))⟩ ?_⟩
  cases hv : v.ownBlock with
  | none => exact .inl rfl
  | some k => exact .inr (fun e => by injection e with e; have := (hown.lt k hv).1; omega)
theorem OwnR.set_ {K : RKind η α} {B Br : Nat} {T T2 TL : TypeId} {w : World} {g : Nat} {v : Value} {es : List α} {cur : Array Value} (h : OwnR K T2 Br B T w v es) (hB : Blk w g TL cur) (hT : T ≠ TL) (hg : B ≤ g) (hg2 : g < Br) (i : Nat) (u : Value) : OwnR K T2 Br B T (w.setCell ⟨g, i, none⟩ u) v es := by
  obtain ⟨hs, h1, h2⟩ := h
  exact ⟨hs, h1.setFar hg2 u, h2.set_ hB hT hg i u⟩
theorem FreshG.setNe {β : Type} {E : Enc β} {T : TypeId} {B : Nat} {w : World} {v : Value} {l : List β} (h : FreshG E T B w v l) {p : Addr} (hg : ∀ y, v.ownBlock = some y → y ≠ p.block) (u : Value) : FreshG E T B (w.setCell p u) v l := by
  obtain ⟨A, c, e, hown⟩ := h
  refine ⟨A, c, e, hown.kept (row := some p.block) ⟨rfl, rfl, rfl, by simp [World.setCell], fun k _ hn => Below.heap_setCell w p u k (fun e => hn (by rw [e]))⟩ ?_⟩
  cases hv : v.ownBlock with
  | none => exact .inl rfl
  | some k => exact .inr (fun e => by injection e with e; exact hg k hv e)
theorem OwnR.setNe {K : RKind η α} {B Br : Nat} {T T2 TL : TypeId} {w : World} {g : Nat} {v : Value} {es : List α} {cur : Array Value} (h : OwnR K T2 Br B T w v es) (hB : Blk w g TL cur) (hT : T ≠ TL) (hg : B ≤ g) (hg2 : ∀ y, v.ownBlock = some y → y ≠ g) (i : Nat) (u : Value) : OwnR K T2 Br B T (w.setCell ⟨g, i, none⟩ u) v es := by
  obtain ⟨hs, h1, h2⟩ := h
  exact ⟨hs, h1.setNe hg2 u, h2.set_ hB hT hg i u⟩
theorem Kept.of_grown {gs : List Nat} {w w' : World} {row : Option Nat} (hg : w.grownBy w' row) (hr : ∀ k, row = some k → k ∈ gs) : Kept gs w w' :=
  ⟨hg.os, hg.tape, hg.output, hg.size, fun k hk hn => hg.block k hk (fun e => hn (hr k e.symm))⟩
theorem Fresh.keptF {gs : List Nat} {T : TypeId} {B : Nat} {w w' : World} {v : Value} {l : List UInt8} (h : Fresh T B w v l) (hk : Kept gs w w') (hs : ∀ x ∈ gs, x < B) : Fresh T B w' v l := by
  obtain ⟨A, c, e, hown⟩ := h
  refine ⟨A, c, e, ?_⟩
  have hb := hown.lt
  rcases hown.2 with ⟨e0, h0⟩ | ⟨g, cap, cur, e0, hg, hh, rest⟩
  · exact ⟨hown.1, .inl ⟨e0, h0⟩⟩
  · refine ⟨hown.1, .inr ⟨g, cap, cur, e0, hg, ?_, rest⟩⟩
    have hgl : g < w.heap.size := (Array.getElem?_eq_some_iff.1 hh).1
    rw [hk.block g hgl (fun hx => by have := hs g hx; omega)]
    exact hh
theorem RdG.keptN {β : Type} {E : Enc β} {gs : List Nat} {w w' : World} {b off n : Nat} {l : List β} (h : RdG E w (some ⟨b, off, none⟩) n l) (hk : Kept gs w w') (hb : b ∉ gs) : RdG E w' (some ⟨b, off, none⟩) n l := by
  refine ⟨h.1, fun hn => ?_⟩
  obtain ⟨b', off', hA, hlt, hc⟩ := h.2 hn
  injection hA with hA
  injection hA with e1 e2
  subst e1 e2
  refine ⟨b, off, rfl, Nat.lt_of_lt_of_le hlt hk.size, fun k a hka j u hu => ?_⟩
  rw [World.cell?_of_block (hk.block b hlt hb)]
  exact hc k a hka j u hu

/-- A row of bytes that the call made just now. -/
def IsRow (gs : List Nat) (Bz : Nat) (T : TypeId) (n : Nat) (L : List UInt8) (y : Value) (W : World) : Prop :=
  (∀ x ∈ gs, x < Bz) ∧ ∃ A c, y = .slice A n c ∧ Fresh T Bz W (.slice A n c) L ∧ n ≤ c ∧ c ≤ maxLen
theorem IsRow.stab (gs : List Nat) (Bz : Nat) (T : TypeId) (n : Nat) (L : List UInt8) : StabW gs (IsRow gs Bz T n L) := fun _ _ _ hb ⟨h0, A, c, e, hF, hn, hm⟩ => ⟨h0, A, c, e, hF.keptF hb h0, hn, hm⟩
theorem IsRow.of {gs : List Nat} {Bz : Nat} {T : TypeId} {n : Nat} {L : List UInt8} {y : Value} {W : World} (h : Fresh T Bz W y L) (hs : ∀ x ∈ gs, x < Bz) (hn : L.length = n) : IsRow gs Bz T n L y W := by
  obtain ⟨A, c, e, _, _, h1, h2⟩ := h.rdn n hn
  exact ⟨hs, A, c, e, e ▸ h, h1, h2⟩
/-- It stands in a record's value. -/
def IsAg (gs : List Nat) (Bz : Nat) (T : TypeId) (n : Nat) (L : List UInt8) (mk : Value → Value) (y : Value) (W : World) : Prop :=
  (∀ x ∈ gs, x < Bz) ∧ ∃ A c, y = mk (.slice A n c) ∧ Fresh T Bz W (.slice A n c) L ∧ n ≤ c ∧ c ≤ maxLen
theorem IsAg.stab (gs : List Nat) (Bz : Nat) (T : TypeId) (n : Nat) (L : List UInt8) (mk : Value → Value) : StabW gs (IsAg gs Bz T n L mk) := fun _ _ _ hb ⟨h0, A, c, e, hF, hn, hm⟩ => ⟨h0, A, c, e, hF.keptF hb h0, hn, hm⟩
/-- The record stands in a row of its own. -/
def IsBox {η : Type} (E : Enc η) (gs : List Nat) (Bz : Nat) (T : TypeId) (n : Nat) (L : List UInt8) (hd : Option Addr × Nat × Nat → η) (y : Value) (W : World) : Prop :=
  (∀ x ∈ gs, x < Bz) ∧ ∃ A c b, y = .slice (some ⟨b, 0, none⟩) 1 1 ∧ b ∉ gs ∧ RdG E W (some ⟨b, 0, none⟩) 1 [hd (A, n, c)] ∧ Fresh T Bz W (.slice A n c) L ∧ n ≤ c ∧ c ≤ maxLen
theorem IsBox.stab {η : Type} (E : Enc η) (gs : List Nat) (Bz : Nat) (T : TypeId) (n : Nat) (L : List UInt8) (hd : Option Addr × Nat × Nat → η) : StabW gs (IsBox E gs Bz T n L hd) :=
  fun _ _ _ hb ⟨h0, A, c, b, e, hbn, hR, hF, hn, hm⟩ => ⟨h0, A, c, b, e, hbn, hR.keptN hb hbn, hF.keptF hb h0, hn, hm⟩
/-- The states of a region that appends a record to a row in a cell: ahead; appended; stored. -/
def RecInv {η α : Type} (K : RKind η α) (T2 TL : TypeId) (Br B : Nat) (T : TypeId) (g : Nat) (cs : Value → Array Value) (v : Value) (es es' : List α) : Nat → Value → World → Prop
  | 0, _, W => Blk W g TL (cs v) ∧ OwnR K T2 Br B T W v es
  | 1, u, W => Blk W g TL (cs v) ∧ OwnR K T2 Br B T W u es'
  | _, _, W => ∃ u, Blk W g TL (cs u) ∧ OwnR K T2 Br B T W u es'
theorem RecInv.stab {η α : Type} {K : RKind η α} {T2 TL : TypeId} {Br B : Nat} {T : TypeId} {g : Nat} {cs : Value → Array Value} {v : Value} {es es' : List α} : ∀ i u w w', Below w.heap.size w w' → RecInv K T2 TL Br B T g cs v es es' i u w → RecInv K T2 TL Br B T g cs v es es' i u w'
  | 0, _, _, _, hb, h => ⟨h.1.on hb, h.2.below hb⟩
  | 1, _, _, _, hb, h => ⟨h.1.on hb, h.2.below hb⟩
  | _ + 2, _, _, _, hb, ⟨u, h1, h2⟩ => ⟨u, h1.on hb, h2.below hb⟩

theorem RdX.fresh {B Bz : Nat} {T : TypeId} {w : World} {A : Option Addr} {n c : Nat} {L : List UInt8} (h : Fresh T Bz w (.slice A n c) L) (hn : L.length = n) : RdX B T w A n L := by
  obtain ⟨A', c', e, _, hown, _, _⟩ := h.rdn n hn
  injection e with e1 _ e3
  subst e1 e3
  exact RdX.own hown
theorem own_ne {β : Type} {E : Enc β} {T2 TL : TypeId} {B g : Nat} {w : World} {v : Value} {l : List β} {cur : Array Value} (h : FreshG E T2 B w v l) (hB : Blk w g TL cur) (hT : TL ≠ T2) : some g ≠ v.ownBlock := by
  obtain ⟨A, c, e, hown⟩ := h
  intro hx
  rcases hown.2 with ⟨e0, _⟩ | ⟨g', cap, cur', e0, _, hh, _⟩
  · rw [e0] at hx; cases hx
  · rw [e0] at hx
    injection hx with hx
    have hx : g = g' := hx
    subst hx
    unfold Blk at hB
    rw [hB] at hh
    injection hh with hh
    injection hh with _ hh
    exact hT hh
theorem RecInv.app {η α : Type} {K : RKind η α} {T2 TL : TypeId} {Br B : Nat} {T : TypeId} {g : Nat} {cs : Value → Array Value} {v v' : Value} {es : List α} {W W' : World} {h : η} {e : α} {hs : List η} (hT : T ≠ T2) (hTL : TL ≠ T2) (hBr : B ≤ Br) (h0 : Blk W g TL (cs v)) (hF : FreshG K.E T2 Br W v hs) (hA : RAll K B T W hs es) (hi : RItem K B T W h e)
    (hF' : FreshG K.E T2 Br W' v' (hs ++ [h])) (hg : W.grownBy W' v.ownBlock) : RecInv K T2 TL Br B T g cs v es (es ++ [e]) 1 v' W' := by
  obtain ⟨A, c, e0, hown⟩ := id hF
  exact ⟨h0.grown hg (own_ne hF h0 hTL), _, hF', hA.more hi hown hBr hT hg⟩
theorem RecInv.store {η α : Type} {K : RKind η α} {T2 TL : TypeId} {Br B : Nat} {T : TypeId} {g : Nat} {cs : Value → Array Value} {v u x : Value} {es es' : List α} {W : World} (h : RecInv K T2 TL Br B T g cs v es es' 1 u W) (hT : T ≠ TL) (hg : B ≤ g) (hg2 : g < Br) (i : Nat) (hc : (cs v).setIfInBounds i u = cs u) : RecInv K T2 TL Br B T g cs v es es' 2 x (W.setCell ⟨g, i, none⟩ u) :=
  ⟨u, by rw [← hc]; exact h.1.set_ i u, h.2.set_ h.1 hT hg hg2 i u⟩
/-- Bytes behind an empty literal: a row of its own, and all that was there stays. -/
theorem run_append_lit {P : Program} (w : World) (b Bz : Nat) (t ty e : TypeId) (ht : P.underlying t = some (.slice e)) (hi : (P.info? e).map (fun i => (i.zero, i.size, i.bytes)) = some (some (.int .u8 0), 1, 1)) (hB : Blk w b e #[]) (hb : Bz ≤ b)
    (A : Option Addr) (m c : Nat) (l2 : List UInt8) (hr : Rd w A m l2) (hlen : m ≤ 140737488355328) :
    ∃ v' w', (Builtin.append_ #[t, t] ty #[.slice (some ⟨b, 0, none⟩) 0 0, .slice A m c]).run P w = .ok v' w' ∧ Fresh e Bz w' v' l2 ∧ Below w.heap.size w w' := by
  have hlt := hB.lt
  have hF : Fresh e Bz w (.slice (some ⟨b, 0, none⟩) 0 0) [] := Fresh.of_blk hB hb (by unfold maxLen; omega) rfl rfl
  obtain ⟨v', w', hrun, hF', hg, _⟩ := run_append_bytes (P := P) w Bz t ty e ht hi _ [] hF A m c l2 hr (by simp; omega) (by omega)
  refine ⟨v', w', hrun, hF', ?_⟩
  have done : w' = w → Below w.heap.size w w' := fun h => h ▸ Below.refl _ _
  obtain ⟨i, h1, h2, h3, h4⟩ := info_parts hi
  obtain ⟨A0, c0, e0, hown⟩ := hF
  rcases A with _ | ad
  · have h0 : m = 0 := by
      rcases Nat.eq_zero_or_pos m with h0 | h0
      · exact h0
      · obtain ⟨_, _, h, _⟩ := hr.2 h0
        cases h
    subst h0
    have h := run_append_of_nil (P := P) w Bz t ty e i 1 ht h1 _ _ _ hown c
    rw [hrun] at h
    injection h with _ h
    exact done h
  · have hcells : ∀ j u, (l2.map bv)[j]? = some u → w.cell? (ad.add j) = some u := by
      intro j u hu
      rw [List.getElem?_map] at hu
      obtain ⟨x, hx, rfl⟩ := Option.map_eq_some_iff.1 hu
      have hj : j < l2.length := (List.getElem?_eq_some_iff.1 hx).1
      have hm := hr.1
      obtain ⟨b', o, hA, _, hc⟩ := hr.2 (by omega)
      injection hA with hA
      subst hA
      have h2 : (⟨b', o, none⟩ : Addr).add j = ⟨b', o + j, none⟩ := by unfold Addr.add; split <;> simp_all
      rw [h2]
      exact hc j x hx
    rcases Nat.eq_zero_or_pos m with h0 | h0
    · subst h0
      have hl2 : l2 = [] := List.eq_nil_of_length_eq_zero hr.1
      subst hl2
      have h := run_append_room (P := P) w t ty e i ht h1 b 0 0 #[] hB ad 0 c [] (by simp) (by simp) (by simp) (by simp) (by simp)
      rw [hrun] at h
      injection h with _ h
      refine done (h.trans ?_)
      simpa using setRow_self w b #[] e (0, 0) hB
    · have hbl : i.bytes = 1 := h4
      have h := run_append_grow (P := P) w t ty e i _ ht h1 h2 ⟨b, 0, none⟩ 0 0 [] (by simp) (by simp) ad m c (l2.map bv) (by simp [h3]; exact hr.1) hcells (by omega) (by omega) (by rw [hbl, Nat.zero_add, nextslicecap_zero h0]; omega)
      rw [hrun] at h
      injection h with _ h
      rw [h]
      exact (Below.refl _ _).drew.alloc (by simp) _
def IsLit (gs : List Nat) (Bz : Nat) (T : TypeId) (y : Value) (W : World) : Prop := (∀ x ∈ gs, x < Bz) ∧ ∃ b, y = .slice (some ⟨b, 0, none⟩) 0 0 ∧ Blk W b T #[] ∧ Bz ≤ b
theorem IsLit.stab (gs : List Nat) (Bz : Nat) (T : TypeId) : StabW gs (IsLit gs Bz T) := fun _ _ _ hb ⟨h0, b, e, hB, h1⟩ => ⟨h0, b, e, hB.kept hb (fun hx => by have := h0 b hx; omega), h1⟩
theorem wp_append_lit {P : Program} (w : World) {o : Oper} {a : Act} {K : Act → World → Prop} {Q : Exit → Act → World → Prop} (s x : Operand) (t : TypeId)
    (ho : o.op = .call { callee := .builtin .append, args := #[s, x], argTypes := #[t, t] }) (b Bz : Nat) (e : TypeId) (ht : P.underlying t = some (.slice e)) (hi : (P.info? e).map (fun i => (i.zero, i.size, i.bytes)) = some (some (.int .u8 0), 1, 1)) (hB : Blk w b e #[]) (hb : Bz ≤ b)
    (hs : a.eval s = .slice (some ⟨b, 0, none⟩) 0 0) (A : Option Addr) (m c : Nat) (l2 : List UInt8) (hx : a.eval x = .slice A m c) (hr : Rd w A m l2) (hlen : m ≤ 140737488355328)
    (h : ∀ v' w', Fresh e Bz w' v' l2 → Below w.heap.size w w' → K (a.put o.dst v') w') : o.wp P a w K Q := by
  obtain ⟨v', w', hrun, h2, h3⟩ := run_append_lit (P := P) w b Bz t o.type e ht hi hB hb A m c l2 hr hlen
  unfold Oper.wp execOp
  simp only [ho, resolve, invoke, builtin, Sem.run_bind, Sem.run_pure, Result.andThen_ok, List.map_toArray, List.map_cons, List.map_nil, hs, hx, hrun]
  exact h v' w' h2 h3
/-- An append, as one operation. -/
theorem wp_append_G {P : Program} {α : Type} {E : Enc α} (w : World) {o : Oper} {a : Act} {K : Act → World → Prop} {Q : Exit → Act → World → Prop} (s x : Operand) (t : TypeId)
    (ho : o.op = .call { callee := .builtin .append, args := #[s, x], argTypes := #[t, t] })
    (base : Nat) (e : TypeId) {z : Value} {bytes : Nat} (ht : P.underlying t = some (.slice e)) (hi : (P.info? e).map (fun i => (i.zero, i.size, i.bytes)) = some (some z, E.sz, bytes)) (hzs : z.cells.size = E.sz)
    (v : Value) (l : List α) (hs : a.eval s = v) (hF : FreshG E e base w v l) (A : Option Addr) (m c : Nat) (l2 : List α) (hx : a.eval x = .slice A m c) (hr : RdG E w A m l2) (hlen : (l.length + m) * bytes ≤ 140737488355328) (h63 : l.length + m ≤ 140737488355328) (hbase : base ≤ w.heap.size)
    (h : ∀ v' w', FreshG E e base w' v' (l ++ l2) → w.grownBy w' v.ownBlock → Below base w w' → K (a.put o.dst v') w') : o.wp P a w K Q := by
  obtain ⟨v', w', hrun, h2, h3, h4⟩ := run_append_G (P := P) w base t o.type e ht hi hzs v l hF A m c l2 hr hlen h63 hbase
  unfold Oper.wp execOp
  simp only [ho, resolve, invoke, builtin, Sem.run_bind, Sem.run_pure, Result.andThen_ok, List.map_toArray, List.map_cons, List.map_nil, hs, hx, hrun]
  exact h v' w' h2 h3 h4
end Go.Proofs.Ytidlcplamgajpaa
