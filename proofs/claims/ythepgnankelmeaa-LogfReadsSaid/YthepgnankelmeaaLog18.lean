/- The walk of the statement LogfWrites. -/
import Derived.Test.YthepgnankelmeaaLog17
import Derived.Test.YthepgnankelmeaaFlz
namespace Go.Proofs.Ythepgnankelmeaa
open Go.RowKit

section
variable {B : Nat} {Pd : Obj → Prop} {w w' : World}
theorem Blk.pkept {g : Nat} {T : TypeId} {cs : Array Value} (h : Blk w g T cs) (hk : PKept B Pd w w') (hp : g < B ∨ ¬ Pd (.cells cs T (0, 0))) : Blk w' g T cs := hk.block g _ h hp
theorem FreshG.pkept {η : Type} {E : Enc η} {T : TypeId} {Br : Nat} {v : Value} {l : List η} (h : FreshG E T Br w v l) (hk : PKept B Pd w w') (hT : ∀ cs fr, ¬ Pd (.cells cs T fr)) : FreshG E T Br w' v l := by
  obtain ⟨A, c, e, h1, h2⟩ := h
  refine ⟨A, c, e, h1, ?_⟩
  rcases h2 with h2 | ⟨g, cap, cur, e1, e2, e3, e4⟩
  · exact .inl h2
  · exact .inr ⟨g, cap, cur, e1, e2, hk.block g _ e3 (.inr (hT _ _)), e4⟩
theorem RdX.pkept {B0 : Nat} {T : TypeId} {A : Option Addr} {n : Nat} {l : List UInt8} (h : RdX B0 T w A n l) (hk : PKept B Pd w w') (hB : B0 ≤ B) (hT : ∀ cs fr, ¬ Pd (.cells cs T fr)) : RdX B0 T w' A n l := by
  have key : ∀ ad, 0 < n → A = some ad → ad.block < w.heap.size → w'.heap[ad.block]? = w.heap[ad.block]? := by
    intro ad hn hA hlt
    have ho := Array.getElem?_eq_getElem hlt
    rw [ho]
    refine hk.block _ _ ho ?_
    rcases h.2 ad hn hA with h1 | ⟨cs, fr, h1⟩
    · exact .inl (by omega)
    · refine .inr ?_
      rw [h1] at ho
      injection ho with ho
      rw [← ho]
      exact hT _ _
  refine ⟨⟨h.1.1, fun hn => ?_⟩, fun ad hn hA => ?_⟩
  · obtain ⟨b, off, hA, hlt, hc⟩ := h.1.2 hn
    refine ⟨b, off, hA, Nat.lt_of_lt_of_le hlt hk.size, fun j u hj => ?_⟩
    have hk2 := key ⟨b, off, none⟩ hn hA hlt
    rw [World.cell?_of_block (show w'.heap[(⟨b, off + j, none⟩ : Addr).block]? = w.heap[(⟨b, off + j, none⟩ : Addr).block]? from hk2)]
    exact hc j u hj
  · rcases h.2 ad hn hA with h1 | ⟨cs, fr, h1⟩
    · exact .inl h1
    · exact .inr ⟨cs, fr, hk.block _ _ h1 (.inr (hT _ _))⟩
theorem OwnR.pkept {η α : Type} {K : RKind η α} {T2 : TypeId} {Br B0 : Nat} {T : TypeId} {v : Value} {es : List α} (h : OwnR K T2 Br B0 T w v es) (hk : PKept B Pd w w') (hB : B0 ≤ B) (hT2 : ∀ cs fr, ¬ Pd (.cells cs T2 fr)) (hT : ∀ cs fr, ¬ Pd (.cells cs T fr)) : OwnR K T2 Br B0 T w' v es := by
  obtain ⟨hs, h1, h2, h3⟩ := h
  exact ⟨hs, h1.pkept hk hT2, h2, fun i x e hx he => ⟨(h3 i x e hx he).1, (h3 i x e hx he).2.1.pkept hk hB hT, (h3 i x e hx he).2.2⟩⟩
end
/-- Blocks of a type. -/
def OfT (T : TypeId) (o : Obj) : Prop := ∃ cs fr, o = .cells cs T fr
theorem ofT_not {T T2 : TypeId} (h : T2 ≠ T) : ∀ cs fr, ¬ OfT T (.cells cs T2 fr) := by
  rintro cs fr ⟨cs', fr', e⟩
  injection e with _ e
  exact h e
/-- A row of records of the call's own, in a value. -/
def IsO {η α : Type} (K : RKind η α) (T2 : TypeId) (Br B0 : Nat) (T : TypeId) (mk : Value → Value) (es : List α) (y : Value) (W : World) : Prop := ∃ v, y = mk v ∧ OwnR K T2 Br B0 T W v es
theorem IsO.stab {η α : Type} (K : RKind η α) (T2 : TypeId) (Br B0 : Nat) (T : TypeId) (mk : Value → Value) (es : List α) {B : Nat} {Pd : Obj → Prop} (hB : B0 ≤ B) (hT2 : ∀ cs fr, ¬ Pd (.cells cs T2 fr)) (hT : ∀ cs fr, ¬ Pd (.cells cs T fr)) : StabK (PKept B Pd) (IsO K T2 Br B0 T mk es) :=
  fun _ _ _ hk ⟨v, e, h⟩ => ⟨v, e, h.pkept hk hB hT2 hT⟩
/-- A fresh block that a region makes, and fills. -/
def BoxZ (B : Nat) (T : TypeId) (zs : Array Value) (x0 : Value) (Good : Value → World → Prop) : List Value → World → Prop
  | [], _ => True
  | [y], W => ∃ g, y = .pointer (some ⟨g, 0, none⟩) ∧ B ≤ g ∧ Blk W g T zs
  | y :: _, W => ∃ g u, y = .pointer (some ⟨g, 0, none⟩) ∧ B ≤ g ∧ Blk W g T #[x0, u] ∧ Good u W
theorem BoxZ.stab {B : Nat} {T : TypeId} {zs : Array Value} {x0 : Value} {Good : Value → World → Prop} (hG : ∀ u w w', Below w.heap.size w w' → Good u w → Good u w') : ∀ us w w', Below w.heap.size w w' → BoxZ B T zs x0 Good us w → BoxZ B T zs x0 Good us w'
  | [], _, _, _, _ => trivial
  | [_], _, _, hb, ⟨g, e, h1, h2⟩ => ⟨g, e, h1, h2.on hb⟩
  | _ :: _ :: _, _, _, hb, ⟨g, u, e, h1, h2, h3⟩ => ⟨g, u, e, h1, h2.on hb, hG _ _ _ hb h3⟩
/-- Rows of bytes that are read, as records. -/
theorem RdSS.toR {w : World} {A : Option Addr} {n : Nat} {ls : List (List UInt8)} (T : TypeId) (h : RdSS w A n ls) : RdR ssK w.heap.size T w A n ls := by
  rcases Nat.eq_zero_or_pos n with h0 | h0
  · subst h0
    have : ls = [] := List.eq_nil_of_length_eq_zero h.len
    subst this
    exact RdR.nil
  · obtain ⟨b, off, rfl, hb, hc⟩ := h.2 h0
    have hx : ∀ k : Nat, ∃ q : Option Addr × Nat × Nat, ∀ l, ls[k]? = some l → w.cell? ⟨b, off + k, none⟩ = some (.slice q.1 q.2.1 q.2.2) ∧ q.2.1 = l.length ∧ Rd w q.1 l.length l ∧ l.length ≤ q.2.2 ∧ q.2.2 ≤ maxLen := by
      intro k
      cases hk : ls[k]? with
      | none => exact ⟨(none, 0, 0), fun l hl => by cases hl⟩
      | some l0 =>
        obtain ⟨Ai, ci, h1, h2, h3⟩ := hc k l0 hk
        exact ⟨(Ai, l0.length, ci), fun l hl => by injection hl with hl; subst hl; exact ⟨h1, rfl, h2, h3⟩⟩
    obtain ⟨f, hf⟩ := Classical.axiomOfChoice hx
    have hlen : ((List.range n).map f).length = n := by simp
    refine ⟨(List.range n).map f, ⟨hlen, fun _ => ⟨b, off, rfl, hb, fun k a hk j u hu => ?_⟩⟩, by rw [hlen, h.len], fun i q l hq hl => ?_⟩
    · have hkn : k < n := by have := (List.getElem?_eq_some_iff.1 hk).1; rw [hlen] at this; exact this
      rw [List.getElem?_map, List.getElem?_range hkn] at hk
      simp at hk
      subst hk
      obtain ⟨l, hl⟩ : ∃ l, ls[k]? = some l := ⟨_, List.getElem?_eq_getElem (by rw [h.len]; exact hkn)⟩
      have h1 := (hf k l hl).1
      match j, hu with
      | 0, hu =>
        simp [ssK, ssE] at hu
        subst hu
        have hsz : ssK.E.sz = 1 := rfl
        rw [hsz, Nat.mul_one, Nat.add_zero]
        exact h1
      | _ + 1, hu => simp [ssK, ssE] at hu
    · have hkn : i < n := by rw [← h.len]; exact (List.getElem?_eq_some_iff.1 hl).1
      rw [List.getElem?_map, List.getElem?_range hkn] at hq
      simp at hq
      subst hq
      obtain ⟨h1, h2, h3, h4, h5⟩ := hf i l hl
      exact ⟨trivial, RdX.old (by show Rd w (f i).1 (f i).2.1 l; rw [h2]; exact h3) (Nat.le_refl _), by show (f i).2.1 ≤ (f i).2.2; omega, h5⟩
theorem key_range {p t : Int} {es : List Ent} (h : mayLog p t es = true) : ∀ e ∈ es, 0 ≤ e.1 ∧ e.1 ≤ 65535 := by
  obtain ⟨hg, _, _, ha⟩ := mayLog_true h
  obtain ⟨h1, h2, _, _⟩ := gmay_true hg
  obtain ⟨_, _, _, s1, _⟩ := geo_range h1 h2
  intro e he
  have := ha e he
  omega
theorem enc_whole {p t x : Int} {es : List Ent} {r : List (List UInt8)} (h : mayLog p t es = true) (hr : ∀ l ∈ r, l.length = 256) : (encL x es ++ r).any shortB = false := by
  obtain ⟨_, _, _, ha⟩ := mayLog_true h
  rw [List.any_eq_false]
  intro l hl
  have hl256 : l.length = 256 := by
    rcases List.mem_append.1 hl with h1 | h1
    · rcases List.mem_cons.1 h1 with h2 | h2
      · rw [h2]; exact headL_len _ _
      · obtain ⟨e, he, rfl⟩ := List.mem_map.1 h2
        exact (ha e he).2.2
    · exact hr l h1
  simp [shortB, hl256]
/-- What is written is parsed as it was. -/
theorem lparse_back (p t x : Int) (A : Option Addr) (n c : Nat) (es : List Ent) (r : List (List UInt8)) (w : World) (hr : RdSS w A n (encL x es ++ r)) (hm : mayLog p t es = true) (hn : (n : Int) = 1 + t) (hl : es.length ≤ 100) (hx0 : 0 ≤ x) (hx1 : x ≤ 18446744073709551615) (hr256 : ∀ l ∈ r, l.length = 256) :
    Calls Try.prog 52 #[.agg #[.int .i64 p, .int .i64 t], .slice A n c] w fun e w' => ∃ v, e = .returned (.tuple #[.agg #[.int .u64 x, v], .int .i64 0]) ∧ OwnR entK 102 w.heap.size 0 5 w' v es ∧ Below w.heap.size w w' := by
  obtain ⟨hg, h1, h2, ha⟩ := mayLog_true hm
  obtain ⟨e1, e2, e3⟩ := good_back (fs := r) hm hl (key_range hm) h2 hx0 hx1
  have hw := enc_whole (x := x) hm hr256
  refine (lparse_yes p t A n c (headL x es) (es.map (·.2) ++ r) w hr hg hn hw).mono ?_
  rintro e w' ⟨v, rfl, hO, hb⟩
  refine ⟨v, ?_, ?_, hb⟩
  · unfold parC parE
    rw [if_pos e1, if_pos e1, e2]
  · unfold parS at hO
    rw [if_pos e1, e3] at hO
    exact hO
end Go.Proofs.Ythepgnankelmeaa
