/- Slots: rows of a step. -/
import Derived.Test.YtnocjjaebemkoaaSlot11
import Derived.Test.YtnocjjaebemkoaaFlv
namespace Go.Proofs.Ytnocjjaebemkoaa
open Go.RowKit

theorem Kept.row (w : World) (g : Nat) (cs : Array Value) : Kept [g] w (w.setRow g cs) :=
  ⟨rfl, rfl, rfl, by simp, fun k _ hk => setRow_other w g k cs (by simpa using hk)⟩
theorem RdX.drew {B : Nat} {T : TypeId} {w : World} {A : Option Addr} {n : Nat} {l : List UInt8} (h : RdX B T w A n l) : RdX B T w.drew A n l := h.below ((Below.refl _ _).drew)
/-- A row of bytes, of which some were laid anew. -/
theorem Fresh.laid {T : TypeId} {B : Nat} {w w' : World} {l : List UInt8} {A : Option Addr} {n c : Nat} (h : Fresh T B w (.slice A n c) l) (hn : l.length = n) {g : Nat} {cur : Array Value} (hA : A = some ⟨g, 0, none⟩) (hB : Blk w g T cur) (off : Nat) (x : List UInt8) (hfit : off + x.length ≤ n) (hB' : Blk w' g T (lay cur off x)) :
    Fresh T B w' (.slice A n c) (layL l off x) := by
  obtain ⟨A1, c1, e1, hown1⟩ := h.lay_ hn hA hB off x hfit
  have hBr := hB.row (lay cur off x)
  have hl : (layL l off x).length = n := by rw [layL_len _ _ _ (by omega)]; exact hn
  injection e1 with e1 e2 e3
  subst e1 e3
  subst hA
  refine ⟨_, c, by rw [hl], hown1.1, ?_⟩
  rcases hown1.2 with h0 | ⟨g', cap, cur', hv, hg, hh, hr⟩
  · exact .inl h0
  · injection hv with h1 h2 h3
    injection h1 with h1
    injection h1 with h1
    subst h1 h3
    have e : lay cur off x = cur' := by unfold Blk at hBr; rw [hBr] at hh; injection hh with hh; injection hh
    subst e
    exact .inr ⟨g, c, _, by rw [hl], hg, hB', hr⟩
/-- A row's block, ahead of a change and behind it. -/
def RowInv (T : TypeId) (g : Nat) (cur cur' : Array Value) : Nat → Value → World → Prop
  | 0, _, W => Blk W g T cur
  | _ + 1, _, W => Blk W g T cur'
theorem RowInv.stab {T : TypeId} {g : Nat} {cur cur' : Array Value} : ∀ i u w w', Below w.heap.size w w' → RowInv T g cur cur' i u w → RowInv T g cur cur' i u w'
  | 0, _, _, _, hb, h => Blk.on h hb
  | _ + 1, _, _, _, hb, h => Blk.on h hb
theorem first_cases (l : List Ob) : (firstL l = -1 ∧ noneL l l.length) ∨ ∃ (k : Nat) (o : Ob), firstL l = k ∧ k < l.length ∧ l[k]? = some o ∧ o.1 = 0 ∧ noneL l k := by
  unfold firstL
  cases h : l.findIdx? (fun o => decide (o.1 = 0)) with
  | none =>
    left
    refine ⟨rfl, fun j o _ ho => ?_⟩
    rw [List.findIdx?_eq_none_iff] at h
    have := h o (List.mem_of_getElem? ho)
    simpa using this
  | some k =>
    right
    rw [List.findIdx?_eq_some_iff_getElem] at h
    obtain ⟨h1, h2, h3⟩ := h
    refine ⟨k, l[k], rfl, h1, List.getElem?_eq_getElem h1, by simpa using h2, fun j o hj ho => ?_⟩
    have := h3 j hj
    have e := (List.getElem?_eq_some_iff.1 ho).2
    rw [e] at this
    simpa using this
theorem PageOf.noneFree {c : Int} {z N k : Nat} {p : List UInt8} {l : List Ob} (hP : PageOf z N p l) (hc : ClassOK c z N) (h : noneL l k) (hk : k ≤ N) : noneFree z p k := by
  intro j hj
  obtain ⟨o, ho⟩ : ∃ o, l[j]? = some o := ⟨_, List.getElem?_eq_getElem (by rw [hP.len]; omega)⟩
  rw [(hP.tells hc ho).2.1]
  exact decide_eq_false (h j o hj ho)
end Go.Proofs.Ytnocjjaebemkoaa
