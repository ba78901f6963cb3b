/- Slots, by the document: With. -/
import Derived.Test.YtnocjjaebemkoaaSlotR1
namespace Go.Proofs.Ytnocjjaebemkoaa
open Go.RowKit

/-- An object is stored. -/
theorem FreshG.setOb {T : TypeId} {B : Nat} {w : World} {l : List ObH} {A : Option Addr} {n c : Nat} (h : FreshG obE T B w (.slice A n c) l) (hn : l.length = n) {g : Nat} {cur : Array Value} (hA : A = some ⟨g, 0, none⟩) (hB : Blk w g T cur) (k : Nat) (hk : k < n) (a : ObH) :
    FreshG obE T B ((w.setCell ⟨g, k * 2, none⟩ (.int .u64 a.1)).setCell ⟨g, k * 2 + 1, none⟩ (.slice a.2.1 a.2.2.1 a.2.2.2)) (.slice A n c) (l.set k a) := by
  have hsz : n * 2 ≤ cur.size := by
    obtain ⟨g', cur', hA', _, hB', hs, _⟩ := h.open_ hn (by omega)
    rw [hA] at hA'
    injection hA' with hA'
    injection hA' with hA'
    subst hA'
    have e : cur = cur' := by unfold Blk at hB hB'; rw [hB] at hB'; injection hB' with hB'; injection hB'
    subst e
    exact hs
  refine h.turn hn (by omega) hA hB ((hB.set_ _ _).set_ _ _) (by simp) (by simpa using hn) fun q j x u hq hu => ?_
  have hj : j < 2 := by have := (List.getElem?_eq_some_iff.1 hu).1; rw [obE.len] at this; exact this
  have hql : q < n := by have := (List.getElem?_eq_some_iff.1 hq).1; simpa [hn] using this
  show ((cur.setIfInBounds _ _).setIfInBounds _ _)[q * 2 + j]? = some u
  simp only [Array.getElem?_setIfInBounds, Array.size_setIfInBounds]
  rw [List.getElem?_set] at hq
  by_cases hqk : k = q
  · subst hqk
    rw [if_pos rfl, if_pos (by rw [hn]; exact hk)] at hq
    injection hq with hq
    subst hq
    rcases (show j = 0 ∨ j = 1 by omega) with rfl | rfl
    · rw [if_neg (by omega), if_pos (by omega), if_pos (by omega)]; exact hu
    · rw [if_pos rfl, if_pos (by omega)]; exact hu
  · rw [if_neg hqk] at hq
    rw [if_neg (by omega), if_neg (by omega)]
    exact h.cells hn hA hB hq hu
theorem RAll.setAt {η α : Type} {K : RKind η α} {B : Nat} {T : TypeId} {w : World} {hs : List η} {es : List α} {h : η} {e : α} (ha : RAll K B T w hs es) (k : Nat) (hi : RItem K B T w h e) : RAll K B T w (hs.set k h) (es.set k e) := by
  refine ⟨by simp [ha.1], fun i h' e' h1 h2 => ?_⟩
  rw [List.getElem?_set] at h1 h2
  by_cases hk : k = i
  · subst hk
    rw [if_pos rfl] at h1 h2
    split at h1
    · split at h2
      · injection h1 with h1
        injection h2 with h2
        subst h1 h2
        exact hi
      · cases h2
    · cases h1
  · rw [if_neg hk] at h1 h2
    exact ha.2 i h' e' h1 h2

set_option maxRecDepth 100000 in
set_option maxHeartbeats 4000000 in
theorem rwith_any (A : Option Addr) (n c B : Nat) (l : List Ob) (k : Nat) (S : Int) (Ao : Option Addr) (no co : Nat) (L : List UInt8) (w : World) (hr : RdR obK B 5 w A n l) (hB : B ≤ w.heap.size) (hn : n ≤ 1000000) (hk : k < n) (hX : RdX B 5 w Ao no L) (hno : no ≤ co) (hco : co ≤ maxLen) :
    Calls Try.prog 36 #[.slice A n c, .int .i64 k, .agg #[.int .u64 S, .slice Ao no co]] w fun e w' => ∃ v, e = .returned v ∧ OwnR obK 62 w.heap.size B 5 w' v (l.set k (S, L)) ∧ Below w.heap.size w w' := by
  have hlen := hr.len
  obtain ⟨hs, hG, hAll⟩ := hr
  have hsl : hs.length = n := by rw [hAll.1, hlen]
  obtain ⟨w1, hw1⟩ : ∃ w1, w1 = (w.alloc (.cells #[.int .u64 S, .slice Ao no co] 62)).alloc (.cells #[] 62) := ⟨_, rfl⟩
  have hb1 : Below w.heap.size w w1 := by rw [hw1]; exact (by (repeat (first | exact Below.refl _ _ | (refine Below.setCell ?_ (by first | omega | (simp; omega) | simp) _) | (refine Below.alloc ?_ (by first | omega | (simp; omega) | simp) _) | apply Below.drew | apply below_drewN)))
  have B0 : Blk w1 w.heap.size 62 #[.int .u64 S, .slice Ao no co] := by rw [hw1]; exact (Blk.new _ _ _).alloc _
  have B1 : Blk w1 (w.heap.size + 1) 62 #[] := by rw [hw1]; simpa using Blk.new (w.alloc (.cells #[.int .u64 S, .slice Ao no co] 62)) 62 #[]
  have hF0 : FreshG obE 62 (w.heap.size + 1) w1 (.slice (some ⟨w.heap.size + 1, 0, none⟩) 0 0) [] := FreshG.of_blk (n := 0) B1 (Nat.le_refl _) (by unfold maxLen; omega) rfl rfl
  have hG1 := hG.below hb1
  have hz1 : w1.heap.size = w.heap.size + 1 + 1 := by rw [hw1]; simp
  have HZ := Lib.hid hz1
  have HW := Lib.hid hw1
  clear hG hz1 hw1 B1
  go_enter Try.func36, Try.ntmps36
  go_wp2_with (at_builtin; rw [← HW.out]; refine wpList_append_G (E := obE) _ rfl (.tmp 8) (.tmp 9) _ rfl (w.heap.size + 1) 62 Try.underlying35 infoOb rfl (.slice (some ⟨w.heap.size + 1, 0, none⟩) 0 0) [] rfl hF0 A n c hs rfl hG1 (by simp; omega) (by simp; omega) (by rw [HZ.out]; omega) ?_; intro v2 w2 hF2 hg2 hb2; rw [List.nil_append] at hF2; obtain ⟨A2, c2, rfl, hR2, _, hn2, hm2⟩ := hF2.rdn n hsl; obtain ⟨g, cur, rfl, hgB, hBlk, hcs, hxx, hc2⟩ := hF2.open_ hsl (by omega); have hcs' : n * 2 ≤ cur.size := hcs; have B0' := B0.below hb2 (by omega); have cB0 := B0'.cell; have cB1 := hBlk.cell; have fB1 := hBlk.frozen; obtain ⟨u0, hu0⟩ : ∃ u, cur[k * 2]? = some u := ⟨_, Array.getElem?_eq_getElem (by omega)⟩; obtain ⟨u1, hu1⟩ : ∃ u, cur[k * 2 + 1]? = some u := ⟨_, Array.getElem?_eq_getElem (by omega)⟩; have hbb : Below w.heap.size w w2 := hb1.trans (hb2.mono (by omega)); clear hxx hR2 hb1 hG1)
  go_ret
  have hAll2 := ((hAll.below hbb).set_ hBlk (by decide) (by omega) (k * 2) (.int .u64 S)).set_ (hBlk.set_ (k * 2) (.int .u64 S)) (by decide) (by omega) (k * 2 + 1) (.slice Ao no co)
  have hX2 := ((hX.below hbb).set_ hBlk (by decide) (by omega) (k * 2) (.int .u64 S)).set_ (hBlk.set_ (k * 2) (.int .u64 S)) (by decide) (by omega) (k * 2 + 1) (.slice Ao no co)
  exact ⟨_, rfl, ⟨_, (hF2.setOb hsl rfl hBlk k hk (S, Ao, no, co)).from_ (by omega), hAll2.setAt k (show RItem obK _ _ _ (S, Ao, no, co) (S, L) from ⟨rfl, hX2, hno, hco⟩)⟩, (by (have q_hbb := Below.size hbb; (try simp at q_hbb); repeat (first | exact Below.refl _ _ | (refine Below.trans ?_ (Below.mono hbb (by first | omega | (simp; omega) | simp))) | (refine Below.setCell ?_ (by first | omega | (simp; omega) | simp) _) | (refine Below.alloc ?_ (by first | omega | (simp; omega) | simp) _) | apply Below.drew | apply below_drewN)))⟩
end Go.Proofs.Ytnocjjaebemkoaa
