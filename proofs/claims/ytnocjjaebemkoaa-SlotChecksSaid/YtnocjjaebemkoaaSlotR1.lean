/- Slots, by the document: objects; There, First, With. -/
import Derived.Test.YtnocjjaebemkoaaSlotM
import Derived.Test.YtnocjjaebemkoaaRec
import Derived.Test.YtnocjjaebemkoaaNums
namespace Go.Proofs.Ytnocjjaebemkoaa
open Go.RowKit

abbrev ObH := Int × (Option Addr × Nat × Nat)
def obE : Enc ObH where
  sz := 2
  f x := [.int .u64 x.1, .slice x.2.1 x.2.2.1 x.2.2.2]
  len _ := rfl
  pos := by decide
  one x u hu := by
    simp at hu
    rcases hu with rfl | rfl <;> rfl
def obK : RKind ObH Ob := ⟨obE, fun h => h.2, fun e => e.2, fun h e => h.1 = e.1⟩
theorem infoOb : (Try.prog.info? 62).map (fun i => (i.zero, i.size, i.bytes)) = some (some (.agg #[.int .u64 0, .slice none 0 0]), 2, 32) := by kernel_rfl
theorem RdR.drew {η α : Type} {K : RKind η α} {B : Nat} {T : TypeId} {w : World} {A : Option Addr} {n : Nat} {es : List α} (h : RdR K B T w A n es) : RdR K B T w.drew A n es := h.below ((Below.refl _ _).drew)
/-- What an object's place tells. -/
theorem RdR.ob {B : Nat} {T : TypeId} {w : World} {A : Option Addr} {n k : Nat} {es : List Ob} (hr : RdR obK B T w A n es) (hk : k < n) : ∃ b off K Ad nd cd L, A = some ⟨b, off, none⟩ ∧ b < w.heap.size ∧ es[k]? = some (K, L) ∧ w.cell? ⟨b, off + k * 2, none⟩ = some (.int .u64 K) ∧ w.cell? ⟨b, off + k * 2 + 1, none⟩ = some (.slice Ad nd cd) ∧ RdX B T w Ad nd L ∧ nd ≤ cd ∧ cd ≤ maxLen := by
  obtain ⟨b, off, ⟨hK, Ad, nd, cd⟩, ⟨K, L⟩, hA, hb, he, hc, hi⟩ := hr.at_ hk
  obtain ⟨e1, e2, e3, e4⟩ := hi
  have e1' : hK = K := e1
  subst e1'
  have h0 : w.cell? ⟨b, off + k * 2 + 0, none⟩ = _ := hc 0 _ rfl
  have h1 : w.cell? ⟨b, off + k * 2 + 1, none⟩ = _ := hc 1 _ rfl
  exact ⟨b, off, hK, Ad, nd, cd, L, hA, hb, he, h0, h1, e2, e3, e4⟩

set_option maxHeartbeats 1000000 in
theorem rthere_any (A : Option Addr) (n c B : Nat) (T : TypeId) (l : List Ob) (k : Int) (w : World) (hr : RdR obK B T w A n l) :
    Calls Try.prog 28 #[.slice A n c, .int .i64 k] w fun e w' => e = .returned (.bool (thereL l k)) ∧ w = w' := by
  have hlen := hr.len
  obtain ⟨M, hM⟩ : ∃ M, M = thereL l k := ⟨_, rfl⟩
  rw [← hM]
  unfold thereL at hM
  rw [hlen] at hM
  by_cases h0 : 0 ≤ k
  · by_cases h1 : k < n
    · obtain ⟨j, rfl⟩ : ∃ j : Nat, k = j := ⟨k.toNat, by omega⟩
      obtain ⟨b, off, S, Ad, nd, cd, L, rfl, hb, he, hc0, hc1, hX, _, _⟩ := hr.ob (k := j) (by omega)
      have hMz : M = decide (0 < S) := by
        rw [hM, decide_eq_true h0, decide_eq_true h1, Bool.true_and, Bool.true_and, Int.toNat_natCast]
        simp [List.getD, he]
      clear hM he hX hr
      have HM := Lib.hid hMz
      clear hMz
      by_cases hS : 0 < S
      · rw [show M = true by rw [HM.out]; exact decide_eq_true hS]
        clear HM
        go_enter Try.func28, Try.ntmps28
        go_wp2_with fail
        go_ret
        exact ⟨rfl, rfl⟩
      · rw [show M = false by rw [HM.out]; exact decide_eq_false hS]
        clear HM
        go_enter Try.func28, Try.ntmps28
        go_wp2_with fail
        go_ret
        exact ⟨rfl, rfl⟩
    · rw [show M = false by rw [hM, decide_eq_false h1]; simp]
      clear hM
      go_enter Try.func28, Try.ntmps28
      go_wp2_with fail
      go_ret
      exact ⟨rfl, rfl⟩
  · rw [show M = false by rw [hM, decide_eq_false h0]; simp]
    clear hM
    go_enter Try.func28, Try.ntmps28
    go_wp2_with fail
    go_ret
    exact ⟨rfl, rfl⟩
/-- None of the first k is free. -/
def noneL (l : List Ob) (k : Nat) : Prop := ∀ j o, j < k → l[j]? = some o → o.1 ≠ 0
theorem noneL_step {l : List Ob} {k : Nat} {o : Ob} (h : noneL l k) (hk : l[k]? = some o) (ho : o.1 ≠ 0) : noneL l (k + 1) := by
  intro j o' hj ho'
  rcases Nat.lt_or_ge j k with h1 | h1
  · exact h j o' h1 ho'
  · obtain rfl : j = k := by omega
    rw [hk] at ho'
    injection ho' with ho'
    rw [← ho']; exact ho
theorem firstL_at {l : List Ob} {k : Nat} {o : Ob} (h : noneL l k) (hk : l[k]? = some o) (ho : o.1 = 0) : firstL l = k := by
  unfold firstL
  have hkl := (List.getElem?_eq_some_iff.1 hk).1
  have e : l.findIdx? (fun o => decide (o.1 = 0)) = some k := by
    rw [List.findIdx?_eq_some_iff_getElem]
    refine ⟨hkl, by rw [(List.getElem?_eq_some_iff.1 hk).2]; simp [ho], fun j hj => ?_⟩
    have := h j l[j] hj (List.getElem?_eq_getElem (by omega))
    simp [this]
  rw [e]
theorem firstL_none {l : List Ob} (h : noneL l l.length) : firstL l = -1 := by
  unfold firstL
  have e : l.findIdx? (fun o => decide (o.1 = 0)) = none := by
    rw [List.findIdx?_eq_none_iff]
    intro o ho
    obtain ⟨j, hj, rfl⟩ := List.mem_iff_getElem.1 ho
    have := h j _ hj (List.getElem?_eq_getElem hj)
    simp [this]
  rw [e]

set_option maxHeartbeats 2000000 in
theorem rfirst_any (A : Option Addr) (n c B : Nat) (T : TypeId) (l : List Ob) (w : World) (hr : RdR obK B T w A n l) (hn : n ≤ 1000000) :
    Calls Try.prog 29 #[.slice A n c] w fun e w' => e = .returned (.int .i64 (firstL l)) ∧ Below w.heap.size w w' := by
  have hlen := hr.len
  obtain ⟨M, hM⟩ : ∃ M, M = firstL l := ⟨_, rfl⟩
  rw [← hM]
  have HM := Lib.hid hM
  clear hM
  go_enter Try.func29, Try.ntmps29
  go_wp2_with fail
  go_loopw [7] (fun i wr => ∃ k : Nat, k ≤ n ∧ i = .int .i64 k ∧ Hid (noneL l k) ∧ Below w.heap.size w wr) (fun i _ => n - (intOf i).toNat)
  case atStart => exact ⟨0, by omega, rfl, Lib.hid (fun j o hj => absurd hj (by omega)), Below.refl _ _⟩
  case round =>
    obtain ⟨k, hk, rfl, hG, hbel⟩ := hrel
    have hbz := hbel.size
    by_cases hlt : k < n
    · obtain ⟨b, off, S, Ad, nd, cd, L, rfl, hb, he, hc0, hc1, hX, _, _⟩ := (hr.below hbel).ob (k := k) hlt
      have HE := Lib.hid he
      have hB := Blk.new wr 62 #[.int .u64 S, .slice Ad nd cd]
      have hcx := hB.cell
      clear he hX hB
      by_cases hS : S = 0
      · subst hS
        have hq : M = (k : Int) := by rw [HM.out]; exact firstL_at hG.out HE.out rfl
        subst hq
        clear HM HE hG
        go_wp2_with fail
        go_ret
        exact ⟨rfl, (by (have q_hbel := Below.size hbel; (try simp at q_hbel); repeat (first | exact Below.refl _ _ | (refine Below.trans ?_ (Below.mono hbel (by first | omega | (simp; omega) | simp))) | (refine Below.setCell ?_ (by first | omega | (simp; omega) | simp) _) | (refine Below.alloc ?_ (by first | omega | (simp; omega) | simp) _) | apply Below.drew | apply below_drewN)))⟩
      · have HG := Lib.hid (noneL_step hG.out HE.out hS)
        have hS' : (S == 0) = false := by simpa using hS
        clear HE hG
        go_wp2_with fail
        go_roundw
        case rel => exact ⟨k + 1, by omega, by go_num, HG, (by (have q_hbel := Below.size hbel; (try simp at q_hbel); repeat (first | exact Below.refl _ _ | (refine Below.trans ?_ (Below.mono hbel (by first | omega | (simp; omega) | simp))) | (refine Below.setCell ?_ (by first | omega | (simp; omega) | simp) _) | (refine Below.alloc ?_ (by first | omega | (simp; omega) | simp) _) | apply Below.drew | apply below_drewN)))⟩
        case measure => simp [intOf] <;> omega
    · obtain rfl : k = n := by omega
      have hq : M = -1 := by rw [HM.out]; exact firstL_none (by rw [hlen]; exact hG.out)
      subst hq
      clear HM hG
      go_wp2_with fail
      go_ret
      exact ⟨rfl, hbel⟩
end Go.Proofs.Ytnocjjaebemkoaa
