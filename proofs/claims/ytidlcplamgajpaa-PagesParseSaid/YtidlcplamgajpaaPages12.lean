/- Pages: what is taken, given and turned, in plain Lean. -/
import Derived.Test.YtidlcplamgajpaaPages11
import Derived.Test.YtidlcplamgajpaaPages8
namespace Go.Proofs.Ytidlcplamgajpaa
open Go.RowKit

theorem zero_of_free {p : Pg} (h : freeB p = true) : p = zeroPg := by simpa [freeB, eqPg, zeroPg] using h
theorem not_tail_of_free {p : Pg} (h : freeB p = true) : tailB p = false := by rw [zero_of_free h]; decide
theorem want_free : ∀ (l : List Pg), l.all freeB = true → wantF 0 l = some 0
  | [], _ => rfl
  | p :: r, h => by
    rw [List.all_cons, Bool.and_eq_true] at h
    have hp := zero_of_free h.1
    subst hp
    rw [wantF, if_pos (by decide)]
    exact want_free r h.2
theorem want_tails : ∀ m : Nat, wantF (m : Int) (List.replicate m ((3, 0, 0, 0, 0) : Pg)) = some 0
  | 0 => rfl
  | m + 1 => by
    rw [List.replicate_succ, wantF, if_pos (by rw [decide_eq_true (by omega)]; decide), if_pos (by omega), show ((m + 1 : Nat) : Int) - 1 = (m : Int) from by omega]
    exact want_tails m
theorem want_run : ∀ (r : List Pg) (z : Int), wantF (r.length : Int) r = some z → z = 0
  | [], z, h => by simp [wantF] at h; exact h.symm
  | p :: r, z, h => by
    rw [wantF, List.length_cons] at h
    split at h
    · rw [if_pos (by omega), show ((r.length + 1 : Nat) : Int) - 1 = (r.length : Int) from by omega] at h
      exact want_run r z h
    · cases h
theorem parts (l : List Pg) (k m : Nat) : l = l.take k ++ ((l.take (k + m)).drop k ++ l.drop (k + m)) := by
  have h1 : (l.take (k + m)).take k = l.take k := by rw [List.take_take, Nat.min_eq_left (by omega)]
  rw [← List.append_assoc, ← h1, List.take_append_drop, List.take_append_drop]
theorem layQ_parts (l : List Pg) (k m : Nat) (q : Pg) (h : k + m ≤ l.length) : layQ l k m q = l.take k ++ (List.replicate m q ++ l.drop (k + m)) := by
  apply List.ext_getElem?
  intro i
  unfold layQ
  rw [List.getElem?_mapIdx]
  have e : (l.take k).length = k := by simp; omega
  by_cases h1 : i < k
  · rw [List.getElem?_append_left (by omega), List.getElem?_take, if_pos h1]
    cases l[i]? with
    | none => rfl
    | some x => simp only [Option.map_some]; rw [if_neg (by omega)]
  · rw [List.getElem?_append_right (by omega), e]
    by_cases h2 : i < k + m
    · rw [List.getElem?_append_left (by simp; omega), List.getElem?_replicate, if_pos (by omega), List.getElem?_eq_getElem (by omega)]
      simp only [Option.map_some]; rw [if_pos (by omega)]
    · rw [List.getElem?_append_right (by simp; omega), List.length_replicate, List.getElem?_drop, show k + m + (i - k - m) = i from by omega]
      cases l[i]? with
      | none => rfl
      | some x => simp only [Option.map_some]; rw [if_neg (by omega)]
theorem layP_parts (l : List Pg) (k m : Nat) (p q : Pg) (h : k + (m + 1) ≤ l.length) : layP l k (m + 1) p q = l.take k ++ ((p :: List.replicate m q) ++ l.drop (k + (m + 1))) := by
  have e : (l.take k).length = k := by simp; omega
  rw [← layQ_head l k (m + 1) p q (by omega), layQ_parts l k (m + 1) q h, List.set_append_right _ _ (by omega), e, Nat.sub_self, List.replicate_succ]
  rfl
theorem mid_cons {l : List Pg} {k m : Nat} {p : Pg} (hp : l[k]? = some p) (h : k + (m + 1) ≤ l.length) : ∃ r, (l.take (k + (m + 1))).drop k = p :: r ∧ r.length = m := by
  have hl : ((l.take (k + (m + 1))).drop k).length = m + 1 := by simp; omega
  have h0 : ((l.take (k + (m + 1))).drop k)[0]? = some p := by
    rw [List.getElem?_drop, List.getElem?_take, if_pos (by omega)]; exact hp
  cases hx : (l.take (k + (m + 1))).drop k with
  | nil => rw [hx] at hl; simp at hl
  | cons x r =>
    rw [hx] at h0 hl
    simp at h0 hl
    exact ⟨r, by rw [h0], hl⟩
theorem okL_mk {l : List Pg} (h1 : l.length ≤ 64) (h2 : l.any badB = false) (h3 : wantF 0 l = some 0) : okL l = true := by
  unfold okL
  simp [h1, h2, h3]
theorem any_take {l : List Pg} {k : Nat} (h : l.any badB = false) : (l.take k).any badB = false := by
  rw [List.any_eq_false] at h ⊢
  exact fun x hx => h x (List.mem_of_mem_take hx)
theorem any_drop {l : List Pg} {k : Nat} (h : l.any badB = false) : (l.drop k).any badB = false := by
  rw [List.any_eq_false] at h ⊢
  exact fun x hx => h x (List.mem_of_mem_drop hx)
/-- A part is put in for another. -/
theorem want_swap {l1 r l2 mid' : List Pg} {p : Pg} (h : wantF 0 (l1 ++ ((p :: r) ++ l2)) = some 0) (hb : l1.any badB = false) (ht : tailB p = false) (hz : ∀ z, wantF 0 (p :: r) = some z → z = 0) (hm : wantF 0 mid' = some 0) : wantF 0 (l1 ++ (mid' ++ l2)) = some 0 := by
  rw [want_split] at h ⊢
  cases h1 : wantF 0 l1 with
  | none => rw [h1] at h; cases h
  | some y =>
    rw [h1] at h
    simp only at h ⊢
    have hy := want_range l1 0 y hb (by omega) (by omega) h1
    have hy0 : y = 0 := by
      rw [List.cons_append, wantF] at h
      split at h
      · rename_i hd
        rw [ht] at hd
        have := of_decide_eq_false hd
        omega
      · cases h
    subst hy0
    rw [want_split] at h ⊢
    rw [hm]
    cases h2 : wantF 0 (p :: r) with
    | none => rw [h2] at h; cases h
    | some z =>
      rw [h2] at h
      rw [hz z h2] at h
      exact h
theorem okL_swap {l : List Pg} {k m : Nat} {p : Pg} {mid' : List Pg} (ho : okL l = true) (hp : l[k]? = some p) (hk : k + (m + 1) ≤ l.length) (ht : tailB p = false) (hz : ∀ r z, (l.take (k + (m + 1))).drop k = p :: r → r.length = m → wantF 0 (p :: r) = some z → z = 0) (hm : wantF 0 mid' = some 0) (hml : mid'.length = m + 1) (hmb : mid'.any badB = false) : okL (l.take k ++ (mid' ++ l.drop (k + (m + 1)))) = true := by
  obtain ⟨h1, h2, h3⟩ := okL_parts ho
  obtain ⟨r, hr, hrl⟩ := mid_cons (m := m) hp hk
  refine okL_mk ?_ ?_ ?_
  · simp; omega
  · rw [List.any_append, List.any_append, any_take h2, hmb, any_drop h2]; rfl
  · rw [parts l k (m + 1), hr] at h3
    exact want_swap h3 (any_take h2) ht (fun z => hz r z hr hrl) hm
/-- A head's pages lie within. -/
theorem head_room {l : List Pg} {k : Nat} {p : Pg} (ho : okL l = true) (hp : l[k]? = some p) (h2 : p.1 = 2) : 1 ≤ p.2.2.1 ∧ p.2.2.1 ≤ 16 ∧ k + p.2.2.1.toNat ≤ l.length := by
  obtain ⟨o1, o2, o3⟩ := okL_parts ho
  have hkl := (List.getElem?_eq_some_iff.1 hp).1
  have hnb : badB p = false := by
    rw [List.any_eq_false] at o2
    have := o2 p (List.mem_of_getElem? hp)
    simpa using this
  have hr := may_run hnb h2
  refine ⟨hr.1, hr.2, ?_⟩
  have ht : tailB p = false := by unfold tailB eqPg; obtain ⟨a, b, c, d, s⟩ := p; simp only at h2; simp [h2]
  obtain ⟨r, hmid, hrl⟩ := mid_cons (m := 0) hp (by omega)
  rw [parts l k (0 + 1), hmid, want_split] at o3
  cases h1 : wantF 0 (l.take k) with
  | none => rw [h1] at o3; cases o3
  | some y =>
    rw [h1] at o3
    simp only at o3
    have hy := want_range _ 0 y (any_take o2) (by omega) (by omega) h1
    rw [List.cons_append, wantF] at o3
    split at o3
    · rename_i hd
      rw [ht] at hd
      have := of_decide_eq_false hd
      have hrr : (r ++ l.drop (k + (0 + 1))).any badB = false := by
        have hq := any_drop (k := k) o2
        rw [List.drop_eq_getElem_cons hkl] at hq
        rw [List.any_cons, Bool.or_eq_false_iff] at hq
        rw [List.eq_nil_of_length_eq_zero hrl]
        exact hq.2
      have := want_left _ _ _ hrr (by omega) (by omega) o3
      rw [List.length_append, List.length_drop] at this
      omega
    · cases o3

theorem takeErr_zero {l : List Pg} {a size s : Int} (h : takeErr l a size s = 0) : okL l = true ∧ longB size = true ∧ serB s = true ∧ 0 ≤ a ∧ a + pagesC size ≤ l.length ∧ ((l.take (a.toNat + (pagesC size).toNat)).drop a.toNat).any takenB = false := by
  unfold takeErr at h
  split at h
  · split at h
    · split at h
      · split at h
        · cases h
        · rename_i h1 h2 h3 h4
          exact ⟨h1, h2.1, h2.2, h3.1, h3.2, by simpa using h4⟩
      · cases h
    · cases h
  · cases h
theorem all_free_of {l : List Pg} (h : l.any takenB = false) : l.all freeB = true := by
  rw [List.any_eq_false] at h
  rw [List.all_eq_true]
  intro x hx
  have := h x hx
  simpa [takenB] using this
theorem head_ok {size s : Int} (h1 : longB size = true) (h2 : serB s = true) : badB (headP size s) = false := by
  have hs : 1 ≤ s ∧ s ≤ 281474976710655 := by unfold serB at h2; simpa using h2
  unfold badB headP
  rw [may2, h1, decide_eq_true rfl, decide_eq_true rfl, decide_eq_true (by omega), decide_eq_true (by omega)]
  rfl
theorem take_ok {l : List Pg} {a size s : Int} (h : takeErr l a size s = 0) : okL (takeR l a size s) = true ∧ (takeR l a size s).length = l.length := by
  obtain ⟨h1, h2, h3, h4, h5, h6⟩ := takeErr_zero h
  obtain ⟨p1, p2⟩ := pagesC_range h2
  obtain ⟨k, rfl⟩ := Int.eq_ofNat_of_zero_le h4
  obtain ⟨P, hP⟩ := Int.eq_ofNat_of_zero_le (show 0 ≤ pagesC size by omega)
  obtain ⟨m, rfl⟩ : ∃ m, P = m + 1 := ⟨P - 1, by omega⟩
  rw [hP] at h5 h6
  simp only [Int.toNat_natCast] at h6
  have hk : k + (m + 1) ≤ l.length := by omega
  unfold takeR
  rw [if_pos h, hP]
  simp only [Int.toNat_natCast]
  refine ⟨?_, layP_len _ _ _ _ _⟩
  have hp : l[k]? = some l[k] := List.getElem?_eq_getElem (by omega)
  obtain ⟨r, hr, hrl⟩ := mid_cons (m := m) hp hk
  have hall := all_free_of h6
  rw [hr, List.all_cons, Bool.and_eq_true] at hall
  rw [layP_parts l k m _ _ hk]
  refine okL_swap h1 hp hk (not_tail_of_free hall.1) ?_ ?_ (by simp) ?_
  · intro r' z hr' _ hw
    rw [hr] at hr'
    injection hr' with _ hr'
    subst hr'
    rw [want_free _ (by rw [List.all_cons, hall.1, hall.2]; rfl)] at hw
    injection hw with hw
    exact hw.symm
  · rw [wantF, if_pos (by rw [show tailB (headP size s) = false from by unfold tailB eqPg headP; simp]; decide), if_neg (by omega), if_pos (show (headP size s).1 = 2 from rfl)]
    show wantF (pagesC size - 1) _ = _
    rw [hP, show ((m + 1 : Nat) : Int) - 1 = (m : Int) from by omega]
    exact want_tails m
  · rw [List.any_cons, head_ok h2 h3, List.any_eq_false.2]
    · rfl
    · intro x hx
      rw [List.eq_of_mem_replicate hx]
      decide

/-- The page at a place. -/
def nthPg (l : List Pg) (a : Int) : Pg := (l[a.toNat]?).getD zeroPg
/-- Give's error, and what is left. -/
def giveErr (l : List Pg) (a : Int) : Int := if okL l = true then (if 0 ≤ a ∧ a < l.length ∧ (nthPg l a).1 = 2 then 0 else 6) else 4
def giveR (l : List Pg) (a : Int) : List Pg := if giveErr l a = 0 then layQ l a.toNat (nthPg l a).2.2.1.toNat zeroPg else []
theorem gv4 {l : List Pg} {a : Int} (h : okL l = false) : giveErr l a = 4 ∧ giveR l a = [] := by
  have e : giveErr l a = 4 := by unfold giveErr; simp [h]
  exact ⟨e, by unfold giveR; rw [e]; rfl⟩
theorem gv6 {l : List Pg} {a : Int} (h : okL l = true) (h2 : ¬ (0 ≤ a ∧ a < l.length ∧ (nthPg l a).1 = 2)) : giveErr l a = 6 ∧ giveR l a = [] := by
  have e : giveErr l a = 6 := by unfold giveErr; rw [if_pos h, if_neg h2]
  exact ⟨e, by unfold giveR; rw [e]; rfl⟩
theorem gv0 {l : List Pg} {k : Nat} {p : Pg} (h : okL l = true) (hp : l[k]? = some p) (h2 : p.1 = 2) : giveErr l k = 0 ∧ giveR l k = layQ l k p.2.2.1.toNat zeroPg := by
  have hn : nthPg l k = p := by unfold nthPg; simp [hp]
  have hkl := (List.getElem?_eq_some_iff.1 hp).1
  have e : giveErr l k = 0 := by unfold giveErr; rw [if_pos h, if_pos ⟨by omega, by omega, by rw [hn]; exact h2⟩]
  exact ⟨e, by unfold giveR; rw [if_pos e, hn]; rfl⟩
theorem give_ok {l : List Pg} {a : Int} (h : giveErr l a = 0) : okL (giveR l a) = true ∧ (giveR l a).length = l.length := by
  have h' := h
  unfold giveErr at h'
  split at h'
  · split at h'
    · rename_i ho hx
      obtain ⟨h4, h5, h6⟩ := hx
      obtain ⟨k, rfl⟩ := Int.eq_ofNat_of_zero_le h4
      have hp : l[k]? = some l[k] := List.getElem?_eq_getElem (by omega)
      have hn : nthPg l k = l[k] := by unfold nthPg; simp [hp]
      rw [hn] at h6
      obtain ⟨r1, r2, r3⟩ := head_room ho hp h6
      rw [(gv0 ho hp h6).2]
      refine ⟨?_, layQ_len _ _ _ _⟩
      obtain ⟨m, hm⟩ : ∃ m : Nat, l[k].2.2.1 = ((m + 1 : Nat) : Int) := ⟨l[k].2.2.1.toNat - 1, by omega⟩
      rw [hm]
      rw [hm] at r3
      simp only [Int.toNat_natCast] at r3 ⊢
      rw [layQ_parts _ _ _ _ r3]
      refine okL_swap ho hp r3 ?_ ?_ ?_ (by simp) ?_
      · unfold tailB eqPg
        rcases hq : l[k] with ⟨a, b, c, d, s⟩
        rw [hq] at h6
        simp only at h6
        simp [h6]
      · intro r z _ hrl hw
        rw [wantF] at hw
        split at hw
        · rw [hm, show ((m + 1 : Nat) : Int) - 1 = (m : Int) from by omega, ← hrl] at hw
          exact want_run r z hw
        · cases hw
      · exact want_free _ (by rw [List.all_eq_true]; intro x hx; rw [List.eq_of_mem_replicate hx]; decide)
      · rw [List.any_eq_false]; intro x hx; rw [List.eq_of_mem_replicate hx]; decide
    · cases h'
  · cases h'

/-- Turn's error, and what it makes. -/
def turnErr (l : List Pg) (a c : Int) : Int := if okL l = true then (if 0 ≤ a ∧ a < l.length then (if c = -1 then (if (nthPg l a).1 = 1 then 0 else 6) else if sizeI c = 0 then 1 else if (nthPg l a).1 = 0 then 0 else 7) else 3) else 4
def turnP (c : Int) : Pg := if c = -1 then zeroPg else (1, c, 0, 0, 0)
def turnR (l : List Pg) (a c : Int) : List Pg := if turnErr l a c = 0 then l.set a.toNat (turnP c) else []
theorem turnR_no {l : List Pg} {a c x : Int} (h : turnErr l a c = x) (hx : x ≠ 0) : turnErr l a c = x ∧ turnR l a c = [] := ⟨h, by unfold turnR; rw [h, if_neg hx]⟩
theorem tn4 {l : List Pg} {a c : Int} (h : okL l = false) : turnErr l a c = 4 ∧ turnR l a c = [] := turnR_no (by unfold turnErr; simp [h]) (by decide)
theorem tn3 {l : List Pg} {a c : Int} (h : okL l = true) (h2 : ¬ (0 ≤ a ∧ a < l.length)) : turnErr l a c = 3 ∧ turnR l a c = [] := turnR_no (by unfold turnErr; rw [if_pos h, if_neg h2]) (by decide)
theorem nth_get {l : List Pg} {k : Nat} {p : Pg} (hp : l[k]? = some p) : nthPg l k = p := by unfold nthPg; simp [hp]
theorem tn6 {l : List Pg} {k : Nat} {p : Pg} (h : okL l = true) (hp : l[k]? = some p) (h1 : p.1 ≠ 1) : turnErr l k (-1) = 6 ∧ turnR l k (-1) = [] := by
  have hkl := (List.getElem?_eq_some_iff.1 hp).1
  exact turnR_no (by unfold turnErr; rw [if_pos h, if_pos (by omega), if_pos rfl, nth_get hp, if_neg h1]) (by decide)
theorem tn1 {l : List Pg} {k : Nat} {p : Pg} {c : Int} (h : okL l = true) (hp : l[k]? = some p) (hc : c ≠ -1) (h1 : sizeI c = 0) : turnErr l k c = 1 ∧ turnR l k c = [] := by
  have hkl := (List.getElem?_eq_some_iff.1 hp).1
  exact turnR_no (by unfold turnErr; rw [if_pos h, if_pos (by omega), if_neg hc, if_pos h1]) (by decide)
theorem tn7 {l : List Pg} {k : Nat} {p : Pg} {c : Int} (h : okL l = true) (hp : l[k]? = some p) (hc : c ≠ -1) (h1 : sizeI c ≠ 0) (h7 : p.1 ≠ 0) : turnErr l k c = 7 ∧ turnR l k c = [] := by
  have hkl := (List.getElem?_eq_some_iff.1 hp).1
  exact turnR_no (by unfold turnErr; rw [if_pos h, if_pos (by omega), if_neg hc, if_neg h1, nth_get hp, if_neg h7]) (by decide)
theorem tn0 {l : List Pg} {k : Nat} {p : Pg} (h : okL l = true) (hp : l[k]? = some p) (h1 : p.1 = 1) : turnErr l k (-1) = 0 ∧ turnR l k (-1) = l.set k zeroPg := by
  have hkl := (List.getElem?_eq_some_iff.1 hp).1
  have e : turnErr l k (-1) = 0 := by unfold turnErr; rw [if_pos h, if_pos (by omega), if_pos rfl, nth_get hp, if_pos h1]
  exact ⟨e, by unfold turnR; rw [if_pos e]; rfl⟩
theorem tn0' {l : List Pg} {k : Nat} {p : Pg} {c : Int} (h : okL l = true) (hp : l[k]? = some p) (hc : c ≠ -1) (h1 : sizeI c ≠ 0) (h0 : p.1 = 0) : turnErr l k c = 0 ∧ turnR l k c = l.set k (1, c, 0, 0, 0) := by
  have hkl := (List.getElem?_eq_some_iff.1 hp).1
  have e : turnErr l k c = 0 := by unfold turnErr; rw [if_pos h, if_pos (by omega), if_neg hc, if_neg h1, nth_get hp, if_pos h0]
  exact ⟨e, by unfold turnR; rw [if_pos e]; unfold turnP; rw [if_neg hc]; rfl⟩
/-- A page of pages that may be is taken just if its kind is not 0. -/
theorem taken_kind {l : List Pg} {k : Nat} {p : Pg} (h : okL l = true) (hp : l[k]? = some p) : freeB p = decide (p.1 = 0) := by
  have o2 := (okL_parts h).2.1
  rw [List.any_eq_false] at o2
  have hm : mayB p = true := by
    have := o2 p (List.mem_of_getElem? hp)
    simpa [badB] using this
  obtain ⟨a, b, c, d, s⟩ := p
  simp only
  by_cases h0 : a = 0
  · subst h0
    rw [may0] at hm
    unfold freeB
    rw [hm]
    rfl
  · unfold freeB eqPg
    simp [h0]
theorem turn_ok {l : List Pg} {a c : Int} (hs : 0 ≤ sizeI c) (h : turnErr l a c = 0) : okL (turnR l a c) = true ∧ (turnR l a c).length = l.length := by
  have h' := h
  unfold turnErr at h'
  unfold turnR
  rw [if_pos h]
  split at h'
  · split at h'
    · rename_i ho hx
      obtain ⟨h4, h5⟩ := hx
      obtain ⟨k, rfl⟩ := Int.eq_ofNat_of_zero_le h4
      have hp : l[k]? = some l[k] := List.getElem?_eq_getElem (by omega)
      rw [nth_get hp] at h'
      simp only [Int.toNat_natCast]
      refine ⟨?_, by simp⟩
      have o2 := (okL_parts ho).2.1
      rw [List.any_eq_false] at o2
      have hm : mayB l[k] = true := by
        have := o2 l[k] (List.mem_of_getElem? hp)
        simpa [badB] using this
      have hkind : l[k].1 = 0 ∨ l[k].1 = 1 := by
        split at h'
        · split at h'
          · right; assumption
          · cases h'
        · split at h'
          · cases h'
          · split at h'
            · left; assumption
            · cases h'
      have hpb : badB (turnP c) = false := by
        unfold turnP
        split
        · decide
        · rename_i hc
          rw [if_neg hc] at h'
          split at h'
          · cases h'
          · unfold badB
            rw [may1, decide_eq_true (by omega)]
            simp [eqPg]
      have htk : tailB (turnP c) = false := by
        unfold turnP tailB eqPg
        split
        · decide
        · simp
      have hk2 : (turnP c).1 ≠ 2 := by
        unfold turnP
        split
        · decide
        · simp
      rw [layP_one l k (turnP c) (turnP c), layP_parts l k 0 _ _ (by omega)]
      have ht : tailB l[k] = false := by
        rw [tail_of hm]
        rcases hkind with h | h <;> rw [h] <;> rfl
      refine okL_swap ho hp (by omega) ht ?_ ?_ (by simp) (by rw [List.any_cons, hpb]; rfl)
      · intro r z _ hrl hw
        have : r = [] := List.eq_nil_of_length_eq_zero hrl
        subst this
        rw [wantF] at hw
        split at hw
        · rw [if_neg (by omega), if_neg (by rcases hkind with h | h <;> rw [h] <;> decide), wantF] at hw
          injection hw with hw
          exact hw.symm
        · cases hw
      · show wantF 0 [turnP c] = some 0
        rw [wantF, if_pos (by rw [htk]; decide), if_neg (by omega), if_neg hk2, wantF]
    · cases h'
  · cases h'

/-- What was taken and is given is as it was. -/
theorem undo_ok {l : List Pg} {a size s : Int} (h : takeErr l a size s = 0) : giveErr (takeR l a size s) a = 0 ∧ giveR (takeR l a size s) a = l := by
  have hok := (take_ok h).1
  obtain ⟨h1, h2, h3, h4, h5, h6⟩ := takeErr_zero h
  obtain ⟨p1, p2⟩ := pagesC_range h2
  obtain ⟨k, rfl⟩ := Int.eq_ofNat_of_zero_le h4
  obtain ⟨P, hP⟩ := Int.eq_ofNat_of_zero_le (show 0 ≤ pagesC size by omega)
  rw [hP] at h5 h6
  simp only [Int.toNat_natCast] at h6
  have e : takeR l k size s = layP l k P (headP size s) (3, 0, 0, 0, 0) := by
    unfold takeR
    rw [if_pos h, hP]
    rfl
  rw [e] at hok ⊢
  have hkl : k < l.length := by omega
  have hp : (layP l k P (headP size s) (3, 0, 0, 0, 0))[k]? = some (headP size s) := by
    unfold layP
    rw [List.getElem?_mapIdx, List.getElem?_eq_getElem hkl]
    simp
  obtain ⟨g1, g2⟩ := gv0 hok hp rfl
  refine ⟨g1, ?_⟩
  rw [g2, show (headP size s).2.2.1 = (P : Int) from hP]
  simp only [Int.toNat_natCast]
  apply List.ext_getElem?
  intro i
  unfold layQ layP
  rw [List.getElem?_mapIdx, List.getElem?_mapIdx]
  by_cases hi : i < l.length
  · rw [List.getElem?_eq_getElem hi]
    simp only [Option.map_some]
    by_cases hin : k ≤ i ∧ i < k + P
    · rw [if_pos hin]
      have hall := all_free_of h6
      rw [List.all_eq_true] at hall
      have hm : l[i] ∈ (l.take (k + P)).drop k := by
        refine List.mem_of_getElem? (i := i - k) ?_
        rw [List.getElem?_drop, List.getElem?_take, if_pos (by omega), show k + (i - k) = i from by omega, List.getElem?_eq_getElem hi]
      rw [zero_of_free (hall _ hm)]
    · rw [if_neg hin, if_neg (by omega), if_neg (by omega)]
  · rw [List.getElem?_eq_none (by omega)]
    rfl
theorem take_free {l : List Pg} {k : Nat} {size s : Int} (h1 : okL l = true) (h2 : longB size = true) (h3 : serB s = true) : takeErr l k size s = 0 ↔ freeN l k (pagesC size).toNat = true := by
  obtain ⟨p1, p2⟩ := pagesC_range h2
  obtain ⟨P, hP⟩ := Int.eq_ofNat_of_zero_le (show 0 ≤ pagesC size by omega)
  have key : (l.take (k + P)).drop k = (l.drop k).take P := by rw [List.drop_take, show k + P - k = P from by omega]
  unfold takeErr freeN
  rw [if_pos h1, if_pos ⟨h2, h3⟩, hP]
  simp only [Int.toNat_natCast, key]
  by_cases hk : k + P ≤ l.length
  · rw [if_pos (by omega), decide_eq_true hk, Bool.true_and]
    cases ha : ((l.drop k).take P).any takenB
    · simp [all_free_of ha]
    · simp
      rw [List.any_eq_true] at ha
      obtain ⟨x, hx, hf⟩ := ha
      exact ⟨_, _, _, _, _, hx, by simpa [takenB] using hf⟩
  · rw [if_neg (by omega), decide_eq_false hk]
    simp
end Go.Proofs.Ytidlcplamgajpaa
