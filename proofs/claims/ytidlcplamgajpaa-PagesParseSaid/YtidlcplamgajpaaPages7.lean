/- Pages: an object's pages taken. -/
import Derived.Test.YtidlcplamgajpaaPages6

namespace Go.Proofs.Ytidlcplamgajpaa
open Go.RowKit

theorem RdG.part {α : Type} {E : Enc α} {w : World} {A : Option Addr} {n : Nat} {l : List α} (h : RdG E w A n l) {k m : Nat} (hk : k ≤ m) (hm : m ≤ n) : RdG E w (A.map (·.add (k * E.sz))) (m - k) ((l.take m).drop k) := by
  have hl := h.1
  refine ⟨by simp; omega, fun hn => ?_⟩
  obtain ⟨b, off, rfl, hb, hcell⟩ := h.2 (by omega)
  refine ⟨b, off + k * E.sz, ?_, hb, fun i a hi j u hu => ?_⟩
  · show some ((⟨b, off, none⟩ : Addr).add (k * E.sz)) = _
    unfold Addr.add
    split <;> simp_all
  · rw [List.getElem?_drop, List.getElem?_take] at hi
    split at hi
    · have := hcell _ a hi j u hu
      rw [Nat.add_mul] at this
      rw [← this]
      congr 2
      omega
    · cases hi

/-- A page is stored. -/
theorem FreshG.setPg {T : TypeId} {B : Nat} {w : World} {l : List Pg} {A : Option Addr} {n c : Nat} (h : FreshG pgE T B w (.slice A n c) l) (hn : l.length = n) {g : Nat} {cur : Array Value} (hA : A = some ⟨g, 0, none⟩) (hB : Blk w g T cur) (k : Nat) (hk : k < n) (a b d e s : Int) :
    FreshG pgE T B (((((w.setCell ⟨g, k * 5, none⟩ (.int .i64 a)).setCell ⟨g, k * 5 + 1, none⟩ (.int .i64 b)).setCell ⟨g, k * 5 + 2, none⟩ (.int .i64 d)).setCell ⟨g, k * 5 + 3, none⟩ (.int .i64 e)).setCell ⟨g, k * 5 + 4, none⟩ (.int .u64 s)) (.slice A n c) (l.set k (a, b, d, e, s)) := by
  have hsz : n * 5 ≤ cur.size := by
    obtain ⟨g', cur', hA', _, hB', hs, _⟩ := h.open_ hn (by omega)
    rw [hA] at hA'
    injection hA' with hA'
    injection hA' with hA'
    subst hA'
    have e : cur = cur' := by unfold Blk at hB hB'; rw [hB] at hB'; injection hB' with hB'; injection hB'
    subst e
    exact hs
  refine h.turn hn (by omega) hA hB (((((hB.set_ _ _).set_ _ _).set_ _ _).set_ _ _).set_ _ _) (by simp) (by simpa using hn) fun q j x u hq hu => ?_
  have hj : j < 5 := by have := (List.getElem?_eq_some_iff.1 hu).1; rw [pgE.len] at this; exact this
  have hql : q < n := by have := (List.getElem?_eq_some_iff.1 hq).1; simpa [hn] using this
  show ((((((cur.setIfInBounds _ _).setIfInBounds _ _).setIfInBounds _ _).setIfInBounds _ _).setIfInBounds _ _))[q * 5 + j]? = some u
  simp only [Array.getElem?_setIfInBounds, Array.size_setIfInBounds]
  rw [List.getElem?_set] at hq
  by_cases hqk : k = q
  · subst hqk
    rw [if_pos rfl, if_pos (by rw [hn]; exact hk)] at hq
    injection hq with hq
    subst hq
    rcases (show j = 0 ∨ j = 1 ∨ j = 2 ∨ j = 3 ∨ j = 4 by omega) with rfl | rfl | rfl | rfl | rfl
    · rw [if_neg (by omega), if_neg (by omega), if_neg (by omega), if_neg (by omega), if_pos (by omega), if_pos (by omega)]; exact hu
    · rw [if_neg (by omega), if_neg (by omega), if_neg (by omega), if_pos rfl, if_pos (by omega)]; exact hu
    · rw [if_neg (by omega), if_neg (by omega), if_pos rfl, if_pos (by omega)]; exact hu
    · rw [if_neg (by omega), if_pos rfl, if_pos (by omega)]; exact hu
    · rw [if_pos rfl, if_pos (by omega)]; exact hu
  · rw [if_neg hqk] at hq
    rw [if_neg (by omega), if_neg (by omega), if_neg (by omega), if_neg (by omega), if_neg (by omega)]
    exact h.cells hn hA hB hq hu
theorem FreshG.pgCell {T : TypeId} {B : Nat} {w : World} {l : List Pg} {A : Option Addr} {n c : Nat} (h : FreshG pgE T B w (.slice A n c) l) (hn : l.length = n) {g : Nat} {cur : Array Value} (hA : A = some ⟨g, 0, none⟩) (hB : Blk w g T cur) (k : Nat) (hk : k < n) : ∀ j, j < 5 → ∃ u, w.cell? ⟨g, k * 5 + j, none⟩ = some u := by
  intro j hj
  obtain ⟨g', cur', hA', _, hB', hs, _⟩ := h.open_ hn (by omega)
  rw [hA] at hA'
  injection hA' with hA'
  injection hA' with hA'
  subst hA'
  have hs5 : n * 5 ≤ cur'.size := hs
  exact ⟨_, (hB'.cell (k * 5 + j)).trans (Array.getElem?_eq_getElem (by omega))⟩

/-- n pages from place a on become others: the first one p, the next ones q. -/
def layP (l : List Pg) (a m : Nat) (p q : Pg) : List Pg := l.mapIdx fun i x => if i = a then p else if a < i ∧ i < a + m then q else x
theorem layP_len (l : List Pg) (a m : Nat) (p q : Pg) : (layP l a m p q).length = l.length := by simp [layP]
theorem layP_one (l : List Pg) (a : Nat) (p q : Pg) : l.set a p = layP l a 1 p q := by
  apply List.ext_getElem?
  intro i
  unfold layP
  rw [List.getElem?_set, List.getElem?_mapIdx]
  by_cases h : a = i
  · subst h
    rw [if_pos rfl]
    by_cases hl : a < l.length
    · rw [if_pos hl, List.getElem?_eq_getElem hl]; simp
    · rw [if_neg hl, List.getElem?_eq_none (by omega)]; rfl
  · rw [if_neg h]
    cases hx : l[i]? with
    | none => rfl
    | some x => simp only [Option.map_some]; rw [if_neg (Ne.symm h), if_neg (by omega)]
theorem layP_more (l : List Pg) (a m : Nat) (p q : Pg) (hm : 1 ≤ m) : (layP l a m p q).set (a + m) q = layP l a (m + 1) p q := by
  apply List.ext_getElem?
  intro i
  rw [List.getElem?_set]
  unfold layP
  rw [List.getElem?_mapIdx, List.getElem?_mapIdx, List.length_mapIdx]
  by_cases h : a + m = i
  · subst h
    rw [if_pos rfl]
    by_cases hl : a + m < l.length
    · rw [if_pos hl, List.getElem?_eq_getElem hl]; simp only [Option.map_some]; rw [if_neg (by omega), if_pos (by omega)]
    · rw [if_neg hl, List.getElem?_eq_none (by omega)]; rfl
  · rw [if_neg h]
    cases hx : l[i]? with
    | none => rfl
    | some x =>
      simp only [Option.map_some]
      by_cases hia : i = a
      · rw [if_pos hia, if_pos hia]
      · rw [if_neg hia, if_neg hia]
        by_cases h2 : a < i ∧ i < a + m
        · rw [if_pos h2, if_pos (by omega)]
        · rw [if_neg h2, if_neg (by omega)]

def serB (s : Int) : Bool := decide (1 ≤ s ∧ s ≤ 281474976710655)
/-- Take's error. -/
def takeErr (l : List Pg) (a size s : Int) : Int :=
  if okL l = true then (if longB size = true ∧ serB s = true then (if 0 ≤ a ∧ a + pagesC size ≤ l.length then (if ((l.take (a.toNat + (pagesC size).toNat)).drop a.toNat).any takenB = true then 7 else 0) else 3) else 1) else 4
def headP (size s : Int) : Pg := (2, 0, pagesC size, size, s)
def takeR (l : List Pg) (a size s : Int) : List Pg := if takeErr l a size s = 0 then layP l a.toNat (pagesC size).toNat (headP size s) (3, 0, 0, 0, 0) else []
/-- A call's end: pages of its own and an error's number. -/
def GivesP (T : TypeId) (w : World) (l : List Pg) (x : Int) (e : Ending) (w' : World) : Prop := ∃ v, e = .returned (.tuple #[v, .int .i64 x]) ∧ FreshG pgE T w.heap.size w' v l ∧ Below w.heap.size w w'
theorem GivesP.none {T : TypeId} {w w' : World} {l : List Pg} {x : Int} {e : Ending} (h : l = []) (he : e = .returned (.tuple #[.slice none 0 0, .int .i64 x])) (hb : Below w.heap.size w w') : GivesP T w l x e w' := by
  subst h
  exact ⟨_, he, FreshG.nil _ _ _, hb⟩
theorem pagesC_range {d : Int} (h : longB d = true) : 1 ≤ pagesC d ∧ pagesC d ≤ 16 := by
  unfold longB at h
  simp at h
  unfold pagesC
  omega

theorem takeR_no {l : List Pg} {a size s x : Int} (h : takeErr l a size s = x) (hx : x ≠ 0) : takeR l a size s = [] := by unfold takeR; rw [h, if_neg hx]
theorem tk4 {l : List Pg} {a size s : Int} (h : okL l = false) : takeErr l a size s = 4 ∧ takeR l a size s = [] := by
  have e : takeErr l a size s = 4 := by unfold takeErr; simp [h]
  exact ⟨e, takeR_no e (by decide)⟩
theorem tk1 {l : List Pg} {a size s : Int} (h : okL l = true) (h1 : longB size = false ∨ serB s = false) : takeErr l a size s = 1 ∧ takeR l a size s = [] := by
  have e : takeErr l a size s = 1 := by
    unfold takeErr
    rw [if_pos h, if_neg]
    rintro ⟨h2, h3⟩
    rcases h1 with h1 | h1
    · rw [h1] at h2; cases h2
    · rw [h1] at h3; cases h3
  exact ⟨e, takeR_no e (by decide)⟩
theorem tk3 {l : List Pg} {a size s : Int} (h : okL l = true) (h1 : longB size = true) (h2 : serB s = true) (h3 : ¬ (0 ≤ a ∧ a + pagesC size ≤ l.length)) : takeErr l a size s = 3 ∧ takeR l a size s = [] := by
  have e : takeErr l a size s = 3 := by
    unfold takeErr
    rw [if_pos h, if_pos ⟨h1, h2⟩, if_neg h3]
  exact ⟨e, takeR_no e (by decide)⟩
theorem tk7 {l : List Pg} {size s : Int} {k P : Nat} (h : okL l = true) (h1 : longB size = true) (h2 : serB s = true) (hP : pagesC size = P) (h3 : k + P ≤ l.length) (h4 : ((l.take (k + P)).drop k).any takenB = true) : takeErr l k size s = 7 ∧ takeR l k size s = [] := by
  have e : takeErr l k size s = 7 := by
    unfold takeErr
    rw [if_pos h, if_pos ⟨h1, h2⟩, hP, if_pos (by omega)]
    simp only [Int.toNat_natCast]
    rw [if_pos h4]
  exact ⟨e, takeR_no e (by decide)⟩
theorem tk0 {l : List Pg} {size s : Int} {k P : Nat} (h : okL l = true) (h1 : longB size = true) (h2 : serB s = true) (hP : pagesC size = P) (h3 : k + P ≤ l.length) (h4 : ((l.take (k + P)).drop k).any takenB = false) : takeErr l k size s = 0 ∧ takeR l k size s = layP l k P (headP size s) (3, 0, 0, 0, 0) := by
  have e : takeErr l k size s = 0 := by
    unfold takeErr
    rw [if_pos h, if_pos ⟨h1, h2⟩, hP, if_pos (by omega)]
    simp only [Int.toNat_natCast]
    rw [if_neg (by rw [h4]; decide)]
  refine ⟨e, ?_⟩
  unfold takeR
  rw [if_pos e, hP]
  simp only [Int.toNat_natCast]

set_option maxRecDepth 100000 in
set_option maxHeartbeats 8000000 in
theorem take_any (A : Option Addr) (n c : Nat) (l : List Pg) (a size s : Int) (w : World) (hr : RdG pgE w A n l) (hn : n ≤ 1000000) (hnc : n ≤ c) (hc : c ≤ maxLen) (s0 : 0 ≤ s) (ha0 : -9223372036854775808 ≤ a) (ha1 : a ≤ 9223372036854775807) :
    Calls Try.prog 19 #[.slice A n c, .int .i64 a, .int .i64 size, .int .u64 s] w (GivesP 65 w (takeR l a size s) (takeErr l a size s)) := by
  have hlen := hr.len
  unfold maxLen at hc
  cases hl : longB size
  · have hlong : size < 121 ∨ 4096 < size := by unfold longB at hl; simp at hl; omega
    go_enter Try.func19, Try.ntmps19
    go_wp2_with fail
    refine (pages_no size _ hlong).mono ?_
    rintro e w1 ⟨rfl, rfl⟩
    go_wp2_with fail
    refine (check_any A n c l _ hr hn).mono ?_
    rintro e w1 ⟨rfl, hb1⟩
    cases hk : okL l
    · have h4 := Lib.hid (show chkE l = 4 by unfold chkE; rw [hk]; rfl)
      obtain ⟨e1, e2⟩ := tk4 (a := a) (size := size) (s := s) hk
      have HX := Lib.hid e1
      have HR := Lib.hid e2
      clear e1 e2
      rw [h4.out]
      go_wp2_with fail
      go_ret2
      rw [HX.out, HR.out]
      exact GivesP.none rfl rfl hb1
    · have h4 := Lib.hid (show chkE l = 0 by unfold chkE; rw [hk]; rfl)
      obtain ⟨e1, e2⟩ := tk1 (a := a) (size := size) (s := s) hk (.inl hl)
      have HX := Lib.hid e1
      have HR := Lib.hid e2
      clear e1 e2
      rw [h4.out]
      go_wp2_with fail
      go_ret2
      rw [HX.out, HR.out]
      exact GivesP.none rfl rfl hb1
  · obtain ⟨hp1, hp2⟩ := pagesC_range hl
    have hlong : 121 ≤ size ∧ size ≤ 4096 := by unfold longB at hl; simpa using hl
    obtain ⟨P, hP⟩ := Int.eq_ofNat_of_zero_le (show 0 ≤ pagesC size by omega)
    have HP := Lib.hid hP
    rw [hP] at hp1 hp2
    clear hP
    go_enter Try.func19, Try.ntmps19
    go_wp2_with fail
    refine (pages_yes size _ hlong.1 hlong.2).mono ?_
    rintro e w1 ⟨rfl, rfl⟩
    rw [HP.out]
    go_wp2_with fail
    refine (check_any A n c l _ hr hn).mono ?_
    rintro e w1 ⟨rfl, hb1⟩
    have hr1 := hr.below hb1
    cases hk : okL l
    · have h4 := Lib.hid (show chkE l = 4 by unfold chkE; rw [hk]; rfl)
      obtain ⟨e1, e2⟩ := tk4 (a := a) (size := size) (s := s) hk
      have HX := Lib.hid e1
      have HR := Lib.hid e2
      clear e1 e2
      rw [h4.out]
      go_wp2_with fail
      go_ret2
      rw [HX.out, HR.out]
      exact GivesP.none rfl rfl hb1
    · have h4 := Lib.hid (show chkE l = 0 by unfold chkE; rw [hk]; rfl)
      rw [h4.out]
      cases hs : serB s
      · obtain ⟨e1, e2⟩ := tk1 (a := a) (size := size) (s := s) hk (.inr hs)
        have HX := Lib.hid e1
        have HR := Lib.hid e2
        clear e1 e2
        have hsc : s < 1 ∨ (1 ≤ s ∧ 281474976710655 < s) := by unfold serB at hs; simp at hs; omega
        rcases hsc with h | ⟨h, h'⟩
        all_goals
          go_wp2_with fail
          go_ret2
          rw [HX.out, HR.out]
          exact GivesP.none rfl rfl hb1
      · have hsc : 1 ≤ s ∧ s ≤ 281474976710655 := by unfold serB at hs; simpa using hs
        obtain ⟨hs1, hs2⟩ := hsc
        by_cases hin : 0 ≤ a ∧ a + P ≤ l.length
        · obtain ⟨k, rfl⟩ := Int.eq_ofNat_of_zero_le hin.1
          have hkP : k + P ≤ n := by omega
          have hsub := hr1.part (k := k) (m := k + P) (by omega) hkP
          rw [show k + P - k = P from by omega] at hsub
          have q1 : ¬ (c = k) := by omega
          have q2 : (k : Int) + P ≤ c := by omega
          have q3 : (k : Int) ≤ (n : Int) - P := by omega
          have q4 : (P : Int) ≤ n := by omega
          clear hin
          cases ht : ((l.take (k + P)).drop k).any takenB
          · obtain ⟨e1, e2⟩ := tk0 hk hl hs HP.out (by omega) ht
            have HX := Lib.hid e1
            have HR := Lib.hid e2
            have HT := Lib.hid ht
            clear e1 e2 ht
            go_wp2_with fail
            refine (any_taken _ P (c - k) _ _ hsub (by unfold maxLen; omega)).mono ?_
            rintro e w2 ⟨rfl, hb2⟩
            rw [HT.out]
            go_wp2_with fail
            refine (cloneP_any A n c l _ (hr1.below hb2) (by omega)).mono ?_
            rintro e w3 ⟨v, rfl, hF3, hb3⟩
            have hn0 : 0 < n := by omega
            obtain ⟨A3, c3, rfl, _, _, hc31, hc32⟩ := hF3.rdn n hlen
            obtain ⟨g, cur, rfl, hg, hB, hsz, _, _⟩ := hF3.open_ hlen hn0
            have hset := hF3.setPg hlen rfl hB k (by omega) 2 0 P size s
            have cs := hF3.pgCell hlen rfl hB k (by omega)
            obtain ⟨u0, cc0⟩ := cs 0 (by omega)
            obtain ⟨u1, cc1⟩ := cs 1 (by omega)
            obtain ⟨u2, cc2⟩ := cs 2 (by omega)
            obtain ⟨u3, cc3⟩ := cs 3 (by omega)
            obtain ⟨u4, cc4⟩ := cs 4 (by omega)
            simp only [Nat.add_zero] at cc0
            have f0 := hB.frozen
            unfold maxLen at hc32
            have hbel3 : Below w.heap.size w w3 := (by (have q_hb3 := Below.size hb3; (try simp at q_hb3); have q_hb2 := Below.size hb2; (try simp at q_hb2); have q_hb1 := Below.size hb1; (try simp at q_hb1); repeat (first | exact Below.refl _ _ | (refine Below.trans ?_ (Below.mono hb3 (by first | omega | (simp; omega) | simp))) | (refine Below.trans ?_ (Below.mono hb2 (by first | omega | (simp; omega) | simp))) | (refine Below.trans ?_ (Below.mono hb1 (by first | omega | (simp; omega) | simp))) | (refine Below.setCell ?_ (by first | omega | (simp; omega) | simp) _) | (refine Below.alloc ?_ (by first | omega | (simp; omega) | simp) _) | apply Below.drew | apply below_drewN)))
            have hgw : w.heap.size ≤ g := by have := hb1.size; have := hb2.size; omega
            have q5 : (k : Int) < n := by omega
            clear cs hF3 hsub hr1 hr
            go_wp2_with fail
            rw [show ((2, 0, (P : Int), size, s) : Pg) = headP size s by unfold headP; rw [HP.out], layP_one l k _ (3, 0, 0, 0, 0)] at hset
            replace hset := hset.from_ (B' := w.heap.size) (by have := hb1.size; have := hb2.size; omega)
            clear cc0 cc1 cc2 cc3 cc4 f0 hB hb1 hb2 hb3
            have hbelS : Below w.heap.size w (((((w3.setCell ⟨g, k * 5, none⟩ (.int .i64 2)).setCell ⟨g, k * 5 + 1, none⟩ (.int .i64 0)).setCell ⟨g, k * 5 + 2, none⟩ (.int .i64 (P : Int))).setCell ⟨g, k * 5 + 3, none⟩ (.int .i64 size)).setCell ⟨g, k * 5 + 4, none⟩ (.int .u64 s)) := (by (have q_hbel3 := Below.size hbel3; (try simp at q_hbel3); repeat (first | exact Below.refl _ _ | (refine Below.trans ?_ (Below.mono hbel3 (by first | omega | (simp; omega) | simp))) | (refine Below.setCell ?_ (by first | omega | (simp; omega) | simp) _) | (refine Below.alloc ?_ (by first | omega | (simp; omega) | simp) _) | apply Below.drew | apply below_drewN)))
            go_loopw [13] (fun i wr => ∃ j : Nat, 1 ≤ j ∧ j ≤ P ∧ i = .int .i64 ((k : Int) + j) ∧ FreshG pgE 65 w.heap.size wr (.slice (some ⟨g, 0, none⟩) n c3) (layP l k j (headP size s) (3, 0, 0, 0, 0)) ∧ Below w.heap.size w wr) (fun i _ => k + P - (intOf i).toNat)
            case atStart => exact ⟨1, by omega, by omega, rfl, hset, hbelS⟩
            case round =>
              clear hset hbelS hbel3
              obtain ⟨j, hj1, hj2, rfl, hF, hbel⟩ := hrel
              have hbz := hbel.size
              by_cases hlt : j < P
              · go_wp2_with fail
                refine (plain_any 3 _).mono ?_
                rintro e w4 ⟨rfl, hb4⟩
                have hF4 := hF.below hb4
                obtain ⟨g', cur, hA', hg', hB, hsz', _, _⟩ := hF4.open_ (by rw [layP_len]; exact hlen) hn0
                injection hA' with hA'
                injection hA' with hA'
                subst hA'
                have hset := hF4.setPg (by rw [layP_len]; exact hlen) rfl hB (k + j) (by omega) 3 0 0 0 0
                rw [layP_more l k j _ _ hj1] at hset
                have cs := hF4.pgCell (by rw [layP_len]; exact hlen) rfl hB (k + j) (by omega)
                obtain ⟨u0, cc0⟩ := cs 0 (by omega)
                obtain ⟨u1, cc1⟩ := cs 1 (by omega)
                obtain ⟨u2, cc2⟩ := cs 2 (by omega)
                obtain ⟨u3, cc3⟩ := cs 3 (by omega)
                obtain ⟨u4, cc4⟩ := cs 4 (by omega)
                simp only [Nat.add_zero] at cc0
                have f0 := hB.frozen
                have q6 : ((k : Int) + j).toNat = k + j := by omega
                have q7 : (0 : Int) ≤ (k : Int) + j := by omega
                have q8 : (k : Int) + j < n := by omega
                have hbel4 : Below w.heap.size w w4 := (by (have q_hb4 := Below.size hb4; (try simp at q_hb4); have q_hbel := Below.size hbel; (try simp at q_hbel); repeat (first | exact Below.refl _ _ | (refine Below.trans ?_ (Below.mono hb4 (by first | omega | (simp; omega) | simp))) | (refine Below.trans ?_ (Below.mono hbel (by first | omega | (simp; omega) | simp))) | (refine Below.setCell ?_ (by first | omega | (simp; omega) | simp) _) | (refine Below.alloc ?_ (by first | omega | (simp; omega) | simp) _) | apply Below.drew | apply below_drewN)))
                clear cs hF hF4
                go_wp2_with fail
                go_roundw
                case rel => exact ⟨j + 1, by omega, by omega, int_eq (by omega), hset, (by (have q_hbel4 := Below.size hbel4; (try simp at q_hbel4); repeat (first | exact Below.refl _ _ | (refine Below.trans ?_ (Below.mono hbel4 (by first | omega | (simp; omega) | simp))) | (refine Below.setCell ?_ (by first | omega | (simp; omega) | simp) _) | (refine Below.alloc ?_ (by first | omega | (simp; omega) | simp) _) | apply Below.drew | apply below_drewN)))⟩
                case measure => simp [intOf]; omega
              · obtain rfl : j = P := by omega
                go_wp2_with fail
                go_ret2
                rw [HX.out, HR.out]
                exact ⟨_, rfl, hF, hbel⟩
          · obtain ⟨e1, e2⟩ := tk7 hk hl hs HP.out (by omega) ht
            have HX := Lib.hid e1
            have HR := Lib.hid e2
            have HT := Lib.hid ht
            clear e1 e2 ht
            go_wp2_with fail
            refine (any_taken _ P (c - k) _ _ hsub (by unfold maxLen; omega)).mono ?_
            rintro e w2 ⟨rfl, hb2⟩
            rw [HT.out]
            go_wp2_with fail
            go_ret2
            rw [HX.out, HR.out]
            exact GivesP.none rfl rfl (by (have q_hb2 := Below.size hb2; (try simp at q_hb2); have q_hb1 := Below.size hb1; (try simp at q_hb1); repeat (first | exact Below.refl _ _ | (refine Below.trans ?_ (Below.mono hb2 (by first | omega | (simp; omega) | simp))) | (refine Below.trans ?_ (Below.mono hb1 (by first | omega | (simp; omega) | simp))) | (refine Below.setCell ?_ (by first | omega | (simp; omega) | simp) _) | (refine Below.alloc ?_ (by first | omega | (simp; omega) | simp) _) | apply Below.drew | apply below_drewN)))
        · obtain ⟨e1, e2⟩ := tk3 (a := a) hk hl hs (by rw [HP.out]; exact hin)
          have HX := Lib.hid e1
          have HR := Lib.hid e2
          clear e1 e2
          have hcase : a < 0 ∨ (0 ≤ a ∧ (n : Int) < P) ∨ (0 ≤ a ∧ (P : Int) ≤ n ∧ (n : Int) - P < a) := by omega
          clear hin
          rcases hcase with h | ⟨h, h'⟩ | ⟨h, h', h''⟩
          all_goals
            go_wp2_with fail
            go_ret2
            rw [HX.out, HR.out]
            exact GivesP.none rfl rfl hb1
end Go.Proofs.Ytidlcplamgajpaa
