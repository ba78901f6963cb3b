/- Pages: taken, by the document; given back. -/
import Derived.Test.YtidlcplamgajpaaPages8
import Derived.Test.YtidlcplamgajpaaPages10
import Derived.Laws.CopyRow
import Derived.Outline
namespace Go.Proofs.Ytidlcplamgajpaa
open Go.RowKit

/-- m pages from place a on become q. -/
def layQ (l : List Pg) (a m : Nat) (q : Pg) : List Pg := l.mapIdx fun i x => if a ≤ i ∧ i < a + m then q else x
theorem layQ_len (l : List Pg) (a m : Nat) (q : Pg) : (layQ l a m q).length = l.length := by simp [layQ]
theorem layQ_zero (l : List Pg) (a : Nat) (q : Pg) : layQ l a 0 q = l := by
  unfold layQ
  apply List.ext_getElem?
  intro i
  rw [List.getElem?_mapIdx]
  cases l[i]? with
  | none => rfl
  | some x => simp only [Option.map_some]; rw [if_neg (by omega)]
theorem layQ_more (l : List Pg) (a m : Nat) (q : Pg) : (layQ l a m q).set (a + m) q = layQ l a (m + 1) q := by
  apply List.ext_getElem?
  intro i
  rw [List.getElem?_set, layQ_len]
  unfold layQ
  rw [List.getElem?_mapIdx, List.getElem?_mapIdx]
  by_cases h : a + m = i
  · subst h
    rw [if_pos rfl]
    by_cases hl : a + m < l.length
    · rw [if_pos hl, List.getElem?_eq_getElem hl]; simp only [Option.map_some]; rw [if_pos (by omega)]
    · rw [if_neg hl, List.getElem?_eq_none (by omega)]; rfl
  · rw [if_neg h]
    cases hx : l[i]? with
    | none => rfl
    | some x =>
      simp only [Option.map_some]
      by_cases h2 : a ≤ i ∧ i < a + m
      · rw [if_pos h2, if_pos (by omega)]
      · rw [if_neg h2, if_neg (by omega)]
theorem layQ_head (l : List Pg) (a m : Nat) (p q : Pg) (hm : 1 ≤ m) : (layQ l a m q).set a p = layP l a m p q := by
  apply List.ext_getElem?
  intro i
  rw [List.getElem?_set, layQ_len]
  unfold layQ layP
  rw [List.getElem?_mapIdx, List.getElem?_mapIdx]
  by_cases h : a = i
  · subst h
    rw [if_pos rfl]
    by_cases hl : a < l.length
    · rw [if_pos hl, List.getElem?_eq_getElem hl]; simp
    · rw [if_neg hl, List.getElem?_eq_none (by omega)]; rfl
  · rw [if_neg h]
    cases hx : l[i]? with
    | none => rfl
    | some x =>
      simp only [Option.map_some]
      rw [if_neg (Ne.symm h)]
      by_cases h2 : a ≤ i ∧ i < a + m
      · rw [if_pos h2, if_pos (by omega)]
      · rw [if_neg h2, if_neg (by omega)]
theorem layP_layQ (l : List Pg) (a m : Nat) (q : Pg) (_hm : 1 ≤ m) : layP l a m q q = layQ l a m q := by
  apply List.ext_getElem?
  intro i
  unfold layQ layP
  rw [List.getElem?_mapIdx, List.getElem?_mapIdx]
  cases hx : l[i]? with
  | none => rfl
  | some x =>
    simp only [Option.map_some]
    by_cases h : i = a
    · rw [if_pos h, if_pos (by omega)]
    · rw [if_neg h]
      by_cases h2 : a ≤ i ∧ i < a + m
      · rw [if_pos h2, if_pos (by omega)]
      · rw [if_neg h2, if_neg (by omega)]

set_option maxRecDepth 100000 in
set_option maxHeartbeats 4000000 in
theorem rlay_any (A : Option Addr) (n c : Nat) (l : List Pg) (k m : Nat) (p q : Pg) (w : World) (hr : RdG pgE w A n l) (hn : n ≤ 1000000) (hm : 1 ≤ m) (hkm : k + m ≤ n) :
    Calls Try.prog 52 #[.slice A n c, .int .i64 k, .int .i64 m, .agg #[.int .i64 p.1, .int .i64 p.2.1, .int .i64 p.2.2.1, .int .i64 p.2.2.2.1, .int .u64 p.2.2.2.2], .agg #[.int .i64 q.1, .int .i64 q.2.1, .int .i64 q.2.2.1, .int .i64 q.2.2.2.1, .int .u64 q.2.2.2.2]] w (GivesG pgE 33 w (layP l k m p q)) := by
  have hlen := hr.len
  obtain ⟨ab, ao, hA, hab, _⟩ := hr.2 (by omega)
  subst hA
  obtain ⟨p1, p2, p3, p4, p5⟩ := p
  obtain ⟨q1, q2, q3, q4, q5⟩ := q
  go_enter Try.func52, Try.ntmps52
  go_wp2_with (at_builtin; refine wpList_append_G (E := pgE) _ rfl (.tmp 13) (.tmp 14) _ rfl (w.heap.size + 1 + 1) 33 Try.underlying22 infoRP rfl _ [] rfl (FreshG.of_blk (by simpa using Blk.new ((w.alloc _).alloc _) _ _) (Nat.le_refl _) (by unfold maxLen; omega) rfl rfl) _ _ _ l rfl (((hr.alloc _).alloc _).alloc _) (by simp; omega) (by simp; omega) (by simp) ?_; intro b' w1 hF1 hg1 hb1)
  have BP : Blk w1 w.heap.size 33 #[.int .i64 p1, .int .i64 p2, .int .i64 p3, .int .i64 p4, .int .u64 p5] := ((((Blk.new w _ _).alloc _).alloc _).below hb1 (by first | omega | (simp; omega) | simp))
  have BQ : Blk w1 (w.heap.size + 1) 33 #[.int .i64 q1, .int .i64 q2, .int .i64 q3, .int .i64 q4, .int .u64 q5] := by
    have h := (((Blk.new (w.alloc (.cells #[.int .i64 p1, .int .i64 p2, .int .i64 p3, .int .i64 p4, .int .u64 p5] 33)) 33 #[.int .i64 q1, .int .i64 q2, .int .i64 q3, .int .i64 q4, .int .u64 q5]).alloc (.cells #[] 33)).below hb1 (by first | omega | (simp; omega) | simp))
    simpa using h
  have b1 : Below w.heap.size w w1 := (by (have q_hb1 := Below.size hb1; (try simp at q_hb1); repeat (first | exact Below.refl _ _ | (refine Below.trans ?_ (Below.mono hb1 (by first | omega | (simp; omega) | simp))) | (refine Below.setCell ?_ (by first | omega | (simp; omega) | simp) _) | (refine Below.alloc ?_ (by first | omega | (simp; omega) | simp) _) | apply Below.drew | apply below_drewN)))
  obtain ⟨A1, c1, rfl, _, _, hc1, hc2⟩ := hF1.rdn n hlen
  have hF2 : FreshG pgE 33 (w.heap.size + 2) w1 (.slice A1 n c1) (layQ l k 0 (q1, q2, q3, q4, q5)) := by rw [layQ_zero]; exact hF1
  unfold maxLen at hc2
  clear hF1 hg1 hb1
  go_wp2_with fail
  go_loopw [12] (fun i wr => ∃ j : Nat, j ≤ m ∧ i = .int .i64 ((k : Int) + j) ∧ FreshG pgE 33 (w.heap.size + 2) wr (.slice A1 n c1) (layQ l k j (q1, q2, q3, q4, q5)) ∧ Blk wr w.heap.size 33 #[.int .i64 p1, .int .i64 p2, .int .i64 p3, .int .i64 p4, .int .u64 p5] ∧ Blk wr (w.heap.size + 1) 33 #[.int .i64 q1, .int .i64 q2, .int .i64 q3, .int .i64 q4, .int .u64 q5] ∧ Below w.heap.size w wr) (fun i _ => k + m - (intOf i).toNat)
  case atStart => exact ⟨0, by omega, by simp, hF2, BP, BQ, b1⟩
  case round =>
    clear hF2 BP BQ b1
    obtain ⟨j, hj, rfl, hF, BP, BQ, hbel⟩ := hrel
    have hbz := hbel.size
    obtain ⟨g, cur, rfl, hg, hB, hsz, _, _⟩ := hF.open_ (by rw [layQ_len]; exact hlen) (by omega)
    have f0 := hB.frozen
    by_cases hlt : j < m
    · have hset := hF.setPg (by rw [layQ_len]; exact hlen) rfl hB (k + j) (by omega) q1 q2 q3 q4 q5
      rw [layQ_more] at hset
      have cs := hF.pgCell (by rw [layQ_len]; exact hlen) rfl hB (k + j) (by omega)
      obtain ⟨u0, cc0⟩ := cs 0 (by omega)
      obtain ⟨u1, cc1⟩ := cs 1 (by omega)
      obtain ⟨u2, cc2⟩ := cs 2 (by omega)
      obtain ⟨u3, cc3⟩ := cs 3 (by omega)
      obtain ⟨u4, cc4⟩ := cs 4 (by omega)
      simp only [Nat.add_zero] at cc0
      have cq := BQ.cell
      have q6 : ((k : Int) + j).toNat = k + j := by omega
      have q7 : (0 : Int) ≤ (k : Int) + j := by omega
      have q8 : (k : Int) + j < n := by omega
      have q9 : (k : Int) + j < k + m := by omega
      have n1 : w.heap.size ≠ g := by omega
      have n2 : w.heap.size + 1 ≠ g := by omega
      clear cs hF
      go_wp2_with fail
      go_roundw
      case rel => exact ⟨j + 1, by omega, int_eq (by omega), hset, (((((BP.far n1 _).far n1 _).far n1 _).far n1 _).far n1 _), (((((BQ.far n2 _).far n2 _).far n2 _).far n2 _).far n2 _), (by (have q_hbel := Below.size hbel; (try simp at q_hbel); repeat (first | exact Below.refl _ _ | (refine Below.trans ?_ (Below.mono hbel (by first | omega | (simp; omega) | simp))) | (refine Below.setCell ?_ (by first | omega | (simp; omega) | simp) _) | (refine Below.alloc ?_ (by first | omega | (simp; omega) | simp) _) | apply Below.drew | apply below_drewN)))⟩
      case measure => simp [intOf]; omega
    · obtain rfl : j = m := by omega
      have hset := hF.setPg (by rw [layQ_len]; exact hlen) rfl hB k (by omega) p1 p2 p3 p4 p5
      rw [layQ_head _ _ _ _ _ hm] at hset
      have cs := hF.pgCell (by rw [layQ_len]; exact hlen) rfl hB k (by omega)
      obtain ⟨u0, cc0⟩ := cs 0 (by omega)
      obtain ⟨u1, cc1⟩ := cs 1 (by omega)
      obtain ⟨u2, cc2⟩ := cs 2 (by omega)
      obtain ⟨u3, cc3⟩ := cs 3 (by omega)
      obtain ⟨u4, cc4⟩ := cs 4 (by omega)
      simp only [Nat.add_zero] at cc0
      have cp := BP.cell
      have q9 : ¬ ((k : Int) + j < k + j) := by omega
      have q8 : (k : Int) < n := by omega
      clear cs hF
      go_wp2_with fail
      go_ret
      exact ⟨_, rfl, hset.from_ (by omega), (by (have q_hbel := Below.size hbel; (try simp at q_hbel); repeat (first | exact Below.refl _ _ | (refine Below.trans ?_ (Below.mono hbel (by first | omega | (simp; omega) | simp))) | (refine Below.setCell ?_ (by first | omega | (simp; omega) | simp) _) | (refine Below.alloc ?_ (by first | omega | (simp; omega) | simp) _) | apply Below.drew | apply below_drewN)))⟩
end Go.Proofs.Ytidlcplamgajpaa
