/- The walk of the statement ScriptWrites. -/
import Derived.Test.YthlgagjnlnakkaaScript10
import Derived.Test.YthlgagjnlnakkaaScript15
import Derived.Test.YthlgagjnlnakkaaScript12
import Derived.Test.YthlgagjnlnakkaaScript13
namespace Go.Proofs.Ythlgagjnlnakkaa
open Go.RowKit

/-- A row of acts, wherever its bytes lie. -/
def IsAs (T : TypeId) (n : Nat) (es : List ActD) (y : Value) (W : World) : Prop := ∃ A c B, y = .slice A n c ∧ RdR actK B T W A n es ∧ B ≤ W.heap.size
theorem IsAs.stab (T : TypeId) (n : Nat) (es : List ActD) : Stab (IsAs T n es) := fun _ _ _ hb ⟨A, c, B, e, h, h1⟩ => ⟨A, c, B, e, h.below hb, Nat.le_trans h1 hb.size⟩
theorem IsAs.of {T T2 : TypeId} {n Br B : Nat} {es : List ActD} {v : Value} {W : World} (h : OwnR actK T2 Br B T W v es) (hn : es.length = n) (hB : B ≤ W.heap.size) : IsAs T n es v W := by
  obtain ⟨A, c, rfl, hR, h1, h2⟩ := h.rd n hn
  exact ⟨A, c, B, rfl, hR, hB⟩
/-- The place of a row's first act. -/
def IsAt (T : TypeId) (es : List ActD) (y : Value) (W : World) : Prop := ∃ b off B, y = .pointer (some ⟨b, off, none⟩) ∧ RdR actK B T W (some ⟨b, off, none⟩) 1 es
theorem IsAt.stab (T : TypeId) (es : List ActD) : Stab (IsAt T es) := fun _ _ _ hb ⟨b, off, B, e, h⟩ => ⟨b, off, B, e, h.below hb⟩
/-- An act's value, wherever its bytes lie. -/
def IsAct (f1 : Int) (f2 : Bool) (f3 f4 f5 f6 : Int) (n : Nat) (L : List UInt8) (y : Value) (W : World) : Prop := ∃ A c, y = actV f1 f2 f3 f4 f5 f6 A n c ∧ Rd W A n L
theorem IsAct.stab (f1 : Int) (f2 : Bool) (f3 f4 f5 f6 : Int) (n : Nat) (L : List UInt8) : Stab (IsAct f1 f2 f3 f4 f5 f6 n L) := fun _ _ _ hb ⟨A, c, e, h⟩ => ⟨A, c, e, h.below hb⟩
theorem RdR.one {B : Nat} {T : TypeId} {w : World} {A : Option Addr} {h : ActH} {e : ActD} (hr : RdG actE w A 1 [h]) (hi : RItem actK B T w h e) : RdR actK B T w A 1 [e] :=
  ⟨[h], hr, rfl, fun k x y h1 h2 => by
    match k, h1, h2 with
    | 0, h1, h2 => simp at h1 h2; subst h1 h2; exact hi
    | _ + 1, h1, _ => simp at h1⟩
/-- The row's one act. -/
theorem RdR.act0 {B : Nat} {T : TypeId} {w : World} {b off n : Nat} {f1 : Int} {f2 : Bool} {f3 f4 f5 f6 : Int} {L : List UInt8} (hr : RdR actK B T w (some ⟨b, off, none⟩) 1 [((f1, f2, f3, f4, f5, f6), L)]) (hn : L.length = n) : ∃ (Ad : Option Addr) (cd : Nat),
    w.cell? ⟨b, off, none⟩ = some (.int .i64 f1) ∧ w.cell? ⟨b, off + 1, none⟩ = some (.bool f2) ∧ w.cell? ⟨b, off + 2, none⟩ = some (.int .i64 f3) ∧ w.cell? ⟨b, off + 3, none⟩ = some (.int .i64 f4) ∧ w.cell? ⟨b, off + 4, none⟩ = some (.int .i64 f5) ∧ w.cell? ⟨b, off + 5, none⟩ = some (.int .i64 f6) ∧ w.cell? ⟨b, off + 6, none⟩ = some (.slice Ad n cd) ∧ Rd w Ad n L := by
  subst hn
  obtain ⟨b', off', y1, y2, y3, y4, y5, y6, Ad, nd, cd, L', e0, hb, he, c0, c1, c2, c3, c4, c5, c6, hX, hnd, hcd⟩ := hr.act (k := 0) (by omega)
  injection e0 with e0
  injection e0 with e1 e2
  subst e1 e2
  simp at he
  obtain ⟨⟨rfl, rfl, rfl, rfl, rfl, rfl⟩, rfl⟩ := he
  obtain rfl : nd = L.length := hX.1.len.symm
  simp only [Nat.zero_mul, Nat.add_zero] at c0 c1 c2 c3 c4 c5 c6
  exact ⟨Ad, cd, c0, c1, c2, c3, c4, c5, c6, hX.1⟩
theorem all_stepB {es : List ActD} {k : Nat} {e : ActD} (he : es[k]? = some e) : (es.take (k + 1)).all mayA = ((es.take k).all mayA && mayA e) := by
  rw [take_step he, List.all_append]
  simp

theorem encs_len2 {N : Nat} {es : List ActD} (h : ∀ e ∈ es, e.2.length ≤ N) (k : Nat) : ((es.take k).map encA).flatten.length ≤ k * (12 + N) := by
  induction k with
  | zero => simp
  | succ k ih =>
    cases he : es[k]? with
    | none =>
      have h1 : es.length ≤ k := List.getElem?_eq_none_iff.1 he
      have t1 : es.take k = es := List.take_of_length_le h1
      have t2 : es.take (k + 1) = es := List.take_of_length_le (by omega)
      rw [t1] at ih
      rw [t2]
      exact Nat.le_trans ih (Nat.mul_le_mul_right _ (Nat.le_succ k))
    | some e =>
      have := h e (List.mem_of_getElem? he)
      rw [← encs_step he, List.length_append, encA_len, Nat.add_mul]
      exact Nat.add_le_add ih (by omega)
/-- What is parsed of acts' bytes. -/
theorem parsed_own {w w' : World} {L : List UInt8} {a : List ActD} {e : Ending} (p1 : PA L a []) (hP : ParsedS w L e w') : ∃ v, e = .returned (.tuple #[v, .int .i64 0]) ∧ OwnR actK 34 w.heap.size w.heap.size 5 w' v a ∧ Below w.heap.size w w' := by
  obtain ⟨hP, hb⟩ := hP
  rcases hP with ⟨fs, v, p2, h1, h2⟩ | ⟨fs, r, p2, hne, hs, h1⟩
  · obtain ⟨_, rfl⟩ := PA.uniq p1 p2 (.inl rfl)
    exact ⟨v, h1, h2, hb⟩
  · obtain ⟨h, _⟩ := PA.uniq p1 p2 (.inr hs)
    exact absurd h hne

set_option maxRecDepth 100000 in
set_option maxHeartbeats 1000000 in
theorem law_scriptwrites (A1 : Option Addr) (n c : Nat) (es : List ActD) (w : World) (h1 : RdR actK w.heap.size 5 w A1 n es) :
    Calls Try.prog 4 #[.slice A1 n c] w fun e w' => e = .returned (.bool true) ∧ Below w.heap.size w w' := by
  obtain ⟨a, ha⟩ : ∃ a, a = cutA 10 es := ⟨_, rfl⟩
  obtain ⟨na, hna⟩ : ∃ k, a.length = k := ⟨_, rfl⟩
  have hna8 : na ≤ 10 := by rw [← hna, ha, cutA_len]; omega
  have HLa := Lib.hid (show ∀ e ∈ a, e.2.length ≤ 1000000 by intro e he; rw [ha] at he; have := cutA_le e he; omega)
  have HA := Lib.hid ha
  have HNA := Lib.hid hna
  clear ha hna
  go_enter Try.func4, Try.ntmps4
  go_wp2_with fail
  refine (acut_any A1 n c w.heap.size 10 es _ h1 (Nat.le_refl _) (by omega)).mono ?_
  rintro e w1 ⟨v1, rfl, hO1, hb1⟩
  rw [← HA.out] at hO1
  obtain ⟨A1', c1, rfl, hR1, hn1, hm1⟩ := hO1.rd na HNA.out
  have hz1 := hb1.size
  clear hO1 h1
  go_wp2_with fail
  go_loopw [3, 4, 15] (fun v m i wr => ∃ (k : Nat) (bm : Bool) (L : List UInt8), k ≤ na ∧ i = .int .i64 k ∧ m = .bool bm ∧ (a.take k).all mayA = bm ∧ (bm = true → ((a.take k).map encA).flatten = L) ∧ Fresh 5 w1.heap.size wr v L ∧ Below w1.heap.size w1 wr) (fun _ _ i _ => na - (intOf i).toNat)
  case atStart => exact ⟨0, true, [], by omega, rfl, rfl, rfl, fun _ => rfl, Fresh.nil _ _ _, Below.refl _ _⟩
  case round =>
    obtain ⟨k, bm, L, hk, rfl, rfl, hbm, hL, hF, be1⟩ := hrel
    have bel : Below w.heap.size w wr := (by (have q_be1 := Below.size be1; (try simp at q_be1); have q_hb1 := Below.size hb1; (try simp at q_hb1); repeat (first | exact Below.refl _ _ | (refine Below.trans ?_ (Below.mono be1 (by first | omega | (simp; omega) | simp))) | (refine Below.trans ?_ (Below.mono hb1 (by first | omega | (simp; omega) | simp))) | (refine Below.setCell ?_ (by first | omega | (simp; omega) | simp) _) | (refine Below.alloc ?_ (by first | omega | (simp; omega) | simp) _) | apply Below.drew | apply below_drewN)))
    clear hb1
    have hbz := bel.size
    have hbz1 := be1.size
    by_cases hlt : k < na
    · obtain ⟨b, off, f1, f2, f3, f4, f5, f6, Ad, nd, cd, D, rfl, hb, he, c0, c1', c2', c3, c4, c5, c6, hX, hnd, hcd⟩ := (hR1.below be1).act hlt
      have hDl : D.length = nd := hX.1.len
      obtain ⟨M, hM⟩ : ∃ M, mayA ((f1, f2, f3, f4, f5, f6), D) = M := ⟨_, rfl⟩
      have hall := all_stepB he
      have henc := encs_step he
      rw [hbm, hM] at hall
      have HM := Lib.hid hM
      have HALL := Lib.hid hall
      have HENC := Lib.hid henc
      have hlen1 := Lib.hid (HLa.out _ (List.mem_of_getElem? he))
      obtain ⟨v, hv0⟩ : ∃ v, v = u3 := ⟨_, rfl⟩
      subst hv0
      have Bx := Blk.new wr 32 #[.int .i64 f1, .bool f2, .int .i64 f3, .int .i64 f4, .int .i64 f5, .int .i64 f6, .slice Ad nd cd]
      have hX2 := hX.below (show Below wr.heap.size wr (wr.alloc (.cells #[.int .i64 f1, .bool f2, .int .i64 f3, .int .i64 f4, .int .i64 f5, .int .i64 f6, .slice Ad nd cd] 32)) from (by (repeat (first | exact Below.refl _ _ | (refine Below.setCell ?_ (by first | omega | (simp; omega) | simp) _) | (refine Below.alloc ?_ (by first | omega | (simp; omega) | simp) _) | apply Below.drew | apply below_drewN))))
      have q1 : (k : Int) < na := by omega
      have HXr := Lib.hid hX.1
      have HLL := Lib.hid hL
      have HKL := Lib.hid (encs_len2 HLa.out k)
      clear he hX hM hall henc hL
      go_wp2_with fail
      refine wp_flows [(fun y_ _ => y_ = .agg #[.int .i64 f1, .bool f2, .int .i64 f3, .int .i64 f4, .int .i64 f5, .int .i64 f6, .slice Ad nd cd]), IsAs 5 1 [((f1, f2, f3, f4, f5, f6), D)], IsAs 5 1 [((f1, f2, f3, f4, f5, f6), D)], IsAt 5 [((f1, f2, f3, f4, f5, f6), D)], IsAct f1 f2 f3 f4 f5 f6 nd D, (fun y_ _ => y_ = .bool M), (fun y_ _ => y_ = .agg #[.int .i64 f1, .bool f2, .int .i64 f3, .int .i64 f4, .int .i64 f5, .int .i64 f6, .slice Ad nd cd]), (fun y_ _ => y_ = .bool M), (fun y_ _ => y_ = .bool false)] (by kernel_rfl) ⟨Stab.eq _, IsAs.stab _ _ _, IsAs.stab _ _ _, IsAt.stab _ _, IsAct.stab _ _ _ _ _ _ _ _, Stab.eq _, Stab.eq _, Stab.eq _, Stab.eq _, trivial⟩ (by kernel_rfl) (by rfl) ?_ ?_
      · intro kq hkq
        match kq, hkq with
        | 0, _ =>
          refine StepOk.plain _ 19 rfl rfl rfl [(6, none)] (by kernel_rfl) (fun af wf hbw hf Kf hKf => ?_)
          obtain ⟨g6, _⟩ := hf
          have h6 : af.tmps[6]?.getD undef = .pointer (some ⟨wr.heap.size, 0, none⟩) := g6
          clear g6
          have cB0 := (Blk.on (Blk.drew (Bx)) hbw).cell
          go_simp
          exact hKf _ _ (Below.refl _ _) rfl
        | 1, _ =>
          refine StepOk.plain _ 20 rfl rfl rfl [(19, some 0)] (by kernel_rfl) (fun af wf hbw hf Kf hKf => ?_)
          obtain ⟨g19, _⟩ := hf
          have h19 : af.tmps[19]?.getD undef = .agg #[.int .i64 f1, .bool f2, .int .i64 f3, .int .i64 f4, .int .i64 f5, .int .i64 f6, .slice Ad nd cd] := g19
          clear g19
          go_simp
          exact hKf _ _ (((Below.refl _ _).alloc (Nat.le_refl _) _)) (⟨_, 1, w.heap.size, rfl, RdR.one (h := ((f1, f2, f3, f4, f5, f6), (Ad, nd, cd))) (RdG.boxed _ _ _ _ rfl) ⟨rfl, (RdX.below hX2 (w' := _) (Below.trans (Below.refl _ _).drew hbw)).below ((Below.refl _ _).alloc (Nat.le_refl _) _), hnd, hcd⟩, by have := hbw.size; simp at this ⊢; omega⟩)
        | 2, _ =>
          refine StepOk.plain _ 21 rfl rfl rfl [(20, some 1)] (by kernel_rfl) (fun af wf hbw hf Kf hKf => ?_)
          obtain ⟨g20, _⟩ := hf
          have g20 : IsAs 5 1 [((f1, f2, f3, f4, f5, f6), D)] (af.tmps[20]?.getD undef) wf := g20
          obtain ⟨A20, c20, B20, h20, hR20, hB20⟩ := g20
          go_simp
          refine (aours_any A20 1 c20 B20 [((f1, f2, f3, f4, f5, f6), D)] _ hR20 hB20 (by omega) (by intro e he; simp at he; subst he; exact hlen1.out)).mono ?_
          rintro e wN ⟨v, rfl, hO, hb⟩
          exact hKf _ _ (hb) (IsAs.of hO rfl hb.size)
        | 3, _ =>
          refine StepOk.plain _ 22 rfl rfl rfl [(21, some 2)] (by kernel_rfl) (fun af wf hbw hf Kf hKf => ?_)
          obtain ⟨g21, _⟩ := hf
          have g21 : IsAs 5 1 [((f1, f2, f3, f4, f5, f6), D)] (af.tmps[21]?.getD undef) wf := g21
          obtain ⟨A21, c21, B21, h21, hR21, hB21⟩ := g21
          obtain ⟨bq, oq, hAq, _⟩ : ∃ bq oq, A21 = some ⟨bq, oq, none⟩ ∧ True := by obtain ⟨bq, oq, _, _, _, _, _, _, _, _, _, _, h_, _⟩ := hR21.act (k := 0) (by omega); exact ⟨bq, oq, h_, trivial⟩
          subst hAq
          go_simp
          exact hKf _ _ (Below.refl _ _) (⟨_, _, _, rfl, hR21⟩)
        | 4, _ =>
          refine StepOk.plain _ 23 rfl rfl rfl [(22, some 3)] (by kernel_rfl) (fun af wf hbw hf Kf hKf => ?_)
          obtain ⟨g22, _⟩ := hf
          have g22 : IsAt 5 [((f1, f2, f3, f4, f5, f6), D)] (af.tmps[22]?.getD undef) wf := g22
          obtain ⟨b22, o22, B22, h22, hR22⟩ := g22
          have cB0 := (Blk.on (Blk.drew (Bx)) hbw).cell
          obtain ⟨Aw, cw, y0, y1, y2, y3, y4, y5, y6, hRw⟩ := hR22.act0 hDl
          go_simp
          exact hKf _ _ (Below.refl _ _) (⟨_, _, rfl, hRw⟩)
        | 5, _ =>
          refine StepOk.plain _ 24 rfl rfl rfl [(23, some 4)] (by kernel_rfl) (fun af wf hbw hf Kf hKf => ?_)
          obtain ⟨g23, _⟩ := hf
          have g23 : IsAct f1 f2 f3 f4 f5 f6 nd D (af.tmps[23]?.getD undef) wf := g23
          obtain ⟨A23, c23, h23, hR23⟩ := g23
          go_simp
          refine (smay_any f1 f2 f3 f4 f5 f6 A23 nd c23 D _ hR23).mono ?_
          rintro e wN ⟨rfl, hb⟩
          exact hKf _ _ (hb) (congrArg Value.bool HM.out)
        | 6, _ =>
          refine StepOk.plain _ 25 rfl rfl rfl [(6, none)] (by kernel_rfl) (fun af wf hbw hf Kf hKf => ?_)
          obtain ⟨g6, _⟩ := hf
          have h6 : af.tmps[6]?.getD undef = .pointer (some ⟨wr.heap.size, 0, none⟩) := g6
          clear g6
          have cB0 := (Blk.on (Blk.drew (Bx)) hbw).cell
          go_simp
          exact hKf _ _ (Below.refl _ _) rfl
        | 7, _ =>
          refine StepOk.plain _ 26 rfl rfl rfl [(25, some 6)] (by kernel_rfl) (fun af wf hbw hf Kf hKf => ?_)
          obtain ⟨g25, _⟩ := hf
          have h25 : af.tmps[25]?.getD undef = .agg #[.int .i64 f1, .bool f2, .int .i64 f3, .int .i64 f4, .int .i64 f5, .int .i64 f6, .slice Ad nd cd] := g25
          clear g25
          go_simp
          refine (rmay_any f1 f2 f3 f4 f5 f6 Ad nd cd D _ hDl).mono ?_
          rintro e wN ⟨rfl, hb⟩
          exact hKf _ _ (hb) (congrArg Value.bool HM.out)
        | 8, _ =>
          refine StepOk.plain _ 27 rfl rfl rfl [(24, some 5), (26, some 7)] (by kernel_rfl) (fun af wf hbw hf Kf hKf => ?_)
          obtain ⟨g24, g26, _⟩ := hf
          have h24 : af.tmps[24]?.getD undef = .bool M := g24
          have h26 : af.tmps[26]?.getD undef = .bool M := g26
          clear g24 g26
          have hMM : (M != M) = false := by simp
          go_simp
          exact hKf _ _ (Below.refl _ _) rfl
        | i + 9, h => exact absurd h (by show ¬ (i + 9 < 9); omega)
      · intro af wF hbF hdF hsF hbaseF hfactF
        obtain ⟨T, dsF⟩ := af
        obtain rfl : dsF = _ := hdF
        have e0 := hbaseF 0 (not_dst (by kernel_rfl))
        simp only [List.getElem?_toArray, List.getElem?_cons_zero, Option.getD_some] at e0
        have e1 := hbaseF 1 (not_dst (by kernel_rfl))
        simp only [List.getElem?_toArray, List.getElem?_cons_zero, List.getElem?_cons_succ, Option.getD_some] at e1
        have e2 := hbaseF 2 (not_dst (by kernel_rfl))
        simp only [List.getElem?_toArray, List.getElem?_cons_zero, List.getElem?_cons_succ, Option.getD_some] at e2
        have e3 := hbaseF 3 (not_dst (by kernel_rfl))
        simp only [List.getElem?_toArray, List.getElem?_cons_zero, List.getElem?_cons_succ, Option.getD_some] at e3
        have e4 := hbaseF 4 (not_dst (by kernel_rfl))
        simp only [List.getElem?_toArray, List.getElem?_cons_zero, List.getElem?_cons_succ, Option.getD_some] at e4
        have e5 := hbaseF 5 (not_dst (by kernel_rfl))
        simp only [List.getElem?_toArray, List.getElem?_cons_zero, List.getElem?_cons_succ, Option.getD_some] at e5
        have e6 := hbaseF 6 (not_dst (by kernel_rfl))
        simp only [List.getElem?_toArray, List.getElem?_cons_zero, List.getElem?_cons_succ, Option.getD_some] at e6
        have e7 := hbaseF 7 (not_dst (by kernel_rfl))
        simp only [List.getElem?_toArray, List.getElem?_cons_zero, List.getElem?_cons_succ, Option.getD_some] at e7
        have e8 := hbaseF 8 (not_dst (by kernel_rfl))
        simp only [List.getElem?_toArray, List.getElem?_cons_zero, List.getElem?_cons_succ, Option.getD_some] at e8
        have e9 := hbaseF 9 (not_dst (by kernel_rfl))
        simp only [List.getElem?_toArray, List.getElem?_cons_zero, List.getElem?_cons_succ, Option.getD_some] at e9
        have e10 := hbaseF 10 (not_dst (by kernel_rfl))
        simp only [List.getElem?_toArray, List.getElem?_cons_zero, List.getElem?_cons_succ, Option.getD_some] at e10
        have e11 := hbaseF 11 (not_dst (by kernel_rfl))
        simp only [List.getElem?_toArray, List.getElem?_cons_zero, List.getElem?_cons_succ, Option.getD_some] at e11
        have e12 := hbaseF 12 (not_dst (by kernel_rfl))
        simp only [List.getElem?_toArray, List.getElem?_cons_zero, List.getElem?_cons_succ, Option.getD_some] at e12
        have e13 := hbaseF 13 (not_dst (by kernel_rfl))
        simp only [List.getElem?_toArray, List.getElem?_cons_zero, List.getElem?_cons_succ, Option.getD_some] at e13
        have e14 := hbaseF 14 (not_dst (by kernel_rfl))
        simp only [List.getElem?_toArray, List.getElem?_cons_zero, List.getElem?_cons_succ, Option.getD_some] at e14
        have e15 := hbaseF 15 (not_dst (by kernel_rfl))
        simp only [List.getElem?_toArray, List.getElem?_cons_zero, List.getElem?_cons_succ, Option.getD_some] at e15
        have e16 := hbaseF 16 (not_dst (by kernel_rfl))
        simp only [List.getElem?_toArray, List.getElem?_cons_zero, List.getElem?_cons_succ, Option.getD_some] at e16
        have e17 := hbaseF 17 (not_dst (by kernel_rfl))
        simp only [List.getElem?_toArray, List.getElem?_cons_zero, List.getElem?_cons_succ, Option.getD_some] at e17
        have e18 := hbaseF 18 (not_dst (by kernel_rfl))
        simp only [List.getElem?_toArray, List.getElem?_cons_zero, List.getElem?_cons_succ, Option.getD_some] at e18
        have e28 := hbaseF 28 (not_dst (by kernel_rfl))
        simp only [List.getElem?_toArray, List.getElem?_cons_zero, List.getElem?_cons_succ, Option.getD_some] at e28
        have e29 := hbaseF 29 (not_dst (by kernel_rfl))
        simp only [List.getElem?_toArray, List.getElem?_cons_zero, List.getElem?_cons_succ, Option.getD_some] at e29
        have e30 := hbaseF 30 (not_dst (by kernel_rfl))
        simp only [List.getElem?_toArray, List.getElem?_cons_zero, List.getElem?_cons_succ, Option.getD_some] at e30
        have e31 := hbaseF 31 (not_dst (by kernel_rfl))
        simp only [List.getElem?_toArray, List.getElem?_cons_zero, List.getElem?_cons_succ, Option.getD_some] at e31
        have e32 := hbaseF 32 (not_dst (by kernel_rfl))
        simp only [List.getElem?_toArray, List.getElem?_cons_zero, List.getElem?_cons_succ, Option.getD_some] at e32
        have e33 := hbaseF 33 (not_dst (by kernel_rfl))
        simp only [List.getElem?_toArray, List.getElem?_cons_zero, List.getElem?_cons_succ, Option.getD_some] at e33
        have e34 := hbaseF 34 (not_dst (by kernel_rfl))
        simp only [List.getElem?_toArray, List.getElem?_cons_zero, List.getElem?_cons_succ, Option.getD_some] at e34
        have e35 := hbaseF 35 (not_dst (by kernel_rfl))
        simp only [List.getElem?_toArray, List.getElem?_cons_zero, List.getElem?_cons_succ, Option.getD_some] at e35
        have e36 := hbaseF 36 (not_dst (by kernel_rfl))
        simp only [List.getElem?_toArray, List.getElem?_cons_zero, List.getElem?_cons_succ, Option.getD_some] at e36
        have e37 := hbaseF 37 (not_dst (by kernel_rfl))
        simp only [List.getElem?_toArray, List.getElem?_cons_zero, List.getElem?_cons_succ, Option.getD_some] at e37
        have e38 := hbaseF 38 (not_dst (by kernel_rfl))
        simp only [List.getElem?_toArray, List.getElem?_cons_zero, List.getElem?_cons_succ, Option.getD_some] at e38
        have e39 := hbaseF 39 (not_dst (by kernel_rfl))
        simp only [List.getElem?_toArray, List.getElem?_cons_zero, List.getElem?_cons_succ, Option.getD_some] at e39
        have e40 := hbaseF 40 (not_dst (by kernel_rfl))
        simp only [List.getElem?_toArray, List.getElem?_cons_zero, List.getElem?_cons_succ, Option.getD_some] at e40
        have e41 := hbaseF 41 (not_dst (by kernel_rfl))
        simp only [List.getElem?_toArray, List.getElem?_cons_zero, List.getElem?_cons_succ, Option.getD_some] at e41
        have e42 := hbaseF 42 (not_dst (by kernel_rfl))
        simp only [List.getElem?_toArray, List.getElem?_cons_zero, List.getElem?_cons_succ, Option.getD_some] at e42
        have e43 := hbaseF 43 (not_dst (by kernel_rfl))
        simp only [List.getElem?_toArray, List.getElem?_cons_zero, List.getElem?_cons_succ, Option.getD_some] at e43
        have e44 := hbaseF 44 (not_dst (by kernel_rfl))
        simp only [List.getElem?_toArray, List.getElem?_cons_zero, List.getElem?_cons_succ, Option.getD_some] at e44
        have e45 := hbaseF 45 (not_dst (by kernel_rfl))
        simp only [List.getElem?_toArray, List.getElem?_cons_zero, List.getElem?_cons_succ, Option.getD_some] at e45
        have e46 := hbaseF 46 (not_dst (by kernel_rfl))
        simp only [List.getElem?_toArray, List.getElem?_cons_zero, List.getElem?_cons_succ, Option.getD_some] at e46
        have e47 := hbaseF 47 (not_dst (by kernel_rfl))
        simp only [List.getElem?_toArray, List.getElem?_cons_zero, List.getElem?_cons_succ, Option.getD_some] at e47
        have e48 := hbaseF 48 (not_dst (by kernel_rfl))
        simp only [List.getElem?_toArray, List.getElem?_cons_zero, List.getElem?_cons_succ, Option.getD_some] at e48
        have e49 := hbaseF 49 (not_dst (by kernel_rfl))
        simp only [List.getElem?_toArray, List.getElem?_cons_zero, List.getElem?_cons_succ, Option.getD_some] at e49
        have e50 := hbaseF 50 (not_dst (by kernel_rfl))
        simp only [List.getElem?_toArray, List.getElem?_cons_zero, List.getElem?_cons_succ, Option.getD_some] at e50
        have e51 := hbaseF 51 (not_dst (by kernel_rfl))
        simp only [List.getElem?_toArray, List.getElem?_cons_zero, List.getElem?_cons_succ, Option.getD_some] at e51
        have e52 := hbaseF 52 (not_dst (by kernel_rfl))
        simp only [List.getElem?_toArray, List.getElem?_cons_zero, List.getElem?_cons_succ, Option.getD_some] at e52
        have e53 := hbaseF 53 (not_dst (by kernel_rfl))
        simp only [List.getElem?_toArray, List.getElem?_cons_zero, List.getElem?_cons_succ, Option.getD_some] at e53
        have e54 := hbaseF 54 (not_dst (by kernel_rfl))
        simp only [List.getElem?_toArray, List.getElem?_cons_zero, List.getElem?_cons_succ, Option.getD_some] at e54
        have e55 := hbaseF 55 (not_dst (by kernel_rfl))
        simp only [List.getElem?_toArray, List.getElem?_cons_zero, List.getElem?_cons_succ, Option.getD_some] at e55
        have e56 := hbaseF 56 (not_dst (by kernel_rfl))
        simp only [List.getElem?_toArray, List.getElem?_cons_zero, List.getElem?_cons_succ, Option.getD_some] at e56
        have e57 := hbaseF 57 (not_dst (by kernel_rfl))
        simp only [List.getElem?_toArray, List.getElem?_cons_zero, List.getElem?_cons_succ, Option.getD_some] at e57
        have e58 := hbaseF 58 (not_dst (by kernel_rfl))
        simp only [List.getElem?_toArray, List.getElem?_cons_zero, List.getElem?_cons_succ, Option.getD_some] at e58
        have e59 := hbaseF 59 (not_dst (by kernel_rfl))
        simp only [List.getElem?_toArray, List.getElem?_cons_zero, List.getElem?_cons_succ, Option.getD_some] at e59
        have e60 := hbaseF 60 (not_dst (by kernel_rfl))
        simp only [List.getElem?_toArray, List.getElem?_cons_zero, List.getElem?_cons_succ, Option.getD_some] at e60
        have e61 := hbaseF 61 (not_dst (by kernel_rfl))
        simp only [List.getElem?_toArray, List.getElem?_cons_zero, List.getElem?_cons_succ, Option.getD_some] at e61
        have e62 := hbaseF 62 (not_dst (by kernel_rfl))
        simp only [List.getElem?_toArray, List.getElem?_cons_zero, List.getElem?_cons_succ, Option.getD_some] at e62
        have e63 := hbaseF 63 (not_dst (by kernel_rfl))
        simp only [List.getElem?_toArray, List.getElem?_cons_zero, List.getElem?_cons_succ, Option.getD_some] at e63
        have e64 := hbaseF 64 (not_dst (by kernel_rfl))
        simp only [List.getElem?_toArray, List.getElem?_cons_zero, List.getElem?_cons_succ, Option.getD_some] at e64
        have e65 := hbaseF 65 (not_dst (by kernel_rfl))
        simp only [List.getElem?_toArray, List.getElem?_cons_zero, List.getElem?_cons_succ, Option.getD_some] at e65
        have e66 := hbaseF 66 (not_dst (by kernel_rfl))
        simp only [List.getElem?_toArray, List.getElem?_cons_zero, List.getElem?_cons_succ, Option.getD_some] at e66
        have e67 := hbaseF 67 (not_dst (by kernel_rfl))
        simp only [List.getElem?_toArray, List.getElem?_cons_zero, List.getElem?_cons_succ, Option.getD_some] at e67
        have e68 := hbaseF 68 (not_dst (by kernel_rfl))
        simp only [List.getElem?_toArray, List.getElem?_cons_zero, List.getElem?_cons_succ, Option.getD_some] at e68
        have e69 := hbaseF 69 (not_dst (by kernel_rfl))
        simp only [List.getElem?_toArray, List.getElem?_cons_zero, List.getElem?_cons_succ, Option.getD_some] at e69
        have e70 := hbaseF 70 (not_dst (by kernel_rfl))
        simp only [List.getElem?_toArray, List.getElem?_cons_zero, List.getElem?_cons_succ, Option.getD_some] at e70
        have e71 := hbaseF 71 (not_dst (by kernel_rfl))
        simp only [List.getElem?_toArray, List.getElem?_cons_zero, List.getElem?_cons_succ, Option.getD_some] at e71
        have e72 := hbaseF 72 (not_dst (by kernel_rfl))
        simp only [List.getElem?_toArray, List.getElem?_cons_zero, List.getElem?_cons_succ, Option.getD_some] at e72
        have e73 := hbaseF 73 (not_dst (by kernel_rfl))
        simp only [List.getElem?_toArray, List.getElem?_cons_zero, List.getElem?_cons_succ, Option.getD_some] at e73
        have e74 := hbaseF 74 (not_dst (by kernel_rfl))
        simp only [List.getElem?_toArray, List.getElem?_cons_zero, List.getElem?_cons_succ, Option.getD_some] at e74
        have e75 := hbaseF 75 (not_dst (by kernel_rfl))
        simp only [List.getElem?_toArray, List.getElem?_cons_zero, List.getElem?_cons_succ, Option.getD_some] at e75
        have e76 := hbaseF 76 (not_dst (by kernel_rfl))
        simp only [List.getElem?_toArray, List.getElem?_cons_zero, List.getElem?_cons_succ, Option.getD_some] at e76
        have e77 := hbaseF 77 (not_dst (by kernel_rfl))
        simp only [List.getElem?_toArray, List.getElem?_cons_zero, List.getElem?_cons_succ, Option.getD_some] at e77
        have e78 := hbaseF 78 (not_dst (by kernel_rfl))
        simp only [List.getElem?_toArray, List.getElem?_cons_zero, List.getElem?_cons_succ, Option.getD_some] at e78
        have e79 := hbaseF 79 (not_dst (by kernel_rfl))
        simp only [List.getElem?_toArray, List.getElem?_cons_zero, List.getElem?_cons_succ, Option.getD_some] at e79
        have e80 := hbaseF 80 (not_dst (by kernel_rfl))
        simp only [List.getElem?_toArray, List.getElem?_cons_zero, List.getElem?_cons_succ, Option.getD_some] at e80
        have e81 := hbaseF 81 (not_dst (by kernel_rfl))
        simp only [List.getElem?_toArray, List.getElem?_cons_zero, List.getElem?_cons_succ, Option.getD_some] at e81
        have e82 := hbaseF 82 (not_dst (by kernel_rfl))
        simp only [List.getElem?_toArray, List.getElem?_cons_zero, List.getElem?_cons_succ, Option.getD_some] at e82
        have e83 := hbaseF 83 (not_dst (by kernel_rfl))
        simp only [List.getElem?_toArray, List.getElem?_cons_zero, List.getElem?_cons_succ, Option.getD_some] at e83
        have e27 := hfactF 8 27 (by decide) rfl
        replace e27 : T[27]?.getD undef = .bool false := e27
        clear hbaseF hfactF
        have hT : T = #[T[0]?.getD undef, T[1]?.getD undef, T[2]?.getD undef, T[3]?.getD undef, T[4]?.getD undef, T[5]?.getD undef, T[6]?.getD undef, T[7]?.getD undef, T[8]?.getD undef, T[9]?.getD undef, T[10]?.getD undef, T[11]?.getD undef, T[12]?.getD undef, T[13]?.getD undef, T[14]?.getD undef, T[15]?.getD undef, T[16]?.getD undef, T[17]?.getD undef, T[18]?.getD undef, T[19]?.getD undef, T[20]?.getD undef, T[21]?.getD undef, T[22]?.getD undef, T[23]?.getD undef, T[24]?.getD undef, T[25]?.getD undef, T[26]?.getD undef, T[27]?.getD undef, T[28]?.getD undef, T[29]?.getD undef, T[30]?.getD undef, T[31]?.getD undef, T[32]?.getD undef, T[33]?.getD undef, T[34]?.getD undef, T[35]?.getD undef, T[36]?.getD undef, T[37]?.getD undef, T[38]?.getD undef, T[39]?.getD undef, T[40]?.getD undef, T[41]?.getD undef, T[42]?.getD undef, T[43]?.getD undef, T[44]?.getD undef, T[45]?.getD undef, T[46]?.getD undef, T[47]?.getD undef, T[48]?.getD undef, T[49]?.getD undef, T[50]?.getD undef, T[51]?.getD undef, T[52]?.getD undef, T[53]?.getD undef, T[54]?.getD undef, T[55]?.getD undef, T[56]?.getD undef, T[57]?.getD undef, T[58]?.getD undef, T[59]?.getD undef, T[60]?.getD undef, T[61]?.getD undef, T[62]?.getD undef, T[63]?.getD undef, T[64]?.getD undef, T[65]?.getD undef, T[66]?.getD undef, T[67]?.getD undef, T[68]?.getD undef, T[69]?.getD undef, T[70]?.getD undef, T[71]?.getD undef, T[72]?.getD undef, T[73]?.getD undef, T[74]?.getD undef, T[75]?.getD undef, T[76]?.getD undef, T[77]?.getD undef, T[78]?.getD undef, T[79]?.getD undef, T[80]?.getD undef, T[81]?.getD undef, T[82]?.getD undef, T[83]?.getD undef] := arr_eq T 84 hsF
        clear hsF
        rw [e0] at hT; clear e0
        rw [e1] at hT; clear e1
        rw [e2] at hT; clear e2
        rw [e3] at hT; clear e3
        rw [e4] at hT; clear e4
        rw [e5] at hT; clear e5
        rw [e6] at hT; clear e6
        rw [e7] at hT; clear e7
        rw [e8] at hT; clear e8
        rw [e9] at hT; clear e9
        rw [e10] at hT; clear e10
        rw [e11] at hT; clear e11
        rw [e12] at hT; clear e12
        rw [e13] at hT; clear e13
        rw [e14] at hT; clear e14
        rw [e15] at hT; clear e15
        rw [e16] at hT; clear e16
        rw [e17] at hT; clear e17
        rw [e18] at hT; clear e18
        generalize T[19]?.getD undef = u19 at hT
        generalize T[20]?.getD undef = u20 at hT
        generalize T[21]?.getD undef = u21 at hT
        generalize T[22]?.getD undef = u22 at hT
        generalize T[23]?.getD undef = u23 at hT
        generalize T[24]?.getD undef = u24 at hT
        generalize T[25]?.getD undef = u25 at hT
        generalize T[26]?.getD undef = u26 at hT
        rw [e27] at hT; clear e27
        rw [e28] at hT; clear e28
        rw [e29] at hT; clear e29
        rw [e30] at hT; clear e30
        rw [e31] at hT; clear e31
        rw [e32] at hT; clear e32
        rw [e33] at hT; clear e33
        rw [e34] at hT; clear e34
        rw [e35] at hT; clear e35
        rw [e36] at hT; clear e36
        rw [e37] at hT; clear e37
        rw [e38] at hT; clear e38
        rw [e39] at hT; clear e39
        rw [e40] at hT; clear e40
        rw [e41] at hT; clear e41
        rw [e42] at hT; clear e42
        rw [e43] at hT; clear e43
        rw [e44] at hT; clear e44
        rw [e45] at hT; clear e45
        rw [e46] at hT; clear e46
        rw [e47] at hT; clear e47
        rw [e48] at hT; clear e48
        rw [e49] at hT; clear e49
        rw [e50] at hT; clear e50
        rw [e51] at hT; clear e51
        rw [e52] at hT; clear e52
        rw [e53] at hT; clear e53
        rw [e54] at hT; clear e54
        rw [e55] at hT; clear e55
        rw [e56] at hT; clear e56
        rw [e57] at hT; clear e57
        rw [e58] at hT; clear e58
        rw [e59] at hT; clear e59
        rw [e60] at hT; clear e60
        rw [e61] at hT; clear e61
        rw [e62] at hT; clear e62
        rw [e63] at hT; clear e63
        rw [e64] at hT; clear e64
        rw [e65] at hT; clear e65
        rw [e66] at hT; clear e66
        rw [e67] at hT; clear e67
        rw [e68] at hT; clear e68
        rw [e69] at hT; clear e69
        rw [e70] at hT; clear e70
        rw [e71] at hT; clear e71
        rw [e72] at hT; clear e72
        rw [e73] at hT; clear e73
        rw [e74] at hT; clear e74
        rw [e75] at hT; clear e75
        rw [e76] at hT; clear e76
        rw [e77] at hT; clear e77
        rw [e78] at hT; clear e78
        rw [e79] at hT; clear e79
        rw [e80] at hT; clear e80
        rw [e81] at hT; clear e81
        rw [e82] at hT; clear e82
        rw [e83] at hT; clear e83
        subst hT
        have hBF := Blk.on Bx hbF
        have cBF := hBF.cell
        have bF : Below wr.heap.size wr wF := (by (have q_hbF := Below.size hbF; (try simp at q_hbF); repeat (first | exact Below.refl _ _ | (refine Below.trans ?_ (Below.mono hbF (by first | omega | (simp; omega) | simp))) | (refine Below.setCell ?_ (by first | omega | (simp; omega) | simp) _) | (refine Below.alloc ?_ (by first | omega | (simp; omega) | simp) _) | apply Below.drew | apply below_drewN)))
        have hzF := bF.size
        have hFF := hF.below bF
        have hXF := HXr.out.below bF
        have b1F : Below w1.heap.size w1 wF := (by (have q_bF := Below.size bF; (try simp at q_bF); have q_be1 := Below.size be1; (try simp at q_be1); repeat (first | exact Below.refl _ _ | (refine Below.trans ?_ (Below.mono bF (by first | omega | (simp; omega) | simp))) | (refine Below.trans ?_ (Below.mono be1 (by first | omega | (simp; omega) | simp))) | (refine Below.setCell ?_ (by first | omega | (simp; omega) | simp) _) | (refine Below.alloc ?_ (by first | omega | (simp; omega) | simp) _) | apply Below.drew | apply below_drewN)))
        clear hbF Bx hX2 hF bel
        cases bm with
        | false =>
          go_wp2_with fail
          go_roundw
          case rel => exact ⟨k + 1, false, L, by omega, by go_num, rfl, by rw [HALL.out]; rfl, (fun h => by cases h), hFF, b1F⟩
          case measure => simp [intOf] <;> omega
        | true =>
          have HLt := Lib.hid (HLL.out rfl)
          clear HLL
          go_wp2_with fail
          refine (rmay_any f1 f2 f3 f4 f5 f6 Ad nd cd D _ hDl).mono ?_
          rintro e w5 ⟨rfl, hb5⟩
          rw [HM.out]
          have hB5 := hBF.on hb5
          have cB5 := hB5.cell
          clear cBF hBF
          cases M with
          | false =>
            go_wp2_with fail
            go_roundw
            case rel => exact ⟨k + 1, false, L, by omega, by go_num, rfl, by rw [HALL.out]; rfl, (fun h => by cases h), hFF.below hb5, (by (have q_hb5 := Below.size hb5; (try simp at q_hb5); have q_b1F := Below.size b1F; (try simp at q_b1F); repeat (first | exact Below.refl _ _ | (refine Below.trans ?_ (Below.mono hb5 (by first | omega | (simp; omega) | simp))) | (refine Below.trans ?_ (Below.mono b1F (by first | omega | (simp; omega) | simp))) | (refine Below.setCell ?_ (by first | omega | (simp; omega) | simp) _) | (refine Below.alloc ?_ (by first | omega | (simp; omega) | simp) _) | apply Below.drew | apply below_drewN)))⟩
            case measure => simp [intOf] <;> omega
          | true =>
            obtain ⟨E0, hE0⟩ : ∃ E0, E0 = encA ((f1, f2, f3, f4, f5, f6), D) := ⟨_, rfl⟩
            obtain ⟨nE, hnE⟩ : ∃ nE, E0.length = nE := ⟨_, rfl⟩
            have hel0 : E0.length = 12 + D.length := by rw [hE0, encA_len]
            have hLm := (mayA_range HM.out).2.1
            have hrb := rabytes_any f1 f2 f3 f4 f5 f6 Ad nd cd D w5 (hXF.below hb5) HM.out
            rw [← hE0] at hrb
            have HRB := Lib.hid hrb
            have hst := HENC.out
            rw [← hE0, HLt.out] at hst
            have HST := Lib.hid hst
            have hkl := HKL.out
            rw [HLt.out] at hkl
            clear hE0 hrb hst
            go_wp2_with fail
            refine HRB.out.mono ?_
            rintro e w6 ⟨v6, rfl, hF6, hb6⟩
            obtain ⟨A6, c6', rfl, hR6, _, hn6, hm6⟩ := hF6.rdn nE hnE
            have hF6' := (hFF.below hb5).below hb6
            have b16 : Below w1.heap.size w1 w6 := (by (have q_hb6 := Below.size hb6; (try simp at q_hb6); have q_hb5 := Below.size hb5; (try simp at q_hb5); have q_b1F := Below.size b1F; (try simp at q_b1F); repeat (first | exact Below.refl _ _ | (refine Below.trans ?_ (Below.mono hb6 (by first | omega | (simp; omega) | simp))) | (refine Below.trans ?_ (Below.mono hb5 (by first | omega | (simp; omega) | simp))) | (refine Below.trans ?_ (Below.mono b1F (by first | omega | (simp; omega) | simp))) | (refine Below.setCell ?_ (by first | omega | (simp; omega) | simp) _) | (refine Below.alloc ?_ (by first | omega | (simp; omega) | simp) _) | apply Below.drew | apply below_drewN)))
            have hz6 := b16.size
            go_wp2_with (at_builtin; refine wpList_append_bytes _ rfl (.tmp 34) (.tmp 36) _ rfl w1.heap.size 5 Try.underlying30 info8 v L rfl hF6' A6 nE c6' E0 rfl hR6 (by omega) (by omega) ?_; intro b' w9 hF9 hg9 hb9)
            go_roundw
            case rel => exact ⟨k + 1, true, L ++ E0, by omega, by go_num, rfl, by rw [HALL.out]; rfl, (fun _ => HST.out.symm), hF9, b16.trans hb9⟩
            case measure => simp [intOf] <;> omega
    · obtain rfl : k = na := by omega
      have hT : a.take k = a := List.take_of_length_le (by rw [HNA.out]; omega)
      have hkl := encs_len2 HLa.out k
      rw [hT] at hbm hL hkl
      obtain ⟨nL, hnL⟩ : ∃ nL, L.length = nL := ⟨_, rfl⟩
      have HBM := Lib.hid hbm
      have HL := Lib.hid hL
      have HKL := Lib.hid hkl
      clear hT hbm hL hkl
      obtain ⟨A3, c3, rfl, hR3, _, hn3, hm3⟩ := hF.rdn nL hnL
      clear hF
      go_wp2_with fail
      refine (aours_any A1' k c1 w.heap.size a _ (hR1.below be1) (by omega) (by omega) HLa.out).mono ?_
      rintro e w5 ⟨v5, rfl, hO5, hb5⟩
      obtain ⟨A5, c5, rfl, hR5, hn5, hm5⟩ := hO5.rd k HNA.out
      have hz5 := hb5.size
      clear hO5
      go_wp2_with fail
      refine (sencode_any A5 k c5 _ _ a _ hR5 (by omega)).mono ?_
      rintro e w6 ⟨v6, rfl, hF6, hb6⟩
      have hz6 := hb6.size
      have b6 : Below w.heap.size w w6 := (by (have q_hb6 := Below.size hb6; (try simp at q_hb6); have q_hb5 := Below.size hb5; (try simp at q_hb5); have q_bel := Below.size bel; (try simp at q_bel); repeat (first | exact Below.refl _ _ | (refine Below.trans ?_ (Below.mono hb6 (by first | omega | (simp; omega) | simp))) | (refine Below.trans ?_ (Below.mono hb5 (by first | omega | (simp; omega) | simp))) | (refine Below.trans ?_ (Below.mono bel (by first | omega | (simp; omega) | simp))) | (refine Below.setCell ?_ (by first | omega | (simp; omega) | simp) _) | (refine Below.alloc ?_ (by first | omega | (simp; omega) | simp) _) | apply Below.drew | apply below_drewN)))
      cases bm with
      | false =>
        have e1 : encS a = [] := by unfold encS; rw [HBM.out]; rfl
        have e2 : errS a = 1 := by unfold errS; rw [HBM.out]; rfl
        rw [e1] at hF6
        rw [e2]
        obtain ⟨A6, c6, rfl, hR6, _, hn6, hm6⟩ := hF6.rdn 0 rfl
        clear e1 e2 hF6
        go_wp2_with fail
        refine (sawake_any _).mono ?_
        rintro e w7 ⟨rfl, hb7⟩
        go_wp2_with fail
        go_ret
        exact ⟨rfl, (by (have q_hb7 := Below.size hb7; (try simp at q_hb7); have q_b6 := Below.size b6; (try simp at q_b6); repeat (first | exact Below.refl _ _ | (refine Below.trans ?_ (Below.mono hb7 (by first | omega | (simp; omega) | simp))) | (refine Below.trans ?_ (Below.mono b6 (by first | omega | (simp; omega) | simp))) | (refine Below.setCell ?_ (by first | omega | (simp; omega) | simp) _) | (refine Below.alloc ?_ (by first | omega | (simp; omega) | simp) _) | apply Below.drew | apply below_drewN)))⟩
      | true =>
        have hLt := HL.out rfl
        have p1 := Lib.hid (show PA L a [] from ⟨HBM.out, by rw [List.append_nil]; exact hLt.symm⟩)
        have e1 : encS a = L := by unfold encS; rw [HBM.out, ← hLt]; rfl
        have e2 : errS a = 0 := by unfold errS; rw [HBM.out]; rfl
        rw [e1] at hF6
        rw [e2]
        have hll := HKL.out
        rw [hLt] at hll
        clear hLt HL
        obtain ⟨A6, c6, rfl, hR6, _, hn6, hm6⟩ := hF6.rdn nL hnL
        clear e1 e2 hF6
        go_wp2_with fail
        refine (sparse_any A6 nL c6 L _ hR6 (by omega) hn6 hm6).mono ?_
        intro e w7 hP
        obtain ⟨v7, rfl, hO7, hb7⟩ := parsed_own (a := a) p1.out hP
        obtain ⟨A7, c7, rfl, hR7, hn7, hm7⟩ := hO7.rd k HNA.out
        have hz7 := hb7.size
        have cv1 := conv c6 w7 (hR6.below hb7)
        have cv2 := conv c3 w7 (hR3.below (by (have q_hb7 := Below.size hb7; (try simp at q_hb7); have q_hb6 := Below.size hb6; (try simp at q_hb6); have q_hb5 := Below.size hb5; (try simp at q_hb5); repeat (first | exact Below.refl _ _ | (refine Below.trans ?_ (Below.mono hb7 (by first | omega | (simp; omega) | simp))) | (refine Below.trans ?_ (Below.mono hb6 (by first | omega | (simp; omega) | simp))) | (refine Below.trans ?_ (Below.mono hb5 (by first | omega | (simp; omega) | simp))) | (refine Below.setCell ?_ (by first | omega | (simp; omega) | simp) _) | (refine Below.alloc ?_ (by first | omega | (simp; omega) | simp) _) | apply Below.drew | apply below_drewN))))
        have hq : ((str L).toList == (str L).toList) = true := by simp
        clear hO7 hP
        go_wp2_with fail
        refine (aplain_any A7 k c7 _ a _ hR7 hz7 (by omega)).mono ?_
        rintro e w8 ⟨v8, rfl, hO8, hb8⟩
        obtain ⟨A8, c8, rfl, hR8, hn8, hm8⟩ := hO8.rd k HNA.out
        go_wp2_with fail
        refine (rall_any false A8 A1' k k c8 c1 _ _ _ _ a a _ hR8 (hR1.below (by (have q_hb8 := Below.size hb8; (try simp at q_hb8); have q_hb7 := Below.size hb7; (try simp at q_hb7); have q_hb6 := Below.size hb6; (try simp at q_hb6); have q_hb5 := Below.size hb5; (try simp at q_hb5); have q_be1 := Below.size be1; (try simp at q_be1); repeat (first | exact Below.refl _ _ | (refine Below.trans ?_ (Below.mono hb8 (by first | omega | (simp; omega) | simp))) | (refine Below.trans ?_ (Below.mono hb7 (by first | omega | (simp; omega) | simp))) | (refine Below.trans ?_ (Below.mono hb6 (by first | omega | (simp; omega) | simp))) | (refine Below.trans ?_ (Below.mono hb5 (by first | omega | (simp; omega) | simp))) | (refine Below.trans ?_ (Below.mono be1 (by first | omega | (simp; omega) | simp))) | (refine Below.setCell ?_ (by first | omega | (simp; omega) | simp) _) | (refine Below.alloc ?_ (by first | omega | (simp; omega) | simp) _) | apply Below.drew | apply below_drewN)))) (by omega)).mono ?_
        rintro e w9 ⟨rfl, hb9⟩
        rw [allA_refl]
        go_wp2_with fail
        refine (sawake_any _).mono ?_
        rintro e w10 ⟨rfl, hb10⟩
        go_wp2_with fail
        go_ret
        exact ⟨rfl, (by (have q_hb10 := Below.size hb10; (try simp at q_hb10); have q_hb9 := Below.size hb9; (try simp at q_hb9); have q_hb8 := Below.size hb8; (try simp at q_hb8); have q_hb7 := Below.size hb7; (try simp at q_hb7); have q_b6 := Below.size b6; (try simp at q_b6); repeat (first | exact Below.refl _ _ | (refine Below.trans ?_ (Below.mono hb10 (by first | omega | (simp; omega) | simp))) | (refine Below.trans ?_ (Below.mono hb9 (by first | omega | (simp; omega) | simp))) | (refine Below.trans ?_ (Below.mono hb8 (by first | omega | (simp; omega) | simp))) | (refine Below.trans ?_ (Below.mono hb7 (by first | omega | (simp; omega) | simp))) | (refine Below.trans ?_ (Below.mono b6 (by first | omega | (simp; omega) | simp))) | (refine Below.setCell ?_ (by first | omega | (simp; omega) | simp) _) | (refine Below.alloc ?_ (by first | omega | (simp; omega) | simp) _) | apply Below.drew | apply below_drewN)))⟩
end Go.Proofs.Ythlgagjnlnakkaa
