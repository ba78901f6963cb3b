/- The walks of the statements WordPad, WordSame, WordXor. -/
import Derived.Test.YtdnjlhcmihmgdaaWord6
namespace Go.Proofs.Ytdnjlhcmihmgdaa
open Go.RowKit

/-- What WordPad's number becomes. -/
def padN (n : Int) : Int := if 300 < n ∧ n < 65000 then 300 else n

set_option maxHeartbeats 1000000 in
theorem law_pad_of (A : Option Addr) (n c : Nat) (l : List UInt8) (m : Int) (w : World) (hr : Rd w A n l) (hc : n ≤ c) (hm : c ≤ maxLen) (k : Int) (hk : padN m = k) (L : List UInt8) (N : Nat) (hL : L.length = N) (_hN : N ≤ 65536)
    (cp : ∀ W, Rd W A (min n 80) (l.take 80) → Calls Try.prog 28 #[.slice A (min n 80 : Nat) c, .int .i64 k] W (Gives 5 W L)) (cr : ∀ W, Rd W A (min n 80) (l.take 80) → Calls Try.prog 29 #[.slice A (min n 80 : Nat) c, .int .i64 k] W (Gives 5 W L)) :
    Calls Try.prog 8 #[.slice A n c, .int .i64 m] w fun e w' => e = .returned (.bool true) ∧ Below w.heap.size w w' := by
  have hp := Lib.hid cp
  have hq := Lib.hid cr
  have hl := Lib.hid hL
  have hR := hr.short
  have hmm := hm
  unfold maxLen at hm
  clear cp cr hL
  obtain ⟨s, hs⟩ : ∃ s, s = min n 80 := ⟨_, rfl⟩
  rw [← hs] at hR hp hq
  have hs80 : s ≤ 80 := by omega
  have hsc : s ≤ c := by omega
  have HS := Lib.hid hs
  clear hs
  unfold padN at hk
  by_cases h1 : 300 < m
  · by_cases h2 : m < 65000
    · rw [if_pos ⟨h1, h2⟩] at hk
      subst hk
      go_enter Try.func8, Try.ntmps8
      go_wp2_with fail
      refine (short_any _ _ _ _ hc hmm).mono ?_
      rintro e w1 ⟨rfl, rfl⟩
      rw [← HS.out]
      go_wp2_with fail
      refine wp_flows [(fun y_ _ => y_ = .slice A s c), (fun y_ _ => y_ = .int .i64 300), (IsB (N) (L)), (fun y_ _ => y_ = .string (str (L))), (fun y_ _ => y_ = .slice A s c), (fun y_ _ => y_ = .int .i64 300), (IsB (N) (L)), (fun y_ _ => y_ = .string (str (L))), (fun y_ _ => y_ = .bool true), (fun y_ _ => y_ = .bool true), (fun y_ _ => y_ = .bool true), (fun y_ _ => y_ = .bool true), (fun y_ _ => y_ = .bool true)] (by kernel_rfl) ⟨Stab.eq _, Stab.eq _, Stab.b _ _, Stab.eq _, Stab.eq _, Stab.eq _, Stab.b _ _, Stab.eq _, Stab.eq _, Stab.eq _, Stab.eq _, Stab.eq _, Stab.eq _, trivial⟩ (by kernel_rfl) (by rfl) ?_ ?_
      · intro kq hkq
        match kq, hkq with
        | 0, _ =>
          refine StepOk.plain _ 13 rfl rfl rfl [(0, none)] (by kernel_rfl) (fun af wf hbw hf Kf hKf => ?_)
          obtain ⟨g0, _⟩ := hf
          have h0 : af.tmps[0]?.getD undef = .slice A s c := g0
          clear g0
          go_simp
          exact hKf _ _ (Below.refl _ _) rfl
        | 1, _ =>
          refine StepOk.plain _ 14 rfl rfl rfl [(1, none)] (by kernel_rfl) (fun af wf hbw hf Kf hKf => ?_)
          obtain ⟨g1, _⟩ := hf
          have h1 : af.tmps[1]?.getD undef = .int .i64 300 := g1
          clear g1
          go_simp
          exact hKf _ _ (Below.refl _ _) rfl
        | 2, _ =>
          refine StepOk.plain _ 15 rfl rfl rfl [(13, some 0), (14, some 1)] (by kernel_rfl) (fun af wf hbw hf Kf hKf => ?_)
          obtain ⟨g13, g14, _⟩ := hf
          have h13 : af.tmps[13]?.getD undef = .slice A s c := g13
          have h14 : af.tmps[14]?.getD undef = .int .i64 300 := g14
          clear g13 g14
          go_simp
          refine (hp.out _ (Rd.below (Rd.drew hR) hbw)).mono ?_
          rintro e wN ⟨r, rfl, hF, hb1⟩
          exact hKf _ _ (hb1) (IsB.of hF hl.out)
        | 3, _ =>
          refine StepOk.plain _ 16 rfl rfl rfl [(15, some 2)] (by kernel_rfl) (fun af wf hbw hf Kf hKf => ?_)
          obtain ⟨g15, _⟩ := hf
          obtain ⟨A15, c15, h15, hR15, hn15, hm15⟩ : IsB (N) (L) (af.tmps[15]?.getD undef) wf := g15
          have hcv := conv c15 _ hR15
          go_simp
          exact hKf _ _ (Below.refl _ _) rfl
        | 4, _ =>
          refine StepOk.plain _ 17 rfl rfl rfl [(0, none)] (by kernel_rfl) (fun af wf hbw hf Kf hKf => ?_)
          obtain ⟨g0, _⟩ := hf
          have h0 : af.tmps[0]?.getD undef = .slice A s c := g0
          clear g0
          go_simp
          exact hKf _ _ (Below.refl _ _) rfl
        | 5, _ =>
          refine StepOk.plain _ 18 rfl rfl rfl [(1, none)] (by kernel_rfl) (fun af wf hbw hf Kf hKf => ?_)
          obtain ⟨g1, _⟩ := hf
          have h1 : af.tmps[1]?.getD undef = .int .i64 300 := g1
          clear g1
          go_simp
          exact hKf _ _ (Below.refl _ _) rfl
        | 6, _ =>
          refine StepOk.plain _ 19 rfl rfl rfl [(17, some 4), (18, some 5)] (by kernel_rfl) (fun af wf hbw hf Kf hKf => ?_)
          obtain ⟨g17, g18, _⟩ := hf
          have h17 : af.tmps[17]?.getD undef = .slice A s c := g17
          have h18 : af.tmps[18]?.getD undef = .int .i64 300 := g18
          clear g17 g18
          go_simp
          refine (hq.out _ (Rd.below (Rd.drew hR) hbw)).mono ?_
          rintro e wN ⟨r, rfl, hF, hb1⟩
          exact hKf _ _ (hb1) (IsB.of hF hl.out)
        | 7, _ =>
          refine StepOk.plain _ 20 rfl rfl rfl [(19, some 6)] (by kernel_rfl) (fun af wf hbw hf Kf hKf => ?_)
          obtain ⟨g19, _⟩ := hf
          obtain ⟨A19, c19, h19, hR19, hn19, hm19⟩ : IsB (N) (L) (af.tmps[19]?.getD undef) wf := g19
          have hcv := conv c19 _ hR19
          go_simp
          exact hKf _ _ (Below.refl _ _) rfl
        | 8, _ =>
          refine StepOk.plain _ 21 rfl rfl rfl [(16, some 3), (20, some 7)] (by kernel_rfl) (fun af wf hbw hf Kf hKf => ?_)
          obtain ⟨g16, g20, _⟩ := hf
          have h16 : af.tmps[16]?.getD undef = .string (str (L)) := g16
          have h20 : af.tmps[20]?.getD undef = .string (str (L)) := g20
          clear g16 g20
          go_simp
          exact hKf _ _ (Below.refl _ _) rfl
        | 9, _ =>
          refine StepOk.plain _ 22 rfl rfl rfl [(21, some 8)] (by kernel_rfl) (fun af wf hbw hf Kf hKf => ?_)
          obtain ⟨g21, _⟩ := hf
          have h21 : af.tmps[21]?.getD undef = .bool true := g21
          clear g21
          go_simp
          exact hKf _ _ (Below.refl _ _) rfl
        | 10, _ =>
          refine StepOk.yes _ 23 rfl rfl rfl rfl (fun _ _ h => h) [] (by kernel_rfl) (fun af wf hbw hf Kf hKf => ?_)
          go_simp
          refine (wawake_any _).mono ?_
          rintro e wN ⟨rfl, hb1⟩
          exact hKf _ _ (hb1) (rfl)
        | 11, _ =>
          refine StepOk.plain _ 24 rfl rfl rfl [(22, some 9), (23, some 10)] (by kernel_rfl) (fun af wf hbw hf Kf hKf => ?_)
          obtain ⟨g22, g23, _⟩ := hf
          have h22 : af.tmps[22]?.getD undef = .bool true := g22
          have h23 : af.tmps[23]?.getD undef = .bool true := g23
          clear g22 g23
          go_simp
          exact hKf _ _ (Below.refl _ _) rfl
        | 12, _ =>
          refine StepOk.plain _ 4 rfl rfl rfl [(24, some 11)] (by kernel_rfl) (fun af wf hbw hf Kf hKf => ?_)
          obtain ⟨g24, _⟩ := hf
          have h24 : af.tmps[24]?.getD undef = .bool true := g24
          clear g24
          go_simp
          exact hKf _ _ (Below.refl _ _) rfl
        | i + 13, h => exact absurd h (by show ¬ (i + 13 < 13); omega)
      · intro af wF hbF hdF hsF hbaseF hfactF
        obtain ⟨T, dsF⟩ := af
        obtain rfl : dsF = _ := hdF
        have e0 := hbaseF 0 (not_dst (by kernel_rfl))
        simp only [List.getElem?_toArray, List.getElem?_cons_zero, Option.getD_some] at e0
        have e1 := hbaseF 1 (not_dst (by kernel_rfl))
        simp only [List.getElem?_toArray, List.getElem?_cons_zero, List.getElem?_cons_succ, Option.getD_some] at e1
        have e2 := hbaseF 2 (not_dst (by kernel_rfl))
        simp only [List.getElem?_toArray, List.getElem?_cons_zero, List.getElem?_cons_succ, Option.getD_some] at e2
        have e3 := hbaseF 3 (not_dst (by kernel_rfl))
        simp only [List.getElem?_toArray, List.getElem?_cons_zero, List.getElem?_cons_succ, Option.getD_some] at e3
        have e5 := hbaseF 5 (not_dst (by kernel_rfl))
        simp only [List.getElem?_toArray, List.getElem?_cons_zero, List.getElem?_cons_succ, Option.getD_some] at e5
        have e6 := hbaseF 6 (not_dst (by kernel_rfl))
        simp only [List.getElem?_toArray, List.getElem?_cons_zero, List.getElem?_cons_succ, Option.getD_some] at e6
        have e7 := hbaseF 7 (not_dst (by kernel_rfl))
        simp only [List.getElem?_toArray, List.getElem?_cons_zero, List.getElem?_cons_succ, Option.getD_some] at e7
        have e8 := hbaseF 8 (not_dst (by kernel_rfl))
        simp only [List.getElem?_toArray, List.getElem?_cons_zero, List.getElem?_cons_succ, Option.getD_some] at e8
        have e9 := hbaseF 9 (not_dst (by kernel_rfl))
        simp only [List.getElem?_toArray, List.getElem?_cons_zero, List.getElem?_cons_succ, Option.getD_some] at e9
        have e10 := hbaseF 10 (not_dst (by kernel_rfl))
        simp only [List.getElem?_toArray, List.getElem?_cons_zero, List.getElem?_cons_succ, Option.getD_some] at e10
        have e11 := hbaseF 11 (not_dst (by kernel_rfl))
        simp only [List.getElem?_toArray, List.getElem?_cons_zero, List.getElem?_cons_succ, Option.getD_some] at e11
        have e12 := hbaseF 12 (not_dst (by kernel_rfl))
        simp only [List.getElem?_toArray, List.getElem?_cons_zero, List.getElem?_cons_succ, Option.getD_some] at e12
        have e4 := hfactF 12 4 (by decide) rfl
        replace e4 : T[4]?.getD undef = .bool true := e4
        clear hbaseF hfactF
        have hT : T = #[T[0]?.getD undef, T[1]?.getD undef, T[2]?.getD undef, T[3]?.getD undef, T[4]?.getD undef, T[5]?.getD undef, T[6]?.getD undef, T[7]?.getD undef, T[8]?.getD undef, T[9]?.getD undef, T[10]?.getD undef, T[11]?.getD undef, T[12]?.getD undef, T[13]?.getD undef, T[14]?.getD undef, T[15]?.getD undef, T[16]?.getD undef, T[17]?.getD undef, T[18]?.getD undef, T[19]?.getD undef, T[20]?.getD undef, T[21]?.getD undef, T[22]?.getD undef, T[23]?.getD undef, T[24]?.getD undef] := arr_eq T 25 hsF
        clear hsF
        rw [e0] at hT; clear e0
        rw [e1] at hT; clear e1
        rw [e2] at hT; clear e2
        rw [e3] at hT; clear e3
        rw [e4] at hT; clear e4
        rw [e5] at hT; clear e5
        rw [e6] at hT; clear e6
        rw [e7] at hT; clear e7
        rw [e8] at hT; clear e8
        rw [e9] at hT; clear e9
        rw [e10] at hT; clear e10
        rw [e11] at hT; clear e11
        rw [e12] at hT; clear e12
        generalize T[13]?.getD undef = u13 at hT
        generalize T[14]?.getD undef = u14 at hT
        generalize T[15]?.getD undef = u15 at hT
        generalize T[16]?.getD undef = u16 at hT
        generalize T[17]?.getD undef = u17 at hT
        generalize T[18]?.getD undef = u18 at hT
        generalize T[19]?.getD undef = u19 at hT
        generalize T[20]?.getD undef = u20 at hT
        generalize T[21]?.getD undef = u21 at hT
        generalize T[22]?.getD undef = u22 at hT
        generalize T[23]?.getD undef = u23 at hT
        generalize T[24]?.getD undef = u24 at hT
        subst hT
        go_wp2_with fail
        go_ret
        exact ⟨rfl, (by (have q_hbF := Below.size hbF; (try simp at q_hbF); repeat (first | exact Below.refl _ _ | (refine Below.trans ?_ (Below.mono hbF (by first | omega | (simp; omega) | simp))) | (refine Below.setCell ?_ (by first | omega | (simp; omega) | simp) _) | (refine Below.alloc ?_ (by first | omega | (simp; omega) | simp) _) | apply Below.drew | apply below_drewN)))⟩
    · rw [if_neg (by omega)] at hk
      subst hk
      go_enter Try.func8, Try.ntmps8
      go_wp2_with fail
      refine (short_any _ _ _ _ hc hmm).mono ?_
      rintro e w1 ⟨rfl, rfl⟩
      rw [← HS.out]
      go_wp2_with fail
      refine wp_flows [(fun y_ _ => y_ = .slice A s c), (fun y_ _ => y_ = .int .i64 m), (IsB (N) (L)), (fun y_ _ => y_ = .string (str (L))), (fun y_ _ => y_ = .slice A s c), (fun y_ _ => y_ = .int .i64 m), (IsB (N) (L)), (fun y_ _ => y_ = .string (str (L))), (fun y_ _ => y_ = .bool true), (fun y_ _ => y_ = .bool true), (fun y_ _ => y_ = .bool true), (fun y_ _ => y_ = .bool true), (fun y_ _ => y_ = .bool true)] (by kernel_rfl) ⟨Stab.eq _, Stab.eq _, Stab.b _ _, Stab.eq _, Stab.eq _, Stab.eq _, Stab.b _ _, Stab.eq _, Stab.eq _, Stab.eq _, Stab.eq _, Stab.eq _, Stab.eq _, trivial⟩ (by kernel_rfl) (by rfl) ?_ ?_
      · intro kq hkq
        match kq, hkq with
        | 0, _ =>
          refine StepOk.plain _ 13 rfl rfl rfl [(0, none)] (by kernel_rfl) (fun af wf hbw hf Kf hKf => ?_)
          obtain ⟨g0, _⟩ := hf
          have h0 : af.tmps[0]?.getD undef = .slice A s c := g0
          clear g0
          go_simp
          exact hKf _ _ (Below.refl _ _) rfl
        | 1, _ =>
          refine StepOk.plain _ 14 rfl rfl rfl [(1, none)] (by kernel_rfl) (fun af wf hbw hf Kf hKf => ?_)
          obtain ⟨g1, _⟩ := hf
          have h1 : af.tmps[1]?.getD undef = .int .i64 m := g1
          clear g1
          go_simp
          exact hKf _ _ (Below.refl _ _) rfl
        | 2, _ =>
          refine StepOk.plain _ 15 rfl rfl rfl [(13, some 0), (14, some 1)] (by kernel_rfl) (fun af wf hbw hf Kf hKf => ?_)
          obtain ⟨g13, g14, _⟩ := hf
          have h13 : af.tmps[13]?.getD undef = .slice A s c := g13
          have h14 : af.tmps[14]?.getD undef = .int .i64 m := g14
          clear g13 g14
          go_simp
          refine (hp.out _ (Rd.below (Rd.drew hR) hbw)).mono ?_
          rintro e wN ⟨r, rfl, hF, hb1⟩
          exact hKf _ _ (hb1) (IsB.of hF hl.out)
        | 3, _ =>
          refine StepOk.plain _ 16 rfl rfl rfl [(15, some 2)] (by kernel_rfl) (fun af wf hbw hf Kf hKf => ?_)
          obtain ⟨g15, _⟩ := hf
          obtain ⟨A15, c15, h15, hR15, hn15, hm15⟩ : IsB (N) (L) (af.tmps[15]?.getD undef) wf := g15
          have hcv := conv c15 _ hR15
          go_simp
          exact hKf _ _ (Below.refl _ _) rfl
        | 4, _ =>
          refine StepOk.plain _ 17 rfl rfl rfl [(0, none)] (by kernel_rfl) (fun af wf hbw hf Kf hKf => ?_)
          obtain ⟨g0, _⟩ := hf
          have h0 : af.tmps[0]?.getD undef = .slice A s c := g0
          clear g0
          go_simp
          exact hKf _ _ (Below.refl _ _) rfl
        | 5, _ =>
          refine StepOk.plain _ 18 rfl rfl rfl [(1, none)] (by kernel_rfl) (fun af wf hbw hf Kf hKf => ?_)
          obtain ⟨g1, _⟩ := hf
          have h1 : af.tmps[1]?.getD undef = .int .i64 m := g1
          clear g1
          go_simp
          exact hKf _ _ (Below.refl _ _) rfl
        | 6, _ =>
          refine StepOk.plain _ 19 rfl rfl rfl [(17, some 4), (18, some 5)] (by kernel_rfl) (fun af wf hbw hf Kf hKf => ?_)
          obtain ⟨g17, g18, _⟩ := hf
          have h17 : af.tmps[17]?.getD undef = .slice A s c := g17
          have h18 : af.tmps[18]?.getD undef = .int .i64 m := g18
          clear g17 g18
          go_simp
          refine (hq.out _ (Rd.below (Rd.drew hR) hbw)).mono ?_
          rintro e wN ⟨r, rfl, hF, hb1⟩
          exact hKf _ _ (hb1) (IsB.of hF hl.out)
        | 7, _ =>
          refine StepOk.plain _ 20 rfl rfl rfl [(19, some 6)] (by kernel_rfl) (fun af wf hbw hf Kf hKf => ?_)
          obtain ⟨g19, _⟩ := hf
          obtain ⟨A19, c19, h19, hR19, hn19, hm19⟩ : IsB (N) (L) (af.tmps[19]?.getD undef) wf := g19
          have hcv := conv c19 _ hR19
          go_simp
          exact hKf _ _ (Below.refl _ _) rfl
        | 8, _ =>
          refine StepOk.plain _ 21 rfl rfl rfl [(16, some 3), (20, some 7)] (by kernel_rfl) (fun af wf hbw hf Kf hKf => ?_)
          obtain ⟨g16, g20, _⟩ := hf
          have h16 : af.tmps[16]?.getD undef = .string (str (L)) := g16
          have h20 : af.tmps[20]?.getD undef = .string (str (L)) := g20
          clear g16 g20
          go_simp
          exact hKf _ _ (Below.refl _ _) rfl
        | 9, _ =>
          refine StepOk.plain _ 22 rfl rfl rfl [(21, some 8)] (by kernel_rfl) (fun af wf hbw hf Kf hKf => ?_)
          obtain ⟨g21, _⟩ := hf
          have h21 : af.tmps[21]?.getD undef = .bool true := g21
          clear g21
          go_simp
          exact hKf _ _ (Below.refl _ _) rfl
        | 10, _ =>
          refine StepOk.yes _ 23 rfl rfl rfl rfl (fun _ _ h => h) [] (by kernel_rfl) (fun af wf hbw hf Kf hKf => ?_)
          go_simp
          refine (wawake_any _).mono ?_
          rintro e wN ⟨rfl, hb1⟩
          exact hKf _ _ (hb1) (rfl)
        | 11, _ =>
          refine StepOk.plain _ 24 rfl rfl rfl [(22, some 9), (23, some 10)] (by kernel_rfl) (fun af wf hbw hf Kf hKf => ?_)
          obtain ⟨g22, g23, _⟩ := hf
          have h22 : af.tmps[22]?.getD undef = .bool true := g22
          have h23 : af.tmps[23]?.getD undef = .bool true := g23
          clear g22 g23
          go_simp
          exact hKf _ _ (Below.refl _ _) rfl
        | 12, _ =>
          refine StepOk.plain _ 4 rfl rfl rfl [(24, some 11)] (by kernel_rfl) (fun af wf hbw hf Kf hKf => ?_)
          obtain ⟨g24, _⟩ := hf
          have h24 : af.tmps[24]?.getD undef = .bool true := g24
          clear g24
          go_simp
          exact hKf _ _ (Below.refl _ _) rfl
        | i + 13, h => exact absurd h (by show ¬ (i + 13 < 13); omega)
      · intro af wF hbF hdF hsF hbaseF hfactF
        obtain ⟨T, dsF⟩ := af
        obtain rfl : dsF = _ := hdF
        have e0 := hbaseF 0 (not_dst (by kernel_rfl))
        simp only [List.getElem?_toArray, List.getElem?_cons_zero, Option.getD_some] at e0
        have e1 := hbaseF 1 (not_dst (by kernel_rfl))
        simp only [List.getElem?_toArray, List.getElem?_cons_zero, List.getElem?_cons_succ, Option.getD_some] at e1
        have e2 := hbaseF 2 (not_dst (by kernel_rfl))
        simp only [List.getElem?_toArray, List.getElem?_cons_zero, List.getElem?_cons_succ, Option.getD_some] at e2
        have e3 := hbaseF 3 (not_dst (by kernel_rfl))
        simp only [List.getElem?_toArray, List.getElem?_cons_zero, List.getElem?_cons_succ, Option.getD_some] at e3
        have e5 := hbaseF 5 (not_dst (by kernel_rfl))
        simp only [List.getElem?_toArray, List.getElem?_cons_zero, List.getElem?_cons_succ, Option.getD_some] at e5
        have e6 := hbaseF 6 (not_dst (by kernel_rfl))
        simp only [List.getElem?_toArray, List.getElem?_cons_zero, List.getElem?_cons_succ, Option.getD_some] at e6
        have e7 := hbaseF 7 (not_dst (by kernel_rfl))
        simp only [List.getElem?_toArray, List.getElem?_cons_zero, List.getElem?_cons_succ, Option.getD_some] at e7
        have e8 := hbaseF 8 (not_dst (by kernel_rfl))
        simp only [List.getElem?_toArray, List.getElem?_cons_zero, List.getElem?_cons_succ, Option.getD_some] at e8
        have e9 := hbaseF 9 (not_dst (by kernel_rfl))
        simp only [List.getElem?_toArray, List.getElem?_cons_zero, List.getElem?_cons_succ, Option.getD_some] at e9
        have e10 := hbaseF 10 (not_dst (by kernel_rfl))
        simp only [List.getElem?_toArray, List.getElem?_cons_zero, List.getElem?_cons_succ, Option.getD_some] at e10
        have e11 := hbaseF 11 (not_dst (by kernel_rfl))
        simp only [List.getElem?_toArray, List.getElem?_cons_zero, List.getElem?_cons_succ, Option.getD_some] at e11
        have e12 := hbaseF 12 (not_dst (by kernel_rfl))
        simp only [List.getElem?_toArray, List.getElem?_cons_zero, List.getElem?_cons_succ, Option.getD_some] at e12
        have e4 := hfactF 12 4 (by decide) rfl
        replace e4 : T[4]?.getD undef = .bool true := e4
        clear hbaseF hfactF
        have hT : T = #[T[0]?.getD undef, T[1]?.getD undef, T[2]?.getD undef, T[3]?.getD undef, T[4]?.getD undef, T[5]?.getD undef, T[6]?.getD undef, T[7]?.getD undef, T[8]?.getD undef, T[9]?.getD undef, T[10]?.getD undef, T[11]?.getD undef, T[12]?.getD undef, T[13]?.getD undef, T[14]?.getD undef, T[15]?.getD undef, T[16]?.getD undef, T[17]?.getD undef, T[18]?.getD undef, T[19]?.getD undef, T[20]?.getD undef, T[21]?.getD undef, T[22]?.getD undef, T[23]?.getD undef, T[24]?.getD undef] := arr_eq T 25 hsF
        clear hsF
        rw [e0] at hT; clear e0
        rw [e1] at hT; clear e1
        rw [e2] at hT; clear e2
        rw [e3] at hT; clear e3
        rw [e4] at hT; clear e4
        rw [e5] at hT; clear e5
        rw [e6] at hT; clear e6
        rw [e7] at hT; clear e7
        rw [e8] at hT; clear e8
        rw [e9] at hT; clear e9
        rw [e10] at hT; clear e10
        rw [e11] at hT; clear e11
        rw [e12] at hT; clear e12
        generalize T[13]?.getD undef = u13 at hT
        generalize T[14]?.getD undef = u14 at hT
        generalize T[15]?.getD undef = u15 at hT
        generalize T[16]?.getD undef = u16 at hT
        generalize T[17]?.getD undef = u17 at hT
        generalize T[18]?.getD undef = u18 at hT
        generalize T[19]?.getD undef = u19 at hT
        generalize T[20]?.getD undef = u20 at hT
        generalize T[21]?.getD undef = u21 at hT
        generalize T[22]?.getD undef = u22 at hT
        generalize T[23]?.getD undef = u23 at hT
        generalize T[24]?.getD undef = u24 at hT
        subst hT
        go_wp2_with fail
        go_ret
        exact ⟨rfl, (by (have q_hbF := Below.size hbF; (try simp at q_hbF); repeat (first | exact Below.refl _ _ | (refine Below.trans ?_ (Below.mono hbF (by first | omega | (simp; omega) | simp))) | (refine Below.setCell ?_ (by first | omega | (simp; omega) | simp) _) | (refine Below.alloc ?_ (by first | omega | (simp; omega) | simp) _) | apply Below.drew | apply below_drewN)))⟩
  · rw [if_neg (by omega)] at hk
    subst hk
    go_enter Try.func8, Try.ntmps8
    go_wp2_with fail
    refine (short_any _ _ _ _ hc hmm).mono ?_
    rintro e w1 ⟨rfl, rfl⟩
    rw [← HS.out]
    go_wp2_with fail
    refine wp_flows [(fun y_ _ => y_ = .slice A s c), (fun y_ _ => y_ = .int .i64 m), (IsB (N) (L)), (fun y_ _ => y_ = .string (str (L))), (fun y_ _ => y_ = .slice A s c), (fun y_ _ => y_ = .int .i64 m), (IsB (N) (L)), (fun y_ _ => y_ = .string (str (L))), (fun y_ _ => y_ = .bool true), (fun y_ _ => y_ = .bool true), (fun y_ _ => y_ = .bool true), (fun y_ _ => y_ = .bool true), (fun y_ _ => y_ = .bool true)] (by kernel_rfl) ⟨Stab.eq _, Stab.eq _, Stab.b _ _, Stab.eq _, Stab.eq _, Stab.eq _, Stab.b _ _, Stab.eq _, Stab.eq _, Stab.eq _, Stab.eq _, Stab.eq _, Stab.eq _, trivial⟩ (by kernel_rfl) (by rfl) ?_ ?_
    · intro kq hkq
      match kq, hkq with
      | 0, _ =>
        refine StepOk.plain _ 13 rfl rfl rfl [(0, none)] (by kernel_rfl) (fun af wf hbw hf Kf hKf => ?_)
        obtain ⟨g0, _⟩ := hf
        have h0 : af.tmps[0]?.getD undef = .slice A s c := g0
        clear g0
        go_simp
        exact hKf _ _ (Below.refl _ _) rfl
      | 1, _ =>
        refine StepOk.plain _ 14 rfl rfl rfl [(1, none)] (by kernel_rfl) (fun af wf hbw hf Kf hKf => ?_)
        obtain ⟨g1, _⟩ := hf
        have h1 : af.tmps[1]?.getD undef = .int .i64 m := g1
        clear g1
        go_simp
        exact hKf _ _ (Below.refl _ _) rfl
      | 2, _ =>
        refine StepOk.plain _ 15 rfl rfl rfl [(13, some 0), (14, some 1)] (by kernel_rfl) (fun af wf hbw hf Kf hKf => ?_)
        obtain ⟨g13, g14, _⟩ := hf
        have h13 : af.tmps[13]?.getD undef = .slice A s c := g13
        have h14 : af.tmps[14]?.getD undef = .int .i64 m := g14
        clear g13 g14
        go_simp
        refine (hp.out _ (Rd.below (Rd.drew hR) hbw)).mono ?_
        rintro e wN ⟨r, rfl, hF, hb1⟩
        exact hKf _ _ (hb1) (IsB.of hF hl.out)
      | 3, _ =>
        refine StepOk.plain _ 16 rfl rfl rfl [(15, some 2)] (by kernel_rfl) (fun af wf hbw hf Kf hKf => ?_)
        obtain ⟨g15, _⟩ := hf
        obtain ⟨A15, c15, h15, hR15, hn15, hm15⟩ : IsB (N) (L) (af.tmps[15]?.getD undef) wf := g15
        have hcv := conv c15 _ hR15
        go_simp
        exact hKf _ _ (Below.refl _ _) rfl
      | 4, _ =>
        refine StepOk.plain _ 17 rfl rfl rfl [(0, none)] (by kernel_rfl) (fun af wf hbw hf Kf hKf => ?_)
        obtain ⟨g0, _⟩ := hf
        have h0 : af.tmps[0]?.getD undef = .slice A s c := g0
        clear g0
        go_simp
        exact hKf _ _ (Below.refl _ _) rfl
      | 5, _ =>
        refine StepOk.plain _ 18 rfl rfl rfl [(1, none)] (by kernel_rfl) (fun af wf hbw hf Kf hKf => ?_)
        obtain ⟨g1, _⟩ := hf
        have h1 : af.tmps[1]?.getD undef = .int .i64 m := g1
        clear g1
        go_simp
        exact hKf _ _ (Below.refl _ _) rfl
      | 6, _ =>
        refine StepOk.plain _ 19 rfl rfl rfl [(17, some 4), (18, some 5)] (by kernel_rfl) (fun af wf hbw hf Kf hKf => ?_)
        obtain ⟨g17, g18, _⟩ := hf
        have h17 : af.tmps[17]?.getD undef = .slice A s c := g17
        have h18 : af.tmps[18]?.getD undef = .int .i64 m := g18
        clear g17 g18
        go_simp
        refine (hq.out _ (Rd.below (Rd.drew hR) hbw)).mono ?_
        rintro e wN ⟨r, rfl, hF, hb1⟩
        exact hKf _ _ (hb1) (IsB.of hF hl.out)
      | 7, _ =>
        refine StepOk.plain _ 20 rfl rfl rfl [(19, some 6)] (by kernel_rfl) (fun af wf hbw hf Kf hKf => ?_)
        obtain ⟨g19, _⟩ := hf
        obtain ⟨A19, c19, h19, hR19, hn19, hm19⟩ : IsB (N) (L) (af.tmps[19]?.getD undef) wf := g19
        have hcv := conv c19 _ hR19
        go_simp
        exact hKf _ _ (Below.refl _ _) rfl
      | 8, _ =>
        refine StepOk.plain _ 21 rfl rfl rfl [(16, some 3), (20, some 7)] (by kernel_rfl) (fun af wf hbw hf Kf hKf => ?_)
        obtain ⟨g16, g20, _⟩ := hf
        have h16 : af.tmps[16]?.getD undef = .string (str (L)) := g16
        have h20 : af.tmps[20]?.getD undef = .string (str (L)) := g20
        clear g16 g20
        go_simp
        exact hKf _ _ (Below.refl _ _) rfl
      | 9, _ =>
        refine StepOk.plain _ 22 rfl rfl rfl [(21, some 8)] (by kernel_rfl) (fun af wf hbw hf Kf hKf => ?_)
        obtain ⟨g21, _⟩ := hf
        have h21 : af.tmps[21]?.getD undef = .bool true := g21
        clear g21
        go_simp
        exact hKf _ _ (Below.refl _ _) rfl
      | 10, _ =>
        refine StepOk.yes _ 23 rfl rfl rfl rfl (fun _ _ h => h) [] (by kernel_rfl) (fun af wf hbw hf Kf hKf => ?_)
        go_simp
        refine (wawake_any _).mono ?_
        rintro e wN ⟨rfl, hb1⟩
        exact hKf _ _ (hb1) (rfl)
      | 11, _ =>
        refine StepOk.plain _ 24 rfl rfl rfl [(22, some 9), (23, some 10)] (by kernel_rfl) (fun af wf hbw hf Kf hKf => ?_)
        obtain ⟨g22, g23, _⟩ := hf
        have h22 : af.tmps[22]?.getD undef = .bool true := g22
        have h23 : af.tmps[23]?.getD undef = .bool true := g23
        clear g22 g23
        go_simp
        exact hKf _ _ (Below.refl _ _) rfl
      | 12, _ =>
        refine StepOk.plain _ 4 rfl rfl rfl [(24, some 11)] (by kernel_rfl) (fun af wf hbw hf Kf hKf => ?_)
        obtain ⟨g24, _⟩ := hf
        have h24 : af.tmps[24]?.getD undef = .bool true := g24
        clear g24
        go_simp
        exact hKf _ _ (Below.refl _ _) rfl
      | i + 13, h => exact absurd h (by show ¬ (i + 13 < 13); omega)
    · intro af wF hbF hdF hsF hbaseF hfactF
      obtain ⟨T, dsF⟩ := af
      obtain rfl : dsF = _ := hdF
      have e0 := hbaseF 0 (not_dst (by kernel_rfl))
      simp only [List.getElem?_toArray, List.getElem?_cons_zero, Option.getD_some] at e0
      have e1 := hbaseF 1 (not_dst (by kernel_rfl))
      simp only [List.getElem?_toArray, List.getElem?_cons_zero, List.getElem?_cons_succ, Option.getD_some] at e1
      have e2 := hbaseF 2 (not_dst (by kernel_rfl))
      simp only [List.getElem?_toArray, List.getElem?_cons_zero, List.getElem?_cons_succ, Option.getD_some] at e2
      have e3 := hbaseF 3 (not_dst (by kernel_rfl))
      simp only [List.getElem?_toArray, List.getElem?_cons_zero, List.getElem?_cons_succ, Option.getD_some] at e3
      have e5 := hbaseF 5 (not_dst (by kernel_rfl))
      simp only [List.getElem?_toArray, List.getElem?_cons_zero, List.getElem?_cons_succ, Option.getD_some] at e5
      have e6 := hbaseF 6 (not_dst (by kernel_rfl))
      simp only [List.getElem?_toArray, List.getElem?_cons_zero, List.getElem?_cons_succ, Option.getD_some] at e6
      have e7 := hbaseF 7 (not_dst (by kernel_rfl))
      simp only [List.getElem?_toArray, List.getElem?_cons_zero, List.getElem?_cons_succ, Option.getD_some] at e7
      have e8 := hbaseF 8 (not_dst (by kernel_rfl))
      simp only [List.getElem?_toArray, List.getElem?_cons_zero, List.getElem?_cons_succ, Option.getD_some] at e8
      have e9 := hbaseF 9 (not_dst (by kernel_rfl))
      simp only [List.getElem?_toArray, List.getElem?_cons_zero, List.getElem?_cons_succ, Option.getD_some] at e9
      have e10 := hbaseF 10 (not_dst (by kernel_rfl))
      simp only [List.getElem?_toArray, List.getElem?_cons_zero, List.getElem?_cons_succ, Option.getD_some] at e10
      have e11 := hbaseF 11 (not_dst (by kernel_rfl))
      simp only [List.getElem?_toArray, List.getElem?_cons_zero, List.getElem?_cons_succ, Option.getD_some] at e11
      have e12 := hbaseF 12 (not_dst (by kernel_rfl))
      simp only [List.getElem?_toArray, List.getElem?_cons_zero, List.getElem?_cons_succ, Option.getD_some] at e12
      have e4 := hfactF 12 4 (by decide) rfl
      replace e4 : T[4]?.getD undef = .bool true := e4
      clear hbaseF hfactF
      have hT : T = #[T[0]?.getD undef, T[1]?.getD undef, T[2]?.getD undef, T[3]?.getD undef, T[4]?.getD undef, T[5]?.getD undef, T[6]?.getD undef, T[7]?.getD undef, T[8]?.getD undef, T[9]?.getD undef, T[10]?.getD undef, T[11]?.getD undef, T[12]?.getD undef, T[13]?.getD undef, T[14]?.getD undef, T[15]?.getD undef, T[16]?.getD undef, T[17]?.getD undef, T[18]?.getD undef, T[19]?.getD undef, T[20]?.getD undef, T[21]?.getD undef, T[22]?.getD undef, T[23]?.getD undef, T[24]?.getD undef] := arr_eq T 25 hsF
      clear hsF
      rw [e0] at hT; clear e0
      rw [e1] at hT; clear e1
      rw [e2] at hT; clear e2
      rw [e3] at hT; clear e3
      rw [e4] at hT; clear e4
      rw [e5] at hT; clear e5
      rw [e6] at hT; clear e6
      rw [e7] at hT; clear e7
      rw [e8] at hT; clear e8
      rw [e9] at hT; clear e9
      rw [e10] at hT; clear e10
      rw [e11] at hT; clear e11
      rw [e12] at hT; clear e12
      generalize T[13]?.getD undef = u13 at hT
      generalize T[14]?.getD undef = u14 at hT
      generalize T[15]?.getD undef = u15 at hT
      generalize T[16]?.getD undef = u16 at hT
      generalize T[17]?.getD undef = u17 at hT
      generalize T[18]?.getD undef = u18 at hT
      generalize T[19]?.getD undef = u19 at hT
      generalize T[20]?.getD undef = u20 at hT
      generalize T[21]?.getD undef = u21 at hT
      generalize T[22]?.getD undef = u22 at hT
      generalize T[23]?.getD undef = u23 at hT
      generalize T[24]?.getD undef = u24 at hT
      subst hT
      go_wp2_with fail
      go_ret
      exact ⟨rfl, (by (have q_hbF := Below.size hbF; (try simp at q_hbF); repeat (first | exact Below.refl _ _ | (refine Below.trans ?_ (Below.mono hbF (by first | omega | (simp; omega) | simp))) | (refine Below.setCell ?_ (by first | omega | (simp; omega) | simp) _) | (refine Below.alloc ?_ (by first | omega | (simp; omega) | simp) _) | apply Below.drew | apply below_drewN)))⟩

theorem law_pad (A : Option Addr) (n c : Nat) (l : List UInt8) (m : Int) (w : World) (hr : Rd w A n l) (hc : n ≤ c) (hm : c ≤ maxLen) :
    Calls Try.prog 8 #[.slice A n c, .int .i64 m] w fun e w' => e = .returned (.bool true) ∧ Below w.heap.size w w' := by
  by_cases h : 1 ≤ padN m ∧ padN m ≤ 65536
  · obtain ⟨k, hk⟩ := Int.eq_ofNat_of_zero_le (show 0 ≤ padN m by omega)
    exact law_pad_of A n c l m w hr hc hm k hk (padL k (l.take 80)) k (padL_len _ _) (by omega) (fun W hR => pad_any A _ c _ k W hR (by omega) (by omega)) (fun W hR => rpad_any A _ c _ k W hR (by omega) (by omega))
  · exact law_pad_of A n c l m w hr hc hm (padN m) rfl [] 0 rfl (by omega) (fun W _ => pad_none A _ c _ W (by omega)) (fun W _ => rpad_none A _ c _ W (by omega))

theorem zeroB_snoc (l : List UInt8) (x : UInt8) : zeroB (l ++ [x]) = (zeroB l && (x == 0)) := by simp [zeroB]

set_option maxHeartbeats 1000000 in
theorem law_same (A B : Option Addr) (n m c d : Nat) (a b : List UInt8) (w : World) (ha : Rd w A n a) (hb : Rd w B m b) (hnc : n ≤ c) (hc : c ≤ maxLen) (hmd : m ≤ d) (hd : d ≤ maxLen) :
    Calls Try.prog 11 #[.slice A n c, .slice B m d] w fun e w' => e = .returned (.bool true) ∧ Below w.heap.size w w' := by
  have hA := ha.short
  have hB := hb.short
  have hcc := hc
  have hdd := hd
  unfold maxLen at hc hd
  obtain ⟨s, hs⟩ : ∃ s, s = min n 80 := ⟨_, rfl⟩
  obtain ⟨t, ht⟩ : ∃ t, t = min m 80 := ⟨_, rfl⟩
  generalize a.take 80 = a' at *
  generalize b.take 80 = b' at *
  rw [← hs] at hA
  rw [← ht] at hB
  have hs80 : s ≤ 80 := by omega
  have hsc : s ≤ c := by omega
  have ht80 : t ≤ 80 := by omega
  have htd : t ≤ d := by omega
  have HS := Lib.hid hs
  have HT := Lib.hid ht
  clear hs ht
  have hself := Lib.hid (show sameB a' a' = true by simp [sameB])
  go_enter Try.func11, Try.ntmps11
  go_wp2_with fail
  refine (short_any _ _ _ _ hnc hcc).mono ?_
  rintro e w1 ⟨rfl, rfl⟩
  rw [← HS.out]
  go_wp2_with fail
  refine (short_any _ _ _ _ hmd hdd).mono ?_
  rintro e w1 ⟨rfl, rfl⟩
  rw [← HT.out]
  go_wp2_with fail
  go_loop [5, 14] (fun z i => ∃ k : Nat, k ≤ s ∧ i = .int .i64 k ∧ z = .bool (zeroB (a'.take k))) (fun _ i => s - (intOf i).toNat)
  case atStart => exact ⟨0, by omega, rfl, rfl⟩
  case round =>
    obtain ⟨k, hk, rfl, rfl⟩ := hrel
    by_cases hlt : k < s
    · obtain ⟨b1, o1, x, rfl, _, hx, hcx⟩ := hA.at_ hlt
      have hz := Lib.hid (show zeroB (a'.take (k + 1)) = (zeroB (a'.take k) && (x == 0)) by rw [take_step hx, zeroB_snoc])
      have hx0 : ((x.toNat : Int) == 0) = (x == 0) := by
        rw [Bool.eq_iff_iff, beq_iff_eq, beq_iff_eq]
        constructor
        · intro h; exact UInt8.toNat_inj.1 (by simpa using (by omega : x.toNat = 0))
        · rintro rfl; rfl
      clear hx
      cases hzz : zeroB (a'.take k)
      · go_wp2_with fail
        go_round
        case rel => exact ⟨k + 1, by omega, by go_num, bool_eq (by rw [hz.out, hzz]; rfl)⟩
        case measure => simp [intOf] <;> omega
      · go_wp2_with fail
        go_round
        case rel => exact ⟨k + 1, by omega, by go_num, bool_eq (by rw [hz.out, hzz, ← hx0]; simp)⟩
        case measure => simp [intOf] <;> omega
    · obtain rfl : k = s := by omega
      have hT : a'.take k = a' := List.take_of_length_le (by rw [hA.len]; omega)
      rw [hT]
      clear hT
      have hq := Lib.hid (show ((str a').toList == (str b').toList) = sameB a' b' by
        rw [Bool.eq_iff_iff]; simp [sameB, str_toL])
      obtain ⟨zb, hzb⟩ : ∃ zb, zb = zeroB a' := ⟨_, rfl⟩
      have HZ := Lib.hid hzb
      rw [← hzb]
      clear hzb
      obtain ⟨sb, hsb⟩ : ∃ sb, sb = sameB a' b' := ⟨_, rfl⟩
      have HB := Lib.hid hsb
      clear hsb
      go_wp2_with fail
      refine wp_flows [(fun y_ _ => y_ = .slice A k c), (fun y_ _ => y_ = .slice B t d), (fun y_ _ => y_ = .bool sb), (fun y_ _ => y_ = .slice A k c), (fun y_ _ => y_ = .string (str a')), (fun y_ _ => y_ = .slice B t d), (fun y_ _ => y_ = .string (str b')), (fun y_ _ => y_ = .bool sb), (fun y_ _ => y_ = .bool true), (fun y_ _ => y_ = .bool true), (fun y_ _ => y_ = .slice A k c), (fun y_ _ => y_ = .slice A k c), (fun y_ _ => y_ = .bool true), (fun y_ _ => y_ = .bool true), (fun y_ _ => y_ = .bool true), (fun y_ _ => y_ = .slice A k c), (fun y_ _ => y_ = .bool zb), (fun y_ _ => y_ = .bool zb), (fun y_ _ => y_ = .bool true), (fun y_ _ => y_ = .bool true), (fun y_ _ => y_ = .bool true), (fun y_ _ => y_ = .bool true), (fun y_ _ => y_ = .bool true), (fun y_ _ => y_ = .bool true)] (by kernel_rfl) ⟨Stab.eq _, Stab.eq _, Stab.eq _, Stab.eq _, Stab.eq _, Stab.eq _, Stab.eq _, Stab.eq _, Stab.eq _, Stab.eq _, Stab.eq _, Stab.eq _, Stab.eq _, Stab.eq _, Stab.eq _, Stab.eq _, Stab.eq _, Stab.eq _, Stab.eq _, Stab.eq _, Stab.eq _, Stab.eq _, Stab.eq _, Stab.eq _, trivial⟩ (by kernel_rfl) (by rfl) ?_ ?_
      · intro kq hkq
        match kq, hkq with
        | 0, _ =>
          refine StepOk.plain _ 24 rfl rfl rfl [(0, none)] (by kernel_rfl) (fun af wf hbw hf Kf hKf => ?_)
          obtain ⟨g0, _⟩ := hf
          have h0 : af.tmps[0]?.getD undef = .slice A k c := g0
          clear g0
          go_simp
          exact hKf _ _ (Below.refl _ _) rfl
        | 1, _ =>
          refine StepOk.plain _ 25 rfl rfl rfl [(1, none)] (by kernel_rfl) (fun af wf hbw hf Kf hKf => ?_)
          obtain ⟨g1, _⟩ := hf
          have h1 : af.tmps[1]?.getD undef = .slice B t d := g1
          clear g1
          go_simp
          exact hKf _ _ (Below.refl _ _) rfl
        | 2, _ =>
          refine StepOk.plain _ 26 rfl rfl rfl [(24, some 0), (25, some 1)] (by kernel_rfl) (fun af wf hbw hf Kf hKf => ?_)
          obtain ⟨g24, g25, _⟩ := hf
          have h24 : af.tmps[24]?.getD undef = .slice A k c := g24
          have h25 : af.tmps[25]?.getD undef = .slice B t d := g25
          clear g24 g25
          go_simp
          refine (same_any A B k t c d a' b' _ (Rd.below (Rd.drew hA) hbw) (Rd.below (Rd.drew hB) hbw) (by omega) (by omega)).mono ?_
          rintro e wN ⟨rfl, hb1⟩
          exact hKf _ _ (hb1) (bool_eq HB.out.symm)
        | 3, _ =>
          refine StepOk.plain _ 27 rfl rfl rfl [(0, none)] (by kernel_rfl) (fun af wf hbw hf Kf hKf => ?_)
          obtain ⟨g0, _⟩ := hf
          have h0 : af.tmps[0]?.getD undef = .slice A k c := g0
          clear g0
          go_simp
          exact hKf _ _ (Below.refl _ _) rfl
        | 4, _ =>
          refine StepOk.plain _ 28 rfl rfl rfl [(27, some 3)] (by kernel_rfl) (fun af wf hbw hf Kf hKf => ?_)
          obtain ⟨g27, _⟩ := hf
          have h27 : af.tmps[27]?.getD undef = .slice A k c := g27
          clear g27
          have hcv := conv c _ (Rd.below (Rd.drew (hA)) hbw)
          go_simp
          exact hKf _ _ (Below.refl _ _) rfl
        | 5, _ =>
          refine StepOk.plain _ 29 rfl rfl rfl [(1, none)] (by kernel_rfl) (fun af wf hbw hf Kf hKf => ?_)
          obtain ⟨g1, _⟩ := hf
          have h1 : af.tmps[1]?.getD undef = .slice B t d := g1
          clear g1
          go_simp
          exact hKf _ _ (Below.refl _ _) rfl
        | 6, _ =>
          refine StepOk.plain _ 30 rfl rfl rfl [(29, some 5)] (by kernel_rfl) (fun af wf hbw hf Kf hKf => ?_)
          obtain ⟨g29, _⟩ := hf
          have h29 : af.tmps[29]?.getD undef = .slice B t d := g29
          clear g29
          have hcv := conv d _ (Rd.below (Rd.drew (hB)) hbw)
          go_simp
          exact hKf _ _ (Below.refl _ _) rfl
        | 7, _ =>
          refine StepOk.plain _ 31 rfl rfl rfl [(28, some 4), (30, some 6)] (by kernel_rfl) (fun af wf hbw hf Kf hKf => ?_)
          obtain ⟨g28, g30, _⟩ := hf
          have h28 : af.tmps[28]?.getD undef = .string (str a') := g28
          have h30 : af.tmps[30]?.getD undef = .string (str b') := g30
          clear g28 g30
          have hqq : ((str a').toList == (str b').toList) = sb := hq.out.trans HB.out.symm
          go_simp
          exact hKf _ _ (Below.refl _ _) rfl
        | 8, _ =>
          refine StepOk.plain _ 32 rfl rfl rfl [(26, some 2), (31, some 7)] (by kernel_rfl) (fun af wf hbw hf Kf hKf => ?_)
          obtain ⟨g26, g31, _⟩ := hf
          have h26 : af.tmps[26]?.getD undef = .bool sb := g26
          have h31 : af.tmps[31]?.getD undef = .bool sb := g31
          clear g26 g31
          go_simp
          exact hKf _ _ (Below.refl _ _) rfl
        | 9, _ =>
          refine StepOk.plain _ 33 rfl rfl rfl [(32, some 8)] (by kernel_rfl) (fun af wf hbw hf Kf hKf => ?_)
          obtain ⟨g32, _⟩ := hf
          have h32 : af.tmps[32]?.getD undef = .bool true := g32
          clear g32
          go_simp
          exact hKf _ _ (Below.refl _ _) rfl
        | 10, _ =>
          refine StepOk.yes _ 34 rfl rfl rfl rfl (fun _ _ h => h) [(0, none)] (by kernel_rfl) (fun af wf hbw hf Kf hKf => ?_)
          obtain ⟨g0, _⟩ := hf
          have h0 : af.tmps[0]?.getD undef = .slice A k c := g0
          clear g0
          go_simp
          exact hKf _ _ (Below.refl _ _) rfl
        | 11, _ =>
          refine StepOk.yes _ 35 rfl rfl rfl rfl (fun _ _ h => h) [(0, none)] (by kernel_rfl) (fun af wf hbw hf Kf hKf => ?_)
          obtain ⟨g0, _⟩ := hf
          have h0 : af.tmps[0]?.getD undef = .slice A k c := g0
          clear g0
          go_simp
          exact hKf _ _ (Below.refl _ _) rfl
        | 12, _ =>
          refine StepOk.yes _ 36 rfl rfl rfl rfl (fun _ _ h => h) [(34, some 10), (35, some 11)] (by kernel_rfl) (fun af wf hbw hf Kf hKf => ?_)
          obtain ⟨g34, g35, _⟩ := hf
          have h34 : af.tmps[34]?.getD undef = .slice A k c := g34
          have h35 : af.tmps[35]?.getD undef = .slice A k c := g35
          clear g34 g35
          go_simp
          refine (same_any A A k k c c a' a' _ (Rd.below (Rd.drew hA) hbw) (Rd.below (Rd.drew hA) hbw) (by omega) (by omega)).mono ?_
          rintro e wN ⟨rfl, hb1⟩
          exact hKf _ _ (hb1) (bool_eq hself.out)
        | 13, _ =>
          refine StepOk.plain _ 37 rfl rfl rfl [(33, some 9), (36, some 12)] (by kernel_rfl) (fun af wf hbw hf Kf hKf => ?_)
          obtain ⟨g33, g36, _⟩ := hf
          have h33 : af.tmps[33]?.getD undef = .bool true := g33
          have h36 : af.tmps[36]?.getD undef = .bool true := g36
          clear g33 g36
          go_simp
          exact hKf _ _ (Below.refl _ _) rfl
        | 14, _ =>
          refine StepOk.plain _ 38 rfl rfl rfl [(37, some 13)] (by kernel_rfl) (fun af wf hbw hf Kf hKf => ?_)
          obtain ⟨g37, _⟩ := hf
          have h37 : af.tmps[37]?.getD undef = .bool true := g37
          clear g37
          go_simp
          exact hKf _ _ (Below.refl _ _) rfl
        | 15, _ =>
          refine StepOk.yes _ 39 rfl rfl rfl rfl (fun _ _ h => h) [(0, none)] (by kernel_rfl) (fun af wf hbw hf Kf hKf => ?_)
          obtain ⟨g0, _⟩ := hf
          have h0 : af.tmps[0]?.getD undef = .slice A k c := g0
          clear g0
          go_simp
          exact hKf _ _ (Below.refl _ _) rfl
        | 16, _ =>
          refine StepOk.yes _ 40 rfl rfl rfl rfl (fun _ _ h => h) [(39, some 15)] (by kernel_rfl) (fun af wf hbw hf Kf hKf => ?_)
          obtain ⟨g39, _⟩ := hf
          have h39 : af.tmps[39]?.getD undef = .slice A k c := g39
          clear g39
          go_simp
          refine (zero_any A k c a' _ (Rd.below (Rd.drew hA) hbw) (by unfold maxLen; omega)).mono ?_
          rintro e wN ⟨rfl, rfl⟩
          exact hKf _ _ (Below.refl _ _) (bool_eq HZ.out.symm)
        | 17, _ =>
          refine StepOk.yes _ 41 rfl rfl rfl rfl (fun _ _ h => h) [(5, none)] (by kernel_rfl) (fun af wf hbw hf Kf hKf => ?_)
          obtain ⟨g5, _⟩ := hf
          have h5 : af.tmps[5]?.getD undef = .bool zb := g5
          clear g5
          go_simp
          exact hKf _ _ (Below.refl _ _) rfl
        | 18, _ =>
          refine StepOk.yes _ 42 rfl rfl rfl rfl (fun _ _ h => h) [(40, some 16), (41, some 17)] (by kernel_rfl) (fun af wf hbw hf Kf hKf => ?_)
          obtain ⟨g40, g41, _⟩ := hf
          have h40 : af.tmps[40]?.getD undef = .bool zb := g40
          have h41 : af.tmps[41]?.getD undef = .bool zb := g41
          clear g40 g41
          go_simp
          exact hKf _ _ (Below.refl _ _) rfl
        | 19, _ =>
          refine StepOk.plain _ 43 rfl rfl rfl [(38, some 14), (42, some 18)] (by kernel_rfl) (fun af wf hbw hf Kf hKf => ?_)
          obtain ⟨g38, g42, _⟩ := hf
          have h38 : af.tmps[38]?.getD undef = .bool true := g38
          have h42 : af.tmps[42]?.getD undef = .bool true := g42
          clear g38 g42
          go_simp
          exact hKf _ _ (Below.refl _ _) rfl
        | 20, _ =>
          refine StepOk.plain _ 44 rfl rfl rfl [(43, some 19)] (by kernel_rfl) (fun af wf hbw hf Kf hKf => ?_)
          obtain ⟨g43, _⟩ := hf
          have h43 : af.tmps[43]?.getD undef = .bool true := g43
          clear g43
          go_simp
          exact hKf _ _ (Below.refl _ _) rfl
        | 21, _ =>
          refine StepOk.yes _ 45 rfl rfl rfl rfl (fun _ _ h => h) [] (by kernel_rfl) (fun af wf hbw hf Kf hKf => ?_)
          go_simp
          refine (wawake_any _).mono ?_
          rintro e wN ⟨rfl, hb1⟩
          exact hKf _ _ (hb1) (rfl)
        | 22, _ =>
          refine StepOk.plain _ 46 rfl rfl rfl [(44, some 20), (45, some 21)] (by kernel_rfl) (fun af wf hbw hf Kf hKf => ?_)
          obtain ⟨g44, g45, _⟩ := hf
          have h44 : af.tmps[44]?.getD undef = .bool true := g44
          have h45 : af.tmps[45]?.getD undef = .bool true := g45
          clear g44 g45
          go_simp
          exact hKf _ _ (Below.refl _ _) rfl
        | 23, _ =>
          refine StepOk.plain _ 4 rfl rfl rfl [(46, some 22)] (by kernel_rfl) (fun af wf hbw hf Kf hKf => ?_)
          obtain ⟨g46, _⟩ := hf
          have h46 : af.tmps[46]?.getD undef = .bool true := g46
          clear g46
          go_simp
          exact hKf _ _ (Below.refl _ _) rfl
        | i + 24, h => exact absurd h (by show ¬ (i + 24 < 24); omega)
      · intro af wF hbF hdF hsF hbaseF hfactF
        obtain ⟨T, dsF⟩ := af
        obtain rfl : dsF = _ := hdF
        have e0 := hbaseF 0 (not_dst (by kernel_rfl))
        simp only [List.getElem?_toArray, List.getElem?_cons_zero, Option.getD_some] at e0
        have e1 := hbaseF 1 (not_dst (by kernel_rfl))
        simp only [List.getElem?_toArray, List.getElem?_cons_zero, List.getElem?_cons_succ, Option.getD_some] at e1
        have e2 := hbaseF 2 (not_dst (by kernel_rfl))
        simp only [List.getElem?_toArray, List.getElem?_cons_zero, List.getElem?_cons_succ, Option.getD_some] at e2
        have e3 := hbaseF 3 (not_dst (by kernel_rfl))
        simp only [List.getElem?_toArray, List.getElem?_cons_zero, List.getElem?_cons_succ, Option.getD_some] at e3
        have e5 := hbaseF 5 (not_dst (by kernel_rfl))
        simp only [List.getElem?_toArray, List.getElem?_cons_zero, List.getElem?_cons_succ, Option.getD_some] at e5
        have e6 := hbaseF 6 (not_dst (by kernel_rfl))
        simp only [List.getElem?_toArray, List.getElem?_cons_zero, List.getElem?_cons_succ, Option.getD_some] at e6
        have e7 := hbaseF 7 (not_dst (by kernel_rfl))
        simp only [List.getElem?_toArray, List.getElem?_cons_zero, List.getElem?_cons_succ, Option.getD_some] at e7
        have e8 := hbaseF 8 (not_dst (by kernel_rfl))
        simp only [List.getElem?_toArray, List.getElem?_cons_zero, List.getElem?_cons_succ, Option.getD_some] at e8
        have e9 := hbaseF 9 (not_dst (by kernel_rfl))
        simp only [List.getElem?_toArray, List.getElem?_cons_zero, List.getElem?_cons_succ, Option.getD_some] at e9
        have e10 := hbaseF 10 (not_dst (by kernel_rfl))
        simp only [List.getElem?_toArray, List.getElem?_cons_zero, List.getElem?_cons_succ, Option.getD_some] at e10
        have e11 := hbaseF 11 (not_dst (by kernel_rfl))
        simp only [List.getElem?_toArray, List.getElem?_cons_zero, List.getElem?_cons_succ, Option.getD_some] at e11
        have e12 := hbaseF 12 (not_dst (by kernel_rfl))
        simp only [List.getElem?_toArray, List.getElem?_cons_zero, List.getElem?_cons_succ, Option.getD_some] at e12
        have e13 := hbaseF 13 (not_dst (by kernel_rfl))
        simp only [List.getElem?_toArray, List.getElem?_cons_zero, List.getElem?_cons_succ, Option.getD_some] at e13
        have e14 := hbaseF 14 (not_dst (by kernel_rfl))
        simp only [List.getElem?_toArray, List.getElem?_cons_zero, List.getElem?_cons_succ, Option.getD_some] at e14
        have e15 := hbaseF 15 (not_dst (by kernel_rfl))
        simp only [List.getElem?_toArray, List.getElem?_cons_zero, List.getElem?_cons_succ, Option.getD_some] at e15
        have e16 := hbaseF 16 (not_dst (by kernel_rfl))
        simp only [List.getElem?_toArray, List.getElem?_cons_zero, List.getElem?_cons_succ, Option.getD_some] at e16
        have e17 := hbaseF 17 (not_dst (by kernel_rfl))
        simp only [List.getElem?_toArray, List.getElem?_cons_zero, List.getElem?_cons_succ, Option.getD_some] at e17
        have e18 := hbaseF 18 (not_dst (by kernel_rfl))
        simp only [List.getElem?_toArray, List.getElem?_cons_zero, List.getElem?_cons_succ, Option.getD_some] at e18
        have e19 := hbaseF 19 (not_dst (by kernel_rfl))
        simp only [List.getElem?_toArray, List.getElem?_cons_zero, List.getElem?_cons_succ, Option.getD_some] at e19
        have e20 := hbaseF 20 (not_dst (by kernel_rfl))
        simp only [List.getElem?_toArray, List.getElem?_cons_zero, List.getElem?_cons_succ, Option.getD_some] at e20
        have e21 := hbaseF 21 (not_dst (by kernel_rfl))
        simp only [List.getElem?_toArray, List.getElem?_cons_zero, List.getElem?_cons_succ, Option.getD_some] at e21
        have e22 := hbaseF 22 (not_dst (by kernel_rfl))
        simp only [List.getElem?_toArray, List.getElem?_cons_zero, List.getElem?_cons_succ, Option.getD_some] at e22
        have e23 := hbaseF 23 (not_dst (by kernel_rfl))
        simp only [List.getElem?_toArray, List.getElem?_cons_zero, List.getElem?_cons_succ, Option.getD_some] at e23
        have e4 := hfactF 23 4 (by decide) rfl
        replace e4 : T[4]?.getD undef = .bool true := e4
        clear hbaseF hfactF
        have hT : T = #[T[0]?.getD undef, T[1]?.getD undef, T[2]?.getD undef, T[3]?.getD undef, T[4]?.getD undef, T[5]?.getD undef, T[6]?.getD undef, T[7]?.getD undef, T[8]?.getD undef, T[9]?.getD undef, T[10]?.getD undef, T[11]?.getD undef, T[12]?.getD undef, T[13]?.getD undef, T[14]?.getD undef, T[15]?.getD undef, T[16]?.getD undef, T[17]?.getD undef, T[18]?.getD undef, T[19]?.getD undef, T[20]?.getD undef, T[21]?.getD undef, T[22]?.getD undef, T[23]?.getD undef, T[24]?.getD undef, T[25]?.getD undef, T[26]?.getD undef, T[27]?.getD undef, T[28]?.getD undef, T[29]?.getD undef, T[30]?.getD undef, T[31]?.getD undef, T[32]?.getD undef, T[33]?.getD undef, T[34]?.getD undef, T[35]?.getD undef, T[36]?.getD undef, T[37]?.getD undef, T[38]?.getD undef, T[39]?.getD undef, T[40]?.getD undef, T[41]?.getD undef, T[42]?.getD undef, T[43]?.getD undef, T[44]?.getD undef, T[45]?.getD undef, T[46]?.getD undef] := arr_eq T 47 hsF
        clear hsF
        rw [e0] at hT; clear e0
        rw [e1] at hT; clear e1
        rw [e2] at hT; clear e2
        rw [e3] at hT; clear e3
        rw [e4] at hT; clear e4
        rw [e5] at hT; clear e5
        rw [e6] at hT; clear e6
        rw [e7] at hT; clear e7
        rw [e8] at hT; clear e8
        rw [e9] at hT; clear e9
        rw [e10] at hT; clear e10
        rw [e11] at hT; clear e11
        rw [e12] at hT; clear e12
        rw [e13] at hT; clear e13
        rw [e14] at hT; clear e14
        rw [e15] at hT; clear e15
        rw [e16] at hT; clear e16
        rw [e17] at hT; clear e17
        rw [e18] at hT; clear e18
        rw [e19] at hT; clear e19
        rw [e20] at hT; clear e20
        rw [e21] at hT; clear e21
        rw [e22] at hT; clear e22
        rw [e23] at hT; clear e23
        generalize T[24]?.getD undef = u24 at hT
        generalize T[25]?.getD undef = u25 at hT
        generalize T[26]?.getD undef = u26 at hT
        generalize T[27]?.getD undef = u27 at hT
        generalize T[28]?.getD undef = u28 at hT
        generalize T[29]?.getD undef = u29 at hT
        generalize T[30]?.getD undef = u30 at hT
        generalize T[31]?.getD undef = u31 at hT
        generalize T[32]?.getD undef = u32 at hT
        generalize T[33]?.getD undef = u33 at hT
        generalize T[34]?.getD undef = u34 at hT
        generalize T[35]?.getD undef = u35 at hT
        generalize T[36]?.getD undef = u36 at hT
        generalize T[37]?.getD undef = u37 at hT
        generalize T[38]?.getD undef = u38 at hT
        generalize T[39]?.getD undef = u39 at hT
        generalize T[40]?.getD undef = u40 at hT
        generalize T[41]?.getD undef = u41 at hT
        generalize T[42]?.getD undef = u42 at hT
        generalize T[43]?.getD undef = u43 at hT
        generalize T[44]?.getD undef = u44 at hT
        generalize T[45]?.getD undef = u45 at hT
        generalize T[46]?.getD undef = u46 at hT
        subst hT
        go_wp2_with fail
        go_ret
        exact ⟨rfl, (by (have q_hbF := Below.size hbF; (try simp at q_hbF); repeat (first | exact Below.refl _ _ | (refine Below.trans ?_ (Below.mono hbF (by first | omega | (simp; omega) | simp))) | (refine Below.setCell ?_ (by first | omega | (simp; omega) | simp) _) | (refine Below.alloc ?_ (by first | omega | (simp; omega) | simp) _) | apply Below.drew | apply below_drewN)))⟩
end Go.Proofs.Ytdnjlhcmihmgdaa
