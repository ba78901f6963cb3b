/- The walk of the statement LogfWrites. -/
import Derived.Test.YthepgnankelmeaaLog18
namespace Go.Proofs.Ythepgnankelmeaa
open Go.RowKit

set_option maxRecDepth 100000 in
set_option maxHeartbeats 16000000 in
theorem law_logfwrites (p t x : Int) (A0 : Option Addr) (n0 c0 : Nat) (es : List Ent) (full : Bool) (cc : UInt8) (w : World) (ha : RdR entK w.heap.size 5 w A0 n0 es) (hx0 : 0 ≤ x) (hx1 : x ≤ 18446744073709551615) :
    Calls Try.prog 12 #[.agg #[.int .i64 p, .int .i64 t], .agg #[.int .u64 x, .slice A0 n0 c0], .bool full, .int .u8 (cc.toNat : Int)] w fun e w' => e = .returned (.bool true) ∧ Below w.heap.size w w' := by
  obtain ⟨wg, hwg⟩ : ∃ wg, wg = (w.alloc (.cells #[.int .i64 p, .int .i64 t] 23)).alloc (.cells #[.int .u64 x, .slice A0 n0 c0] 49) := ⟨_, rfl⟩
  have G0 : Blk wg w.heap.size 23 #[.int .i64 p, .int .i64 t] := by rw [hwg]; exact (Blk.new _ _ _).alloc _
  have P0 : Blk wg (w.heap.size + 1) 49 #[.int .u64 x, .slice A0 n0 c0] := by
    rw [hwg]
    simpa using Blk.new (w.alloc (.cells #[.int .i64 p, .int .i64 t] 23)) 49 #[.int .u64 x, .slice A0 n0 c0]
  have bg : Below w.heap.size w wg := by rw [hwg]; exact (by (repeat (first | exact Below.refl _ _ | (refine Below.setCell ?_ (by first | omega | (simp; omega) | simp) _) | (refine Below.alloc ?_ (by first | omega | (simp; omega) | simp) _) | apply Below.drew | apply below_drewN)))
  have hgz : wg.heap.size = w.heap.size + 1 + 1 := by rw [hwg]; simp
  have HGZ := Lib.hid hgz
  obtain ⟨a, haa⟩ : ∃ a, a = cutL full es := ⟨_, rfl⟩
  have HA := Lib.hid haa
  obtain ⟨m, hma⟩ : ∃ m, a.length = m := ⟨_, rfl⟩
  have hm30 : m ≤ 30 := by rw [← hma, haa, cutL_len]; omega
  have HLa := Lib.hid (show ∀ e ∈ a, e.2.length ≤ 1000000 by intro e he; rw [haa] at he; have := cutL_le e he; omega)
  have cP := P0.cell
  clear haa hgz
  go_enter Try.func12, Try.ntmps12
  go_wp2_with fail
  rw [← hwg]
  refine (lcut_any x A0 n0 c0 w.heap.size es full _ (ha.below bg) (by have := HGZ.out; omega)).mono ?_
  rintro e w1 ⟨v1, rfl, hO1, hb1⟩
  rw [← HA.out] at hO1
  obtain ⟨A1, c1, rfl, _, hn1, hm1⟩ := hO1.rd m hma
  have G1 := G0.on hb1
  have P1 := P0.on hb1
  have b1 : Below w.heap.size w w1 := bg.trans (hb1.mono bg.size)
  have cP1 := P1.cell
  have fP1 := P1.frozen
  have zP1 := P1.lt
  clear hwg cP hb1
  go_wp2_with fail
  obtain ⟨wC, hwC⟩ : ∃ wC, wC = (w1.setCell ⟨w.heap.size + 1, 0, none⟩ (.int .u64 x)).setCell ⟨w.heap.size + 1, 1, none⟩ (.slice A1 m c1) := ⟨_, rfl⟩
  have BG : Blk wC w.heap.size 23 #[.int .i64 p, .int .i64 t] := by rw [hwC]; exact (G1.far (by simp) _).far (by simp) _
  have BX : Blk wC (w.heap.size + 1) 49 #[.int .u64 x, .slice A1 m c1] := by rw [hwC]; simpa using (P1.set_ 0 (.int .u64 x)).set_ 1 (.slice A1 m c1)
  have RX : RdR entK w.heap.size 5 wC A1 m a := by
    have h_ := (hO1.set_ P1 (by decide) (by omega) (by have := HGZ.out; omega) 0 (.int .u64 x)).set_ (P1.set_ 0 (.int .u64 x)) (by decide) (by omega) (by have := HGZ.out; omega) 1 (.slice A1 m c1)
    rw [← hwC] at h_
    obtain ⟨A9, c9, e9, R9, _⟩ := h_.rd m hma
    injection e9 with e9
    subst e9
    exact R9
  have bC : Below w.heap.size w wC := by rw [hwC]; exact (by (have q_b1 := Below.size b1; (try simp at q_b1); repeat (first | exact Below.refl _ _ | (refine Below.trans ?_ (Below.mono b1 (by first | omega | (simp; omega) | simp))) | (refine Below.setCell ?_ (by first | omega | (simp; omega) | simp) _) | (refine Below.alloc ?_ (by first | omega | (simp; omega) | simp) _) | apply Below.drew | apply below_drewN)))
  have hnX0 := encR_len p t x a
  rw [← hwC]
  have hsz : w.heap.size ≤ wC.heap.size := bC.size
  clear hO1 G1 P1 b1 cP1 fP1 zP1 hwC G0 P0 bg
  refine wp_flows [(fun y_ _ => y_ = .agg #[.int .i64 p, .int .i64 t]), (fun y_ _ => y_ = .agg #[.int .u64 x, .slice A1 m c1]), IsLg 5 x m a, IsEn (encR p t x a).length (encR p t x a) (encX p t a), IsEn (encR p t x a).length (encR p t x a) (encX p t a), IsSS (encR p t x a).length (encR p t x a), (fun y_ _ => y_ = .int .i64 (encX p t a)), IsSS (encR p t x a).length (encR p t x a), (fun y_ _ => y_ = .int .i64 (encX p t a))] (by kernel_rfl) ⟨Stab.eq _, Stab.eq _, IsLg.stab _ _ _ _, IsEn.stab _ _ _, IsEn.stab _ _ _, Stab.ss _ _, Stab.eq _, Stab.ss _ _, Stab.eq _, trivial⟩ (by kernel_rfl) (by rfl) ?_ ?_
  · intro kq hkq
    match kq, hkq with
    | 0, _ =>
      refine StepOk.plain _ 19 rfl rfl rfl [(4, none)] (by kernel_rfl) (fun af wf hbw hf Kf hKf => ?_)
      obtain ⟨g4, _⟩ := hf
      have h4 : af.tmps[4]?.getD undef = .pointer (some ⟨w.heap.size, 0, none⟩) := g4
      clear g4
      have cB0 := (Blk.on (Blk.drew (BG)) hbw).cell
      have cB1 := (Blk.on (Blk.drew (BX)) hbw).cell
      go_simp
      exact hKf _ _ (Below.refl _ _) rfl
    | 1, _ =>
      refine StepOk.plain _ 20 rfl rfl rfl [(5, none)] (by kernel_rfl) (fun af wf hbw hf Kf hKf => ?_)
      obtain ⟨g5, _⟩ := hf
      have h5 : af.tmps[5]?.getD undef = .pointer (some ⟨w.heap.size + 1, 0, none⟩) := g5
      clear g5
      have cB0 := (Blk.on (Blk.drew (BG)) hbw).cell
      have cB1 := (Blk.on (Blk.drew (BX)) hbw).cell
      go_simp
      exact hKf _ _ (Below.refl _ _) rfl
    | 2, _ =>
      refine StepOk.plain _ 21 rfl rfl rfl [(20, some 1)] (by kernel_rfl) (fun af wf hbw hf Kf hKf => ?_)
      obtain ⟨g20, _⟩ := hf
      have h20 : af.tmps[20]?.getD undef = .agg #[.int .u64 x, .slice A1 m c1] := g20
      clear g20
      go_simp
      refine (lours_any x A1 m c1 w.heap.size a _ (RdR.below RX.drew hbw) (Nat.le_trans hsz hbw.size) (by omega) HLa.out).mono ?_
      rintro e wN ⟨v, rfl, hO, hb⟩
      exact hKf _ _ (hb) (IsLg.of hO hma)
    | 3, _ =>
      refine StepOk.plain _ 22 rfl rfl rfl [(19, some 0), (21, some 2)] (by kernel_rfl) (fun af wf hbw hf Kf hKf => ?_)
      obtain ⟨g19, g21, _⟩ := hf
      have h19 : af.tmps[19]?.getD undef = .agg #[.int .i64 p, .int .i64 t] := g19
      have g21 : IsLg 5 x m a (af.tmps[21]?.getD undef) wf := g21
      obtain ⟨A21, c21, B21, h21, hR21, hn21, hm21⟩ := g21
      clear g19
      go_simp
      refine (lenc_any p t x _ m _ _ _ a _ hR21 (by omega) hx0 hx1).mono ?_
      rintro e wN ⟨v, rfl, hO, hb⟩
      exact hKf _ _ (hb) (IsEn.of hO rfl)
    | 4, _ =>
      refine StepOk.plain _ 18 rfl rfl rfl [(22, some 3)] (by kernel_rfl) (fun af wf hbw hf Kf hKf => ?_)
      obtain ⟨g22, _⟩ := hf
      have g22 : IsEn (encR p t x a).length (encR p t x a) (encX p t a) (af.tmps[22]?.getD undef) wf := g22
      obtain ⟨A22, c22, h22, hS22, hn22, hm22⟩ := g22
      go_simp
      exact hKf _ _ (Below.refl _ _) (⟨A22, c22, rfl, hS22, hn22, hm22⟩)
    | 5, _ =>
      refine StepOk.plain _ 23 rfl rfl rfl [(18, some 4)] (by kernel_rfl) (fun af wf hbw hf Kf hKf => ?_)
      obtain ⟨g18, _⟩ := hf
      have g18 : IsEn (encR p t x a).length (encR p t x a) (encX p t a) (af.tmps[18]?.getD undef) wf := g18
      obtain ⟨A18, c18, h18, hS18, hn18, hm18⟩ := g18
      go_simp
      exact hKf _ _ (Below.refl _ _) (⟨A18, c18, rfl, hS18, hn18, hm18⟩)
    | 6, _ =>
      refine StepOk.plain _ 24 rfl rfl rfl [(18, some 4)] (by kernel_rfl) (fun af wf hbw hf Kf hKf => ?_)
      obtain ⟨g18, _⟩ := hf
      have g18 : IsEn (encR p t x a).length (encR p t x a) (encX p t a) (af.tmps[18]?.getD undef) wf := g18
      obtain ⟨A18, c18, h18, hS18, hn18, hm18⟩ := g18
      go_simp
      exact hKf _ _ (Below.refl _ _) rfl
    | 7, _ =>
      refine StepOk.plain _ 9 rfl rfl rfl [(23, some 5)] (by kernel_rfl) (fun af wf hbw hf Kf hKf => ?_)
      obtain ⟨g23, _⟩ := hf
      have g23 : IsSS (encR p t x a).length (encR p t x a) (af.tmps[23]?.getD undef) wf := g23
      obtain ⟨A23, c23, h23, hS23, hn23, hm23⟩ := g23
      go_simp
      exact hKf _ _ (Below.refl _ _) (⟨A23, c23, rfl, hS23, hn23, hm23⟩)
    | 8, _ =>
      refine StepOk.plain _ 10 rfl rfl rfl [(24, some 6)] (by kernel_rfl) (fun af wf hbw hf Kf hKf => ?_)
      obtain ⟨g24, _⟩ := hf
      have h24 : af.tmps[24]?.getD undef = .int .i64 (encX p t a) := g24
      clear g24
      go_simp
      exact hKf _ _ (Below.refl _ _) rfl
    | i + 9, h => exact absurd h (by show ¬ (i + 9 < 9); omega)
  · intro af wF hbF hdF hsF hbaseF hfactF
    obtain ⟨T, dsF⟩ := af
    obtain rfl : dsF = _ := hdF
    have e0 := hbaseF 0 (not_dst (by kernel_rfl))
    simp only [List.getElem?_toArray, List.getElem?_cons_zero, Option.getD_some] at e0
    have e1 := hbaseF 1 (not_dst (by kernel_rfl))
    simp only [List.getElem?_toArray, List.getElem?_cons_zero, List.getElem?_cons_succ, Option.getD_some] at e1
    have e2 := hbaseF 2 (not_dst (by kernel_rfl))
    simp only [List.getElem?_toArray, List.getElem?_cons_zero, List.getElem?_cons_succ, Option.getD_some] at e2
    have e3 := hbaseF 3 (not_dst (by kernel_rfl))
    simp only [List.getElem?_toArray, List.getElem?_cons_zero, List.getElem?_cons_succ, Option.getD_some] at e3
    have e4 := hbaseF 4 (not_dst (by kernel_rfl))
    simp only [List.getElem?_toArray, List.getElem?_cons_zero, List.getElem?_cons_succ, Option.getD_some] at e4
    have e5 := hbaseF 5 (not_dst (by kernel_rfl))
    simp only [List.getElem?_toArray, List.getElem?_cons_zero, List.getElem?_cons_succ, Option.getD_some] at e5
    have e6 := hbaseF 6 (not_dst (by kernel_rfl))
    simp only [List.getElem?_toArray, List.getElem?_cons_zero, List.getElem?_cons_succ, Option.getD_some] at e6
    have e7 := hbaseF 7 (not_dst (by kernel_rfl))
    simp only [List.getElem?_toArray, List.getElem?_cons_zero, List.getElem?_cons_succ, Option.getD_some] at e7
    have e8 := hbaseF 8 (not_dst (by kernel_rfl))
    simp only [List.getElem?_toArray, List.getElem?_cons_zero, List.getElem?_cons_succ, Option.getD_some] at e8
    have e11 := hbaseF 11 (not_dst (by kernel_rfl))
    simp only [List.getElem?_toArray, List.getElem?_cons_zero, List.getElem?_cons_succ, Option.getD_some] at e11
    have e12 := hbaseF 12 (not_dst (by kernel_rfl))
    simp only [List.getElem?_toArray, List.getElem?_cons_zero, List.getElem?_cons_succ, Option.getD_some] at e12
    have e13 := hbaseF 13 (not_dst (by kernel_rfl))
    simp only [List.getElem?_toArray, List.getElem?_cons_zero, List.getElem?_cons_succ, Option.getD_some] at e13
    have e14 := hbaseF 14 (not_dst (by kernel_rfl))
    simp only [List.getElem?_toArray, List.getElem?_cons_zero, List.getElem?_cons_succ, Option.getD_some] at e14
    have e15 := hbaseF 15 (not_dst (by kernel_rfl))
    simp only [List.getElem?_toArray, List.getElem?_cons_zero, List.getElem?_cons_succ, Option.getD_some] at e15
    have e16 := hbaseF 16 (not_dst (by kernel_rfl))
    simp only [List.getElem?_toArray, List.getElem?_cons_zero, List.getElem?_cons_succ, Option.getD_some] at e16
    have e17 := hbaseF 17 (not_dst (by kernel_rfl))
    simp only [List.getElem?_toArray, List.getElem?_cons_zero, List.getElem?_cons_succ, Option.getD_some] at e17
    have e25 := hbaseF 25 (not_dst (by kernel_rfl))
    simp only [List.getElem?_toArray, List.getElem?_cons_zero, List.getElem?_cons_succ, Option.getD_some] at e25
    have e26 := hbaseF 26 (not_dst (by kernel_rfl))
    simp only [List.getElem?_toArray, List.getElem?_cons_zero, List.getElem?_cons_succ, Option.getD_some] at e26
    have e27 := hbaseF 27 (not_dst (by kernel_rfl))
    simp only [List.getElem?_toArray, List.getElem?_cons_zero, List.getElem?_cons_succ, Option.getD_some] at e27
    have e28 := hbaseF 28 (not_dst (by kernel_rfl))
    simp only [List.getElem?_toArray, List.getElem?_cons_zero, List.getElem?_cons_succ, Option.getD_some] at e28
    have e29 := hbaseF 29 (not_dst (by kernel_rfl))
    simp only [List.getElem?_toArray, List.getElem?_cons_zero, List.getElem?_cons_succ, Option.getD_some] at e29
    have e30 := hbaseF 30 (not_dst (by kernel_rfl))
    simp only [List.getElem?_toArray, List.getElem?_cons_zero, List.getElem?_cons_succ, Option.getD_some] at e30
    have e31 := hbaseF 31 (not_dst (by kernel_rfl))
    simp only [List.getElem?_toArray, List.getElem?_cons_zero, List.getElem?_cons_succ, Option.getD_some] at e31
    have e32 := hbaseF 32 (not_dst (by kernel_rfl))
    simp only [List.getElem?_toArray, List.getElem?_cons_zero, List.getElem?_cons_succ, Option.getD_some] at e32
    have e33 := hbaseF 33 (not_dst (by kernel_rfl))
    simp only [List.getElem?_toArray, List.getElem?_cons_zero, List.getElem?_cons_succ, Option.getD_some] at e33
    have e34 := hbaseF 34 (not_dst (by kernel_rfl))
    simp only [List.getElem?_toArray, List.getElem?_cons_zero, List.getElem?_cons_succ, Option.getD_some] at e34
    have e35 := hbaseF 35 (not_dst (by kernel_rfl))
    simp only [List.getElem?_toArray, List.getElem?_cons_zero, List.getElem?_cons_succ, Option.getD_some] at e35
    have e36 := hbaseF 36 (not_dst (by kernel_rfl))
    simp only [List.getElem?_toArray, List.getElem?_cons_zero, List.getElem?_cons_succ, Option.getD_some] at e36
    have e37 := hbaseF 37 (not_dst (by kernel_rfl))
    simp only [List.getElem?_toArray, List.getElem?_cons_zero, List.getElem?_cons_succ, Option.getD_some] at e37
    have e38 := hbaseF 38 (not_dst (by kernel_rfl))
    simp only [List.getElem?_toArray, List.getElem?_cons_zero, List.getElem?_cons_succ, Option.getD_some] at e38
    have e39 := hbaseF 39 (not_dst (by kernel_rfl))
    simp only [List.getElem?_toArray, List.getElem?_cons_zero, List.getElem?_cons_succ, Option.getD_some] at e39
    have e40 := hbaseF 40 (not_dst (by kernel_rfl))
    simp only [List.getElem?_toArray, List.getElem?_cons_zero, List.getElem?_cons_succ, Option.getD_some] at e40
    have e41 := hbaseF 41 (not_dst (by kernel_rfl))
    simp only [List.getElem?_toArray, List.getElem?_cons_zero, List.getElem?_cons_succ, Option.getD_some] at e41
    have e42 := hbaseF 42 (not_dst (by kernel_rfl))
    simp only [List.getElem?_toArray, List.getElem?_cons_zero, List.getElem?_cons_succ, Option.getD_some] at e42
    have e43 := hbaseF 43 (not_dst (by kernel_rfl))
    simp only [List.getElem?_toArray, List.getElem?_cons_zero, List.getElem?_cons_succ, Option.getD_some] at e43
    have e44 := hbaseF 44 (not_dst (by kernel_rfl))
    simp only [List.getElem?_toArray, List.getElem?_cons_zero, List.getElem?_cons_succ, Option.getD_some] at e44
    have e45 := hbaseF 45 (not_dst (by kernel_rfl))
    simp only [List.getElem?_toArray, List.getElem?_cons_zero, List.getElem?_cons_succ, Option.getD_some] at e45
    have e46 := hbaseF 46 (not_dst (by kernel_rfl))
    simp only [List.getElem?_toArray, List.getElem?_cons_zero, List.getElem?_cons_succ, Option.getD_some] at e46
    have e47 := hbaseF 47 (not_dst (by kernel_rfl))
    simp only [List.getElem?_toArray, List.getElem?_cons_zero, List.getElem?_cons_succ, Option.getD_some] at e47
    have e48 := hbaseF 48 (not_dst (by kernel_rfl))
    simp only [List.getElem?_toArray, List.getElem?_cons_zero, List.getElem?_cons_succ, Option.getD_some] at e48
    have e49 := hbaseF 49 (not_dst (by kernel_rfl))
    simp only [List.getElem?_toArray, List.getElem?_cons_zero, List.getElem?_cons_succ, Option.getD_some] at e49
    have e50 := hbaseF 50 (not_dst (by kernel_rfl))
    simp only [List.getElem?_toArray, List.getElem?_cons_zero, List.getElem?_cons_succ, Option.getD_some] at e50
    have e51 := hbaseF 51 (not_dst (by kernel_rfl))
    simp only [List.getElem?_toArray, List.getElem?_cons_zero, List.getElem?_cons_succ, Option.getD_some] at e51
    have e52 := hbaseF 52 (not_dst (by kernel_rfl))
    simp only [List.getElem?_toArray, List.getElem?_cons_zero, List.getElem?_cons_succ, Option.getD_some] at e52
    have e53 := hbaseF 53 (not_dst (by kernel_rfl))
    simp only [List.getElem?_toArray, List.getElem?_cons_zero, List.getElem?_cons_succ, Option.getD_some] at e53
    have e54 := hbaseF 54 (not_dst (by kernel_rfl))
    simp only [List.getElem?_toArray, List.getElem?_cons_zero, List.getElem?_cons_succ, Option.getD_some] at e54
    have e55 := hbaseF 55 (not_dst (by kernel_rfl))
    simp only [List.getElem?_toArray, List.getElem?_cons_zero, List.getElem?_cons_succ, Option.getD_some] at e55
    have e56 := hbaseF 56 (not_dst (by kernel_rfl))
    simp only [List.getElem?_toArray, List.getElem?_cons_zero, List.getElem?_cons_succ, Option.getD_some] at e56
    have e57 := hbaseF 57 (not_dst (by kernel_rfl))
    simp only [List.getElem?_toArray, List.getElem?_cons_zero, List.getElem?_cons_succ, Option.getD_some] at e57
    have e58 := hbaseF 58 (not_dst (by kernel_rfl))
    simp only [List.getElem?_toArray, List.getElem?_cons_zero, List.getElem?_cons_succ, Option.getD_some] at e58
    have e59 := hbaseF 59 (not_dst (by kernel_rfl))
    simp only [List.getElem?_toArray, List.getElem?_cons_zero, List.getElem?_cons_succ, Option.getD_some] at e59
    have e60 := hbaseF 60 (not_dst (by kernel_rfl))
    simp only [List.getElem?_toArray, List.getElem?_cons_zero, List.getElem?_cons_succ, Option.getD_some] at e60
    have e61 := hbaseF 61 (not_dst (by kernel_rfl))
    simp only [List.getElem?_toArray, List.getElem?_cons_zero, List.getElem?_cons_succ, Option.getD_some] at e61
    have e62 := hbaseF 62 (not_dst (by kernel_rfl))
    simp only [List.getElem?_toArray, List.getElem?_cons_zero, List.getElem?_cons_succ, Option.getD_some] at e62
    have e63 := hbaseF 63 (not_dst (by kernel_rfl))
    simp only [List.getElem?_toArray, List.getElem?_cons_zero, List.getElem?_cons_succ, Option.getD_some] at e63
    have e64 := hbaseF 64 (not_dst (by kernel_rfl))
    simp only [List.getElem?_toArray, List.getElem?_cons_zero, List.getElem?_cons_succ, Option.getD_some] at e64
    have e65 := hbaseF 65 (not_dst (by kernel_rfl))
    simp only [List.getElem?_toArray, List.getElem?_cons_zero, List.getElem?_cons_succ, Option.getD_some] at e65
    have e66 := hbaseF 66 (not_dst (by kernel_rfl))
    simp only [List.getElem?_toArray, List.getElem?_cons_zero, List.getElem?_cons_succ, Option.getD_some] at e66
    have e67 := hbaseF 67 (not_dst (by kernel_rfl))
    simp only [List.getElem?_toArray, List.getElem?_cons_zero, List.getElem?_cons_succ, Option.getD_some] at e67
    have e68 := hbaseF 68 (not_dst (by kernel_rfl))
    simp only [List.getElem?_toArray, List.getElem?_cons_zero, List.getElem?_cons_succ, Option.getD_some] at e68
    have e69 := hbaseF 69 (not_dst (by kernel_rfl))
    simp only [List.getElem?_toArray, List.getElem?_cons_zero, List.getElem?_cons_succ, Option.getD_some] at e69
    have e70 := hbaseF 70 (not_dst (by kernel_rfl))
    simp only [List.getElem?_toArray, List.getElem?_cons_zero, List.getElem?_cons_succ, Option.getD_some] at e70
    have e71 := hbaseF 71 (not_dst (by kernel_rfl))
    simp only [List.getElem?_toArray, List.getElem?_cons_zero, List.getElem?_cons_succ, Option.getD_some] at e71
    have e72 := hbaseF 72 (not_dst (by kernel_rfl))
    simp only [List.getElem?_toArray, List.getElem?_cons_zero, List.getElem?_cons_succ, Option.getD_some] at e72
    have e73 := hbaseF 73 (not_dst (by kernel_rfl))
    simp only [List.getElem?_toArray, List.getElem?_cons_zero, List.getElem?_cons_succ, Option.getD_some] at e73
    have e74 := hbaseF 74 (not_dst (by kernel_rfl))
    simp only [List.getElem?_toArray, List.getElem?_cons_zero, List.getElem?_cons_succ, Option.getD_some] at e74
    have e75 := hbaseF 75 (not_dst (by kernel_rfl))
    simp only [List.getElem?_toArray, List.getElem?_cons_zero, List.getElem?_cons_succ, Option.getD_some] at e75
    have e76 := hbaseF 76 (not_dst (by kernel_rfl))
    simp only [List.getElem?_toArray, List.getElem?_cons_zero, List.getElem?_cons_succ, Option.getD_some] at e76
    have e77 := hbaseF 77 (not_dst (by kernel_rfl))
    simp only [List.getElem?_toArray, List.getElem?_cons_zero, List.getElem?_cons_succ, Option.getD_some] at e77
    have e78 := hbaseF 78 (not_dst (by kernel_rfl))
    simp only [List.getElem?_toArray, List.getElem?_cons_zero, List.getElem?_cons_succ, Option.getD_some] at e78
    have e79 := hbaseF 79 (not_dst (by kernel_rfl))
    simp only [List.getElem?_toArray, List.getElem?_cons_zero, List.getElem?_cons_succ, Option.getD_some] at e79
    have e80 := hbaseF 80 (not_dst (by kernel_rfl))
    simp only [List.getElem?_toArray, List.getElem?_cons_zero, List.getElem?_cons_succ, Option.getD_some] at e80
    have e81 := hbaseF 81 (not_dst (by kernel_rfl))
    simp only [List.getElem?_toArray, List.getElem?_cons_zero, List.getElem?_cons_succ, Option.getD_some] at e81
    have e82 := hbaseF 82 (not_dst (by kernel_rfl))
    simp only [List.getElem?_toArray, List.getElem?_cons_zero, List.getElem?_cons_succ, Option.getD_some] at e82
    have e83 := hbaseF 83 (not_dst (by kernel_rfl))
    simp only [List.getElem?_toArray, List.getElem?_cons_zero, List.getElem?_cons_succ, Option.getD_some] at e83
    have e84 := hbaseF 84 (not_dst (by kernel_rfl))
    simp only [List.getElem?_toArray, List.getElem?_cons_zero, List.getElem?_cons_succ, Option.getD_some] at e84
    have e85 := hbaseF 85 (not_dst (by kernel_rfl))
    simp only [List.getElem?_toArray, List.getElem?_cons_zero, List.getElem?_cons_succ, Option.getD_some] at e85
    have e86 := hbaseF 86 (not_dst (by kernel_rfl))
    simp only [List.getElem?_toArray, List.getElem?_cons_zero, List.getElem?_cons_succ, Option.getD_some] at e86
    have e87 := hbaseF 87 (not_dst (by kernel_rfl))
    simp only [List.getElem?_toArray, List.getElem?_cons_zero, List.getElem?_cons_succ, Option.getD_some] at e87
    have e88 := hbaseF 88 (not_dst (by kernel_rfl))
    simp only [List.getElem?_toArray, List.getElem?_cons_zero, List.getElem?_cons_succ, Option.getD_some] at e88
    have e89 := hbaseF 89 (not_dst (by kernel_rfl))
    simp only [List.getElem?_toArray, List.getElem?_cons_zero, List.getElem?_cons_succ, Option.getD_some] at e89
    have e90 := hbaseF 90 (not_dst (by kernel_rfl))
    simp only [List.getElem?_toArray, List.getElem?_cons_zero, List.getElem?_cons_succ, Option.getD_some] at e90
    have e91 := hbaseF 91 (not_dst (by kernel_rfl))
    simp only [List.getElem?_toArray, List.getElem?_cons_zero, List.getElem?_cons_succ, Option.getD_some] at e91
    have e92 := hbaseF 92 (not_dst (by kernel_rfl))
    simp only [List.getElem?_toArray, List.getElem?_cons_zero, List.getElem?_cons_succ, Option.getD_some] at e92
    have e93 := hbaseF 93 (not_dst (by kernel_rfl))
    simp only [List.getElem?_toArray, List.getElem?_cons_zero, List.getElem?_cons_succ, Option.getD_some] at e93
    have e94 := hbaseF 94 (not_dst (by kernel_rfl))
    simp only [List.getElem?_toArray, List.getElem?_cons_zero, List.getElem?_cons_succ, Option.getD_some] at e94
    have e95 := hbaseF 95 (not_dst (by kernel_rfl))
    simp only [List.getElem?_toArray, List.getElem?_cons_zero, List.getElem?_cons_succ, Option.getD_some] at e95
    have e96 := hbaseF 96 (not_dst (by kernel_rfl))
    simp only [List.getElem?_toArray, List.getElem?_cons_zero, List.getElem?_cons_succ, Option.getD_some] at e96
    have e97 := hbaseF 97 (not_dst (by kernel_rfl))
    simp only [List.getElem?_toArray, List.getElem?_cons_zero, List.getElem?_cons_succ, Option.getD_some] at e97
    have e98 := hbaseF 98 (not_dst (by kernel_rfl))
    simp only [List.getElem?_toArray, List.getElem?_cons_zero, List.getElem?_cons_succ, Option.getD_some] at e98
    have e99 := hbaseF 99 (not_dst (by kernel_rfl))
    simp only [List.getElem?_toArray, List.getElem?_cons_zero, List.getElem?_cons_succ, Option.getD_some] at e99
    have e100 := hbaseF 100 (not_dst (by kernel_rfl))
    simp only [List.getElem?_toArray, List.getElem?_cons_zero, List.getElem?_cons_succ, Option.getD_some] at e100
    have e101 := hbaseF 101 (not_dst (by kernel_rfl))
    simp only [List.getElem?_toArray, List.getElem?_cons_zero, List.getElem?_cons_succ, Option.getD_some] at e101
    have e102 := hbaseF 102 (not_dst (by kernel_rfl))
    simp only [List.getElem?_toArray, List.getElem?_cons_zero, List.getElem?_cons_succ, Option.getD_some] at e102
    have e103 := hbaseF 103 (not_dst (by kernel_rfl))
    simp only [List.getElem?_toArray, List.getElem?_cons_zero, List.getElem?_cons_succ, Option.getD_some] at e103
    have e104 := hbaseF 104 (not_dst (by kernel_rfl))
    simp only [List.getElem?_toArray, List.getElem?_cons_zero, List.getElem?_cons_succ, Option.getD_some] at e104
    have e9 := hfactF 7 9 (by decide) rfl
    replace e9 : IsSS (encR p t x a).length (encR p t x a) (T[9]?.getD undef) wF := e9
    have e10 := hfactF 8 10 (by decide) rfl
    replace e10 : T[10]?.getD undef = .int .i64 (encX p t a) := e10
    clear hbaseF hfactF
    have hT : T = #[T[0]?.getD undef, T[1]?.getD undef, T[2]?.getD undef, T[3]?.getD undef, T[4]?.getD undef, T[5]?.getD undef, T[6]?.getD undef, T[7]?.getD undef, T[8]?.getD undef, T[9]?.getD undef, T[10]?.getD undef, T[11]?.getD undef, T[12]?.getD undef, T[13]?.getD undef, T[14]?.getD undef, T[15]?.getD undef, T[16]?.getD undef, T[17]?.getD undef, T[18]?.getD undef, T[19]?.getD undef, T[20]?.getD undef, T[21]?.getD undef, T[22]?.getD undef, T[23]?.getD undef, T[24]?.getD undef, T[25]?.getD undef, T[26]?.getD undef, T[27]?.getD undef, T[28]?.getD undef, T[29]?.getD undef, T[30]?.getD undef, T[31]?.getD undef, T[32]?.getD undef, T[33]?.getD undef, T[34]?.getD undef, T[35]?.getD undef, T[36]?.getD undef, T[37]?.getD undef, T[38]?.getD undef, T[39]?.getD undef, T[40]?.getD undef, T[41]?.getD undef, T[42]?.getD undef, T[43]?.getD undef, T[44]?.getD undef, T[45]?.getD undef, T[46]?.getD undef, T[47]?.getD undef, T[48]?.getD undef, T[49]?.getD undef, T[50]?.getD undef, T[51]?.getD undef, T[52]?.getD undef, T[53]?.getD undef, T[54]?.getD undef, T[55]?.getD undef, T[56]?.getD undef, T[57]?.getD undef, T[58]?.getD undef, T[59]?.getD undef, T[60]?.getD undef, T[61]?.getD undef, T[62]?.getD undef, T[63]?.getD undef, T[64]?.getD undef, T[65]?.getD undef, T[66]?.getD undef, T[67]?.getD undef, T[68]?.getD undef, T[69]?.getD undef, T[70]?.getD undef, T[71]?.getD undef, T[72]?.getD undef, T[73]?.getD undef, T[74]?.getD undef, T[75]?.getD undef, T[76]?.getD undef, T[77]?.getD undef, T[78]?.getD undef, T[79]?.getD undef, T[80]?.getD undef, T[81]?.getD undef, T[82]?.getD undef, T[83]?.getD undef, T[84]?.getD undef, T[85]?.getD undef, T[86]?.getD undef, T[87]?.getD undef, T[88]?.getD undef, T[89]?.getD undef, T[90]?.getD undef, T[91]?.getD undef, T[92]?.getD undef, T[93]?.getD undef, T[94]?.getD undef, T[95]?.getD undef, T[96]?.getD undef, T[97]?.getD undef, T[98]?.getD undef, T[99]?.getD undef, T[100]?.getD undef, T[101]?.getD undef, T[102]?.getD undef, T[103]?.getD undef, T[104]?.getD undef] := arr_eq T 105 hsF
    clear hsF
    rw [e0] at hT; clear e0
    rw [e1] at hT; clear e1
    rw [e2] at hT; clear e2
    rw [e3] at hT; clear e3
    rw [e4] at hT; clear e4
    rw [e5] at hT; clear e5
    rw [e6] at hT; clear e6
    rw [e7] at hT; clear e7
    rw [e8] at hT; clear e8
    generalize T[9]?.getD undef = u9 at hT e9
    rw [e10] at hT; clear e10
    rw [e11] at hT; clear e11
    rw [e12] at hT; clear e12
    rw [e13] at hT; clear e13
    rw [e14] at hT; clear e14
    rw [e15] at hT; clear e15
    rw [e16] at hT; clear e16
    rw [e17] at hT; clear e17
    generalize T[18]?.getD undef = u18 at hT
    generalize T[19]?.getD undef = u19 at hT
    generalize T[20]?.getD undef = u20 at hT
    generalize T[21]?.getD undef = u21 at hT
    generalize T[22]?.getD undef = u22 at hT
    generalize T[23]?.getD undef = u23 at hT
    generalize T[24]?.getD undef = u24 at hT
    rw [e25] at hT; clear e25
    rw [e26] at hT; clear e26
    rw [e27] at hT; clear e27
    rw [e28] at hT; clear e28
    rw [e29] at hT; clear e29
    rw [e30] at hT; clear e30
    rw [e31] at hT; clear e31
    rw [e32] at hT; clear e32
    rw [e33] at hT; clear e33
    rw [e34] at hT; clear e34
    rw [e35] at hT; clear e35
    rw [e36] at hT; clear e36
    rw [e37] at hT; clear e37
    rw [e38] at hT; clear e38
    rw [e39] at hT; clear e39
    rw [e40] at hT; clear e40
    rw [e41] at hT; clear e41
    rw [e42] at hT; clear e42
    rw [e43] at hT; clear e43
    rw [e44] at hT; clear e44
    rw [e45] at hT; clear e45
    rw [e46] at hT; clear e46
    rw [e47] at hT; clear e47
    rw [e48] at hT; clear e48
    rw [e49] at hT; clear e49
    rw [e50] at hT; clear e50
    rw [e51] at hT; clear e51
    rw [e52] at hT; clear e52
    rw [e53] at hT; clear e53
    rw [e54] at hT; clear e54
    rw [e55] at hT; clear e55
    rw [e56] at hT; clear e56
    rw [e57] at hT; clear e57
    rw [e58] at hT; clear e58
    rw [e59] at hT; clear e59
    rw [e60] at hT; clear e60
    rw [e61] at hT; clear e61
    rw [e62] at hT; clear e62
    rw [e63] at hT; clear e63
    rw [e64] at hT; clear e64
    rw [e65] at hT; clear e65
    rw [e66] at hT; clear e66
    rw [e67] at hT; clear e67
    rw [e68] at hT; clear e68
    rw [e69] at hT; clear e69
    rw [e70] at hT; clear e70
    rw [e71] at hT; clear e71
    rw [e72] at hT; clear e72
    rw [e73] at hT; clear e73
    rw [e74] at hT; clear e74
    rw [e75] at hT; clear e75
    rw [e76] at hT; clear e76
    rw [e77] at hT; clear e77
    rw [e78] at hT; clear e78
    rw [e79] at hT; clear e79
    rw [e80] at hT; clear e80
    rw [e81] at hT; clear e81
    rw [e82] at hT; clear e82
    rw [e83] at hT; clear e83
    rw [e84] at hT; clear e84
    rw [e85] at hT; clear e85
    rw [e86] at hT; clear e86
    rw [e87] at hT; clear e87
    rw [e88] at hT; clear e88
    rw [e89] at hT; clear e89
    rw [e90] at hT; clear e90
    rw [e91] at hT; clear e91
    rw [e92] at hT; clear e92
    rw [e93] at hT; clear e93
    rw [e94] at hT; clear e94
    rw [e95] at hT; clear e95
    rw [e96] at hT; clear e96
    rw [e97] at hT; clear e97
    rw [e98] at hT; clear e98
    rw [e99] at hT; clear e99
    rw [e100] at hT; clear e100
    rw [e101] at hT; clear e101
    rw [e102] at hT; clear e102
    rw [e103] at hT; clear e103
    rw [e104] at hT; clear e104
    subst hT
    obtain ⟨AX, cX, rfl, hSX, hnX, hmX⟩ := e9
    replace BG := BG.on hbF
    replace BX := BX.on hbF
    replace RX := RX.below hbF
    have bF := bC.trans (hbF.mono bC.size)
    obtain ⟨wH, hwH⟩ : ∃ wH, wH = wF := ⟨_, rfl⟩
    subst hwH
    have hsz : w.heap.size ≤ wH.heap.size := bF.size
    clear hbF bC
    obtain ⟨M, hM⟩ : ∃ M, mayLog p t a = M := ⟨_, rfl⟩
    have HM0 := Lib.hid hM
    clear hM
    go_wp2_with fail
    refine wp_flows [(fun y_ _ => y_ = .agg #[.int .i64 p, .int .i64 t]), (fun y_ _ => y_ = .agg #[.int .u64 x, .slice A1 m c1]), IsLg 5 x m a, (fun y_ _ => y_ = .bool M), (fun y_ _ => y_ = .agg #[.int .i64 p, .int .i64 t]), (fun y_ _ => y_ = .agg #[.int .u64 x, .slice A1 m c1]), (fun y_ _ => y_ = .bool M), (fun y_ _ => y_ = .bool false), (fun y_ _ => y_ = .bool false), (fun y_ _ => y_ = .agg #[.int .u64 x, .slice A1 m c1]), IsLg 5 x m a, (fun y_ _ => y_ = .int .i64 (1 + (m : Int))), (fun y_ _ => y_ = .pointer (some ⟨w.heap.size + 1, 1, none⟩)), (fun y_ _ => y_ = .slice A1 m c1), (fun y_ _ => y_ = .int .i64 (m : Int)), (fun y_ _ => y_ = .int .i64 (1 + (m : Int))), (fun y_ _ => y_ = .bool false), (fun y_ _ => y_ = .bool false)] (by kernel_rfl) ⟨Stab.eq _, Stab.eq _, IsLg.stab _ _ _ _, Stab.eq _, Stab.eq _, Stab.eq _, Stab.eq _, Stab.eq _, Stab.eq _, Stab.eq _, IsLg.stab _ _ _ _, Stab.eq _, Stab.eq _, Stab.eq _, Stab.eq _, Stab.eq _, Stab.eq _, Stab.eq _, trivial⟩ (by kernel_rfl) (by rfl) ?_ ?_
    · intro kq hkq
      match kq, hkq with
      | 0, _ =>
        refine StepOk.plain _ 25 rfl rfl rfl [(4, none)] (by kernel_rfl) (fun af wf hbw hf Kf hKf => ?_)
        obtain ⟨g4, _⟩ := hf
        have h4 : af.tmps[4]?.getD undef = .pointer (some ⟨w.heap.size, 0, none⟩) := g4
        clear g4
        have cB0 := (Blk.on (Blk.drew (BG)) hbw).cell
        have cB1 := (Blk.on (Blk.drew (BX)) hbw).cell
        go_simp
        exact hKf _ _ (Below.refl _ _) rfl
      | 1, _ =>
        refine StepOk.plain _ 26 rfl rfl rfl [(5, none)] (by kernel_rfl) (fun af wf hbw hf Kf hKf => ?_)
        obtain ⟨g5, _⟩ := hf
        have h5 : af.tmps[5]?.getD undef = .pointer (some ⟨w.heap.size + 1, 0, none⟩) := g5
        clear g5
        have cB0 := (Blk.on (Blk.drew (BG)) hbw).cell
        have cB1 := (Blk.on (Blk.drew (BX)) hbw).cell
        go_simp
        exact hKf _ _ (Below.refl _ _) rfl
      | 2, _ =>
        refine StepOk.plain _ 27 rfl rfl rfl [(26, some 1)] (by kernel_rfl) (fun af wf hbw hf Kf hKf => ?_)
        obtain ⟨g26, _⟩ := hf
        have h26 : af.tmps[26]?.getD undef = .agg #[.int .u64 x, .slice A1 m c1] := g26
        clear g26
        go_simp
        refine (lours_any x A1 m c1 w.heap.size a _ (RdR.below RX.drew hbw) (Nat.le_trans hsz hbw.size) (by omega) HLa.out).mono ?_
        rintro e wN ⟨v, rfl, hO, hb⟩
        exact hKf _ _ (hb) (IsLg.of hO hma)
      | 3, _ =>
        refine StepOk.plain _ 28 rfl rfl rfl [(25, some 0), (27, some 2)] (by kernel_rfl) (fun af wf hbw hf Kf hKf => ?_)
        obtain ⟨g25, g27, _⟩ := hf
        have h25 : af.tmps[25]?.getD undef = .agg #[.int .i64 p, .int .i64 t] := g25
        have g27 : IsLg 5 x m a (af.tmps[27]?.getD undef) wf := g27
        obtain ⟨A27, c27, B27, h27, hR27, hn27, hm27⟩ := g27
        clear g25
        go_simp
        refine (lmay_any p t x _ m _ _ _ a _ hR27 (by omega)).mono ?_
        rintro e wN ⟨rfl, hb⟩
        exact hKf _ _ (hb) (congrArg Value.bool HM0.out)
      | 4, _ =>
        refine StepOk.plain _ 29 rfl rfl rfl [(4, none)] (by kernel_rfl) (fun af wf hbw hf Kf hKf => ?_)
        obtain ⟨g4, _⟩ := hf
        have h4 : af.tmps[4]?.getD undef = .pointer (some ⟨w.heap.size, 0, none⟩) := g4
        clear g4
        have cB0 := (Blk.on (Blk.drew (BG)) hbw).cell
        have cB1 := (Blk.on (Blk.drew (BX)) hbw).cell
        go_simp
        exact hKf _ _ (Below.refl _ _) rfl
      | 5, _ =>
        refine StepOk.plain _ 30 rfl rfl rfl [(5, none)] (by kernel_rfl) (fun af wf hbw hf Kf hKf => ?_)
        obtain ⟨g5, _⟩ := hf
        have h5 : af.tmps[5]?.getD undef = .pointer (some ⟨w.heap.size + 1, 0, none⟩) := g5
        clear g5
        have cB0 := (Blk.on (Blk.drew (BG)) hbw).cell
        have cB1 := (Blk.on (Blk.drew (BX)) hbw).cell
        go_simp
        exact hKf _ _ (Below.refl _ _) rfl
      | 6, _ =>
        refine StepOk.plain _ 31 rfl rfl rfl [(29, some 4), (30, some 5)] (by kernel_rfl) (fun af wf hbw hf Kf hKf => ?_)
        obtain ⟨g29, g30, _⟩ := hf
        have h29 : af.tmps[29]?.getD undef = .agg #[.int .i64 p, .int .i64 t] := g29
        have h30 : af.tmps[30]?.getD undef = .agg #[.int .u64 x, .slice A1 m c1] := g30
        clear g29 g30
        go_simp
        refine (rlmay_any p t x A1 m c1 _ _ a _ (RdR.below RX.drew hbw) (by omega)).mono ?_
        rintro e wN ⟨rfl, hb⟩
        exact hKf _ _ (hb) (congrArg Value.bool HM0.out)
      | 7, _ =>
        refine StepOk.plain _ 32 rfl rfl rfl [(28, some 3), (31, some 6)] (by kernel_rfl) (fun af wf hbw hf Kf hKf => ?_)
        obtain ⟨g28, g31, _⟩ := hf
        have h28 : af.tmps[28]?.getD undef = .bool M := g28
        have h31 : af.tmps[31]?.getD undef = .bool M := g31
        clear g28 g31
        go_simp
        exact hKf _ _ (Below.refl _ _) rfl
      | 8, _ =>
        refine StepOk.plain _ 33 rfl rfl rfl [(32, some 7)] (by kernel_rfl) (fun af wf hbw hf Kf hKf => ?_)
        obtain ⟨g32, _⟩ := hf
        have h32 : af.tmps[32]?.getD undef = .bool false := g32
        clear g32
        go_simp
        exact hKf _ _ (Below.refl _ _) rfl
      | 9, _ =>
        refine StepOk.yes _ 34 rfl rfl rfl rfl (fun _ _ h => h) [(5, none)] (by kernel_rfl) (fun af wf hbw hf Kf hKf => ?_)
        obtain ⟨g5, _⟩ := hf
        have h5 : af.tmps[5]?.getD undef = .pointer (some ⟨w.heap.size + 1, 0, none⟩) := g5
        clear g5
        have cB0 := (Blk.on (Blk.drew (BG)) hbw).cell
        have cB1 := (Blk.on (Blk.drew (BX)) hbw).cell
        go_simp
        exact hKf _ _ (Below.refl _ _) rfl
      | 10, _ =>
        refine StepOk.yes _ 35 rfl rfl rfl rfl (fun _ _ h => h) [(34, some 9)] (by kernel_rfl) (fun af wf hbw hf Kf hKf => ?_)
        obtain ⟨g34, _⟩ := hf
        have h34 : af.tmps[34]?.getD undef = .agg #[.int .u64 x, .slice A1 m c1] := g34
        clear g34
        go_simp
        refine (lours_any x A1 m c1 w.heap.size a _ (RdR.below RX.drew hbw) (Nat.le_trans hsz hbw.size) (by omega) HLa.out).mono ?_
        rintro e wN ⟨v, rfl, hO, hb⟩
        exact hKf _ _ (hb) (IsLg.of hO hma)
      | 11, _ =>
        refine StepOk.yes _ 36 rfl rfl rfl rfl (fun _ _ h => h) [(35, some 10)] (by kernel_rfl) (fun af wf hbw hf Kf hKf => ?_)
        obtain ⟨g35, _⟩ := hf
        have g35 : IsLg 5 x m a (af.tmps[35]?.getD undef) wf := g35
        obtain ⟨A35, c35, B35, h35, hR35, hn35, hm35⟩ := g35
        go_simp
        refine (lsize_any x _ m _ _ (by omega)).mono ?_
        rintro e wN ⟨rfl, hb⟩
        exact hKf _ _ (hb) (rfl)
      | 12, _ =>
        refine StepOk.yes _ 37 rfl rfl rfl rfl (fun _ _ h => h) [(5, none)] (by kernel_rfl) (fun af wf hbw hf Kf hKf => ?_)
        obtain ⟨g5, _⟩ := hf
        have h5 : af.tmps[5]?.getD undef = .pointer (some ⟨w.heap.size + 1, 0, none⟩) := g5
        clear g5
        go_simp
        exact hKf _ _ (Below.refl _ _) rfl
      | 13, _ =>
        refine StepOk.yes _ 38 rfl rfl rfl rfl (fun _ _ h => h) [(37, some 12)] (by kernel_rfl) (fun af wf hbw hf Kf hKf => ?_)
        obtain ⟨g37, _⟩ := hf
        have h37 : af.tmps[37]?.getD undef = .pointer (some ⟨w.heap.size + 1, 1, none⟩) := g37
        clear g37
        have cB0 := (Blk.on (Blk.drew (BG)) hbw).cell
        have cB1 := (Blk.on (Blk.drew (BX)) hbw).cell
        go_simp
        exact hKf _ _ (Below.refl _ _) rfl
      | 14, _ =>
        refine StepOk.yes _ 39 rfl rfl rfl rfl (fun _ _ h => h) [(38, some 13)] (by kernel_rfl) (fun af wf hbw hf Kf hKf => ?_)
        obtain ⟨g38, _⟩ := hf
        have h38 : af.tmps[38]?.getD undef = .slice A1 m c1 := g38
        clear g38
        go_simp
        exact hKf _ _ (Below.refl _ _) rfl
      | 15, _ =>
        refine StepOk.yes _ 40 rfl rfl rfl rfl (fun _ _ h => h) [(39, some 14)] (by kernel_rfl) (fun af wf hbw hf Kf hKf => ?_)
        obtain ⟨g39, _⟩ := hf
        have h39 : af.tmps[39]?.getD undef = .int .i64 (m : Int) := g39
        clear g39
        have hwr : IntKind.i64.wrap (1 + (m : Int)) = 1 + (m : Int) := IntWalk.i64_in _ (by omega)
        go_simp
        exact hKf _ _ (Below.refl _ _) rfl
      | 16, _ =>
        refine StepOk.yes _ 41 rfl rfl rfl rfl (fun _ _ h => h) [(36, some 11), (40, some 15)] (by kernel_rfl) (fun af wf hbw hf Kf hKf => ?_)
        obtain ⟨g36, g40, _⟩ := hf
        have h36 : af.tmps[36]?.getD undef = .int .i64 (1 + (m : Int)) := g36
        have h40 : af.tmps[40]?.getD undef = .int .i64 (1 + (m : Int)) := g40
        clear g36 g40
        go_simp
        exact hKf _ _ (Below.refl _ _) rfl
      | 17, _ =>
        refine StepOk.plain _ 42 rfl rfl rfl [(33, some 8), (41, some 16)] (by kernel_rfl) (fun af wf hbw hf Kf hKf => ?_)
        obtain ⟨g33, g41, _⟩ := hf
        have h33 : af.tmps[33]?.getD undef = .bool false := g33
        have h41 : af.tmps[41]?.getD undef = .bool false := g41
        clear g33 g41
        go_simp
        exact hKf _ _ (Below.refl _ _) rfl
      | i + 18, h => exact absurd h (by show ¬ (i + 18 < 18); omega)
    · intro af wF hbF hdF hsF hbaseF hfactF
      obtain ⟨T, dsF⟩ := af
      obtain rfl : dsF = _ := hdF
      have e0 := hbaseF 0 (not_dst (by kernel_rfl))
      simp only [List.getElem?_toArray, List.getElem?_cons_zero, Option.getD_some] at e0
      have e1 := hbaseF 1 (not_dst (by kernel_rfl))
      simp only [List.getElem?_toArray, List.getElem?_cons_zero, List.getElem?_cons_succ, Option.getD_some] at e1
      have e2 := hbaseF 2 (not_dst (by kernel_rfl))
      simp only [List.getElem?_toArray, List.getElem?_cons_zero, List.getElem?_cons_succ, Option.getD_some] at e2
      have e3 := hbaseF 3 (not_dst (by kernel_rfl))
      simp only [List.getElem?_toArray, List.getElem?_cons_zero, List.getElem?_cons_succ, Option.getD_some] at e3
      have e4 := hbaseF 4 (not_dst (by kernel_rfl))
      simp only [List.getElem?_toArray, List.getElem?_cons_zero, List.getElem?_cons_succ, Option.getD_some] at e4
      have e5 := hbaseF 5 (not_dst (by kernel_rfl))
      simp only [List.getElem?_toArray, List.getElem?_cons_zero, List.getElem?_cons_succ, Option.getD_some] at e5
      have e6 := hbaseF 6 (not_dst (by kernel_rfl))
      simp only [List.getElem?_toArray, List.getElem?_cons_zero, List.getElem?_cons_succ, Option.getD_some] at e6
      have e7 := hbaseF 7 (not_dst (by kernel_rfl))
      simp only [List.getElem?_toArray, List.getElem?_cons_zero, List.getElem?_cons_succ, Option.getD_some] at e7
      have e8 := hbaseF 8 (not_dst (by kernel_rfl))
      simp only [List.getElem?_toArray, List.getElem?_cons_zero, List.getElem?_cons_succ, Option.getD_some] at e8
      have e9 := hbaseF 9 (not_dst (by kernel_rfl))
      simp only [List.getElem?_toArray, List.getElem?_cons_zero, List.getElem?_cons_succ, Option.getD_some] at e9
      have e10 := hbaseF 10 (not_dst (by kernel_rfl))
      simp only [List.getElem?_toArray, List.getElem?_cons_zero, List.getElem?_cons_succ, Option.getD_some] at e10
      have e11 := hbaseF 11 (not_dst (by kernel_rfl))
      simp only [List.getElem?_toArray, List.getElem?_cons_zero, List.getElem?_cons_succ, Option.getD_some] at e11
      have e12 := hbaseF 12 (not_dst (by kernel_rfl))
      simp only [List.getElem?_toArray, List.getElem?_cons_zero, List.getElem?_cons_succ, Option.getD_some] at e12
      have e13 := hbaseF 13 (not_dst (by kernel_rfl))
      simp only [List.getElem?_toArray, List.getElem?_cons_zero, List.getElem?_cons_succ, Option.getD_some] at e13
      have e14 := hbaseF 14 (not_dst (by kernel_rfl))
      simp only [List.getElem?_toArray, List.getElem?_cons_zero, List.getElem?_cons_succ, Option.getD_some] at e14
      have e15 := hbaseF 15 (not_dst (by kernel_rfl))
      simp only [List.getElem?_toArray, List.getElem?_cons_zero, List.getElem?_cons_succ, Option.getD_some] at e15
      have e16 := hbaseF 16 (not_dst (by kernel_rfl))
      simp only [List.getElem?_toArray, List.getElem?_cons_zero, List.getElem?_cons_succ, Option.getD_some] at e16
      have e17 := hbaseF 17 (not_dst (by kernel_rfl))
      simp only [List.getElem?_toArray, List.getElem?_cons_zero, List.getElem?_cons_succ, Option.getD_some] at e17
      have e18 := hbaseF 18 (not_dst (by kernel_rfl))
      simp only [List.getElem?_toArray, List.getElem?_cons_zero, List.getElem?_cons_succ, Option.getD_some] at e18
      have e19 := hbaseF 19 (not_dst (by kernel_rfl))
      simp only [List.getElem?_toArray, List.getElem?_cons_zero, List.getElem?_cons_succ, Option.getD_some] at e19
      have e20 := hbaseF 20 (not_dst (by kernel_rfl))
      simp only [List.getElem?_toArray, List.getElem?_cons_zero, List.getElem?_cons_succ, Option.getD_some] at e20
      have e21 := hbaseF 21 (not_dst (by kernel_rfl))
      simp only [List.getElem?_toArray, List.getElem?_cons_zero, List.getElem?_cons_succ, Option.getD_some] at e21
      have e22 := hbaseF 22 (not_dst (by kernel_rfl))
      simp only [List.getElem?_toArray, List.getElem?_cons_zero, List.getElem?_cons_succ, Option.getD_some] at e22
      have e23 := hbaseF 23 (not_dst (by kernel_rfl))
      simp only [List.getElem?_toArray, List.getElem?_cons_zero, List.getElem?_cons_succ, Option.getD_some] at e23
      have e24 := hbaseF 24 (not_dst (by kernel_rfl))
      simp only [List.getElem?_toArray, List.getElem?_cons_zero, List.getElem?_cons_succ, Option.getD_some] at e24
      have e43 := hbaseF 43 (not_dst (by kernel_rfl))
      simp only [List.getElem?_toArray, List.getElem?_cons_zero, List.getElem?_cons_succ, Option.getD_some] at e43
      have e44 := hbaseF 44 (not_dst (by kernel_rfl))
      simp only [List.getElem?_toArray, List.getElem?_cons_zero, List.getElem?_cons_succ, Option.getD_some] at e44
      have e45 := hbaseF 45 (not_dst (by kernel_rfl))
      simp only [List.getElem?_toArray, List.getElem?_cons_zero, List.getElem?_cons_succ, Option.getD_some] at e45
      have e46 := hbaseF 46 (not_dst (by kernel_rfl))
      simp only [List.getElem?_toArray, List.getElem?_cons_zero, List.getElem?_cons_succ, Option.getD_some] at e46
      have e47 := hbaseF 47 (not_dst (by kernel_rfl))
      simp only [List.getElem?_toArray, List.getElem?_cons_zero, List.getElem?_cons_succ, Option.getD_some] at e47
      have e48 := hbaseF 48 (not_dst (by kernel_rfl))
      simp only [List.getElem?_toArray, List.getElem?_cons_zero, List.getElem?_cons_succ, Option.getD_some] at e48
      have e49 := hbaseF 49 (not_dst (by kernel_rfl))
      simp only [List.getElem?_toArray, List.getElem?_cons_zero, List.getElem?_cons_succ, Option.getD_some] at e49
      have e50 := hbaseF 50 (not_dst (by kernel_rfl))
      simp only [List.getElem?_toArray, List.getElem?_cons_zero, List.getElem?_cons_succ, Option.getD_some] at e50
      have e51 := hbaseF 51 (not_dst (by kernel_rfl))
      simp only [List.getElem?_toArray, List.getElem?_cons_zero, List.getElem?_cons_succ, Option.getD_some] at e51
      have e52 := hbaseF 52 (not_dst (by kernel_rfl))
      simp only [List.getElem?_toArray, List.getElem?_cons_zero, List.getElem?_cons_succ, Option.getD_some] at e52
      have e53 := hbaseF 53 (not_dst (by kernel_rfl))
      simp only [List.getElem?_toArray, List.getElem?_cons_zero, List.getElem?_cons_succ, Option.getD_some] at e53
      have e54 := hbaseF 54 (not_dst (by kernel_rfl))
      simp only [List.getElem?_toArray, List.getElem?_cons_zero, List.getElem?_cons_succ, Option.getD_some] at e54
      have e55 := hbaseF 55 (not_dst (by kernel_rfl))
      simp only [List.getElem?_toArray, List.getElem?_cons_zero, List.getElem?_cons_succ, Option.getD_some] at e55
      have e56 := hbaseF 56 (not_dst (by kernel_rfl))
      simp only [List.getElem?_toArray, List.getElem?_cons_zero, List.getElem?_cons_succ, Option.getD_some] at e56
      have e57 := hbaseF 57 (not_dst (by kernel_rfl))
      simp only [List.getElem?_toArray, List.getElem?_cons_zero, List.getElem?_cons_succ, Option.getD_some] at e57
      have e58 := hbaseF 58 (not_dst (by kernel_rfl))
      simp only [List.getElem?_toArray, List.getElem?_cons_zero, List.getElem?_cons_succ, Option.getD_some] at e58
      have e59 := hbaseF 59 (not_dst (by kernel_rfl))
      simp only [List.getElem?_toArray, List.getElem?_cons_zero, List.getElem?_cons_succ, Option.getD_some] at e59
      have e60 := hbaseF 60 (not_dst (by kernel_rfl))
      simp only [List.getElem?_toArray, List.getElem?_cons_zero, List.getElem?_cons_succ, Option.getD_some] at e60
      have e61 := hbaseF 61 (not_dst (by kernel_rfl))
      simp only [List.getElem?_toArray, List.getElem?_cons_zero, List.getElem?_cons_succ, Option.getD_some] at e61
      have e62 := hbaseF 62 (not_dst (by kernel_rfl))
      simp only [List.getElem?_toArray, List.getElem?_cons_zero, List.getElem?_cons_succ, Option.getD_some] at e62
      have e63 := hbaseF 63 (not_dst (by kernel_rfl))
      simp only [List.getElem?_toArray, List.getElem?_cons_zero, List.getElem?_cons_succ, Option.getD_some] at e63
      have e64 := hbaseF 64 (not_dst (by kernel_rfl))
      simp only [List.getElem?_toArray, List.getElem?_cons_zero, List.getElem?_cons_succ, Option.getD_some] at e64
      have e65 := hbaseF 65 (not_dst (by kernel_rfl))
      simp only [List.getElem?_toArray, List.getElem?_cons_zero, List.getElem?_cons_succ, Option.getD_some] at e65
      have e66 := hbaseF 66 (not_dst (by kernel_rfl))
      simp only [List.getElem?_toArray, List.getElem?_cons_zero, List.getElem?_cons_succ, Option.getD_some] at e66
      have e67 := hbaseF 67 (not_dst (by kernel_rfl))
      simp only [List.getElem?_toArray, List.getElem?_cons_zero, List.getElem?_cons_succ, Option.getD_some] at e67
      have e68 := hbaseF 68 (not_dst (by kernel_rfl))
      simp only [List.getElem?_toArray, List.getElem?_cons_zero, List.getElem?_cons_succ, Option.getD_some] at e68
      have e69 := hbaseF 69 (not_dst (by kernel_rfl))
      simp only [List.getElem?_toArray, List.getElem?_cons_zero, List.getElem?_cons_succ, Option.getD_some] at e69
      have e70 := hbaseF 70 (not_dst (by kernel_rfl))
      simp only [List.getElem?_toArray, List.getElem?_cons_zero, List.getElem?_cons_succ, Option.getD_some] at e70
      have e71 := hbaseF 71 (not_dst (by kernel_rfl))
      simp only [List.getElem?_toArray, List.getElem?_cons_zero, List.getElem?_cons_succ, Option.getD_some] at e71
      have e72 := hbaseF 72 (not_dst (by kernel_rfl))
      simp only [List.getElem?_toArray, List.getElem?_cons_zero, List.getElem?_cons_succ, Option.getD_some] at e72
      have e73 := hbaseF 73 (not_dst (by kernel_rfl))
      simp only [List.getElem?_toArray, List.getElem?_cons_zero, List.getElem?_cons_succ, Option.getD_some] at e73
      have e74 := hbaseF 74 (not_dst (by kernel_rfl))
      simp only [List.getElem?_toArray, List.getElem?_cons_zero, List.getElem?_cons_succ, Option.getD_some] at e74
      have e75 := hbaseF 75 (not_dst (by kernel_rfl))
      simp only [List.getElem?_toArray, List.getElem?_cons_zero, List.getElem?_cons_succ, Option.getD_some] at e75
      have e76 := hbaseF 76 (not_dst (by kernel_rfl))
      simp only [List.getElem?_toArray, List.getElem?_cons_zero, List.getElem?_cons_succ, Option.getD_some] at e76
      have e77 := hbaseF 77 (not_dst (by kernel_rfl))
      simp only [List.getElem?_toArray, List.getElem?_cons_zero, List.getElem?_cons_succ, Option.getD_some] at e77
      have e78 := hbaseF 78 (not_dst (by kernel_rfl))
      simp only [List.getElem?_toArray, List.getElem?_cons_zero, List.getElem?_cons_succ, Option.getD_some] at e78
      have e79 := hbaseF 79 (not_dst (by kernel_rfl))
      simp only [List.getElem?_toArray, List.getElem?_cons_zero, List.getElem?_cons_succ, Option.getD_some] at e79
      have e80 := hbaseF 80 (not_dst (by kernel_rfl))
      simp only [List.getElem?_toArray, List.getElem?_cons_zero, List.getElem?_cons_succ, Option.getD_some] at e80
      have e81 := hbaseF 81 (not_dst (by kernel_rfl))
      simp only [List.getElem?_toArray, List.getElem?_cons_zero, List.getElem?_cons_succ, Option.getD_some] at e81
      have e82 := hbaseF 82 (not_dst (by kernel_rfl))
      simp only [List.getElem?_toArray, List.getElem?_cons_zero, List.getElem?_cons_succ, Option.getD_some] at e82
      have e83 := hbaseF 83 (not_dst (by kernel_rfl))
      simp only [List.getElem?_toArray, List.getElem?_cons_zero, List.getElem?_cons_succ, Option.getD_some] at e83
      have e84 := hbaseF 84 (not_dst (by kernel_rfl))
      simp only [List.getElem?_toArray, List.getElem?_cons_zero, List.getElem?_cons_succ, Option.getD_some] at e84
      have e85 := hbaseF 85 (not_dst (by kernel_rfl))
      simp only [List.getElem?_toArray, List.getElem?_cons_zero, List.getElem?_cons_succ, Option.getD_some] at e85
      have e86 := hbaseF 86 (not_dst (by kernel_rfl))
      simp only [List.getElem?_toArray, List.getElem?_cons_zero, List.getElem?_cons_succ, Option.getD_some] at e86
      have e87 := hbaseF 87 (not_dst (by kernel_rfl))
      simp only [List.getElem?_toArray, List.getElem?_cons_zero, List.getElem?_cons_succ, Option.getD_some] at e87
      have e88 := hbaseF 88 (not_dst (by kernel_rfl))
      simp only [List.getElem?_toArray, List.getElem?_cons_zero, List.getElem?_cons_succ, Option.getD_some] at e88
      have e89 := hbaseF 89 (not_dst (by kernel_rfl))
      simp only [List.getElem?_toArray, List.getElem?_cons_zero, List.getElem?_cons_succ, Option.getD_some] at e89
      have e90 := hbaseF 90 (not_dst (by kernel_rfl))
      simp only [List.getElem?_toArray, List.getElem?_cons_zero, List.getElem?_cons_succ, Option.getD_some] at e90
      have e91 := hbaseF 91 (not_dst (by kernel_rfl))
      simp only [List.getElem?_toArray, List.getElem?_cons_zero, List.getElem?_cons_succ, Option.getD_some] at e91
      have e92 := hbaseF 92 (not_dst (by kernel_rfl))
      simp only [List.getElem?_toArray, List.getElem?_cons_zero, List.getElem?_cons_succ, Option.getD_some] at e92
      have e93 := hbaseF 93 (not_dst (by kernel_rfl))
      simp only [List.getElem?_toArray, List.getElem?_cons_zero, List.getElem?_cons_succ, Option.getD_some] at e93
      have e94 := hbaseF 94 (not_dst (by kernel_rfl))
      simp only [List.getElem?_toArray, List.getElem?_cons_zero, List.getElem?_cons_succ, Option.getD_some] at e94
      have e95 := hbaseF 95 (not_dst (by kernel_rfl))
      simp only [List.getElem?_toArray, List.getElem?_cons_zero, List.getElem?_cons_succ, Option.getD_some] at e95
      have e96 := hbaseF 96 (not_dst (by kernel_rfl))
      simp only [List.getElem?_toArray, List.getElem?_cons_zero, List.getElem?_cons_succ, Option.getD_some] at e96
      have e97 := hbaseF 97 (not_dst (by kernel_rfl))
      simp only [List.getElem?_toArray, List.getElem?_cons_zero, List.getElem?_cons_succ, Option.getD_some] at e97
      have e98 := hbaseF 98 (not_dst (by kernel_rfl))
      simp only [List.getElem?_toArray, List.getElem?_cons_zero, List.getElem?_cons_succ, Option.getD_some] at e98
      have e99 := hbaseF 99 (not_dst (by kernel_rfl))
      simp only [List.getElem?_toArray, List.getElem?_cons_zero, List.getElem?_cons_succ, Option.getD_some] at e99
      have e100 := hbaseF 100 (not_dst (by kernel_rfl))
      simp only [List.getElem?_toArray, List.getElem?_cons_zero, List.getElem?_cons_succ, Option.getD_some] at e100
      have e101 := hbaseF 101 (not_dst (by kernel_rfl))
      simp only [List.getElem?_toArray, List.getElem?_cons_zero, List.getElem?_cons_succ, Option.getD_some] at e101
      have e102 := hbaseF 102 (not_dst (by kernel_rfl))
      simp only [List.getElem?_toArray, List.getElem?_cons_zero, List.getElem?_cons_succ, Option.getD_some] at e102
      have e103 := hbaseF 103 (not_dst (by kernel_rfl))
      simp only [List.getElem?_toArray, List.getElem?_cons_zero, List.getElem?_cons_succ, Option.getD_some] at e103
      have e104 := hbaseF 104 (not_dst (by kernel_rfl))
      simp only [List.getElem?_toArray, List.getElem?_cons_zero, List.getElem?_cons_succ, Option.getD_some] at e104
      have e42 := hfactF 17 42 (by decide) rfl
      replace e42 : T[42]?.getD undef = .bool false := e42
      clear hbaseF hfactF
      have hT : T = #[T[0]?.getD undef, T[1]?.getD undef, T[2]?.getD undef, T[3]?.getD undef, T[4]?.getD undef, T[5]?.getD undef, T[6]?.getD undef, T[7]?.getD undef, T[8]?.getD undef, T[9]?.getD undef, T[10]?.getD undef, T[11]?.getD undef, T[12]?.getD undef, T[13]?.getD undef, T[14]?.getD undef, T[15]?.getD undef, T[16]?.getD undef, T[17]?.getD undef, T[18]?.getD undef, T[19]?.getD undef, T[20]?.getD undef, T[21]?.getD undef, T[22]?.getD undef, T[23]?.getD undef, T[24]?.getD undef, T[25]?.getD undef, T[26]?.getD undef, T[27]?.getD undef, T[28]?.getD undef, T[29]?.getD undef, T[30]?.getD undef, T[31]?.getD undef, T[32]?.getD undef, T[33]?.getD undef, T[34]?.getD undef, T[35]?.getD undef, T[36]?.getD undef, T[37]?.getD undef, T[38]?.getD undef, T[39]?.getD undef, T[40]?.getD undef, T[41]?.getD undef, T[42]?.getD undef, T[43]?.getD undef, T[44]?.getD undef, T[45]?.getD undef, T[46]?.getD undef, T[47]?.getD undef, T[48]?.getD undef, T[49]?.getD undef, T[50]?.getD undef, T[51]?.getD undef, T[52]?.getD undef, T[53]?.getD undef, T[54]?.getD undef, T[55]?.getD undef, T[56]?.getD undef, T[57]?.getD undef, T[58]?.getD undef, T[59]?.getD undef, T[60]?.getD undef, T[61]?.getD undef, T[62]?.getD undef, T[63]?.getD undef, T[64]?.getD undef, T[65]?.getD undef, T[66]?.getD undef, T[67]?.getD undef, T[68]?.getD undef, T[69]?.getD undef, T[70]?.getD undef, T[71]?.getD undef, T[72]?.getD undef, T[73]?.getD undef, T[74]?.getD undef, T[75]?.getD undef, T[76]?.getD undef, T[77]?.getD undef, T[78]?.getD undef, T[79]?.getD undef, T[80]?.getD undef, T[81]?.getD undef, T[82]?.getD undef, T[83]?.getD undef, T[84]?.getD undef, T[85]?.getD undef, T[86]?.getD undef, T[87]?.getD undef, T[88]?.getD undef, T[89]?.getD undef, T[90]?.getD undef, T[91]?.getD undef, T[92]?.getD undef, T[93]?.getD undef, T[94]?.getD undef, T[95]?.getD undef, T[96]?.getD undef, T[97]?.getD undef, T[98]?.getD undef, T[99]?.getD undef, T[100]?.getD undef, T[101]?.getD undef, T[102]?.getD undef, T[103]?.getD undef, T[104]?.getD undef] := arr_eq T 105 hsF
      clear hsF
      rw [e0] at hT; clear e0
      rw [e1] at hT; clear e1
      rw [e2] at hT; clear e2
      rw [e3] at hT; clear e3
      rw [e4] at hT; clear e4
      rw [e5] at hT; clear e5
      rw [e6] at hT; clear e6
      rw [e7] at hT; clear e7
      rw [e8] at hT; clear e8
      rw [e9] at hT; clear e9
      rw [e10] at hT; clear e10
      rw [e11] at hT; clear e11
      rw [e12] at hT; clear e12
      rw [e13] at hT; clear e13
      rw [e14] at hT; clear e14
      rw [e15] at hT; clear e15
      rw [e16] at hT; clear e16
      rw [e17] at hT; clear e17
      rw [e18] at hT; clear e18
      rw [e19] at hT; clear e19
      rw [e20] at hT; clear e20
      rw [e21] at hT; clear e21
      rw [e22] at hT; clear e22
      rw [e23] at hT; clear e23
      rw [e24] at hT; clear e24
      generalize T[25]?.getD undef = u25 at hT
      generalize T[26]?.getD undef = u26 at hT
      generalize T[27]?.getD undef = u27 at hT
      generalize T[28]?.getD undef = u28 at hT
      generalize T[29]?.getD undef = u29 at hT
      generalize T[30]?.getD undef = u30 at hT
      generalize T[31]?.getD undef = u31 at hT
      generalize T[32]?.getD undef = u32 at hT
      generalize T[33]?.getD undef = u33 at hT
      generalize T[34]?.getD undef = u34 at hT
      generalize T[35]?.getD undef = u35 at hT
      generalize T[36]?.getD undef = u36 at hT
      generalize T[37]?.getD undef = u37 at hT
      generalize T[38]?.getD undef = u38 at hT
      generalize T[39]?.getD undef = u39 at hT
      generalize T[40]?.getD undef = u40 at hT
      generalize T[41]?.getD undef = u41 at hT
      rw [e42] at hT; clear e42
      rw [e43] at hT; clear e43
      rw [e44] at hT; clear e44
      rw [e45] at hT; clear e45
      rw [e46] at hT; clear e46
      rw [e47] at hT; clear e47
      rw [e48] at hT; clear e48
      rw [e49] at hT; clear e49
      rw [e50] at hT; clear e50
      rw [e51] at hT; clear e51
      rw [e52] at hT; clear e52
      rw [e53] at hT; clear e53
      rw [e54] at hT; clear e54
      rw [e55] at hT; clear e55
      rw [e56] at hT; clear e56
      rw [e57] at hT; clear e57
      rw [e58] at hT; clear e58
      rw [e59] at hT; clear e59
      rw [e60] at hT; clear e60
      rw [e61] at hT; clear e61
      rw [e62] at hT; clear e62
      rw [e63] at hT; clear e63
      rw [e64] at hT; clear e64
      rw [e65] at hT; clear e65
      rw [e66] at hT; clear e66
      rw [e67] at hT; clear e67
      rw [e68] at hT; clear e68
      rw [e69] at hT; clear e69
      rw [e70] at hT; clear e70
      rw [e71] at hT; clear e71
      rw [e72] at hT; clear e72
      rw [e73] at hT; clear e73
      rw [e74] at hT; clear e74
      rw [e75] at hT; clear e75
      rw [e76] at hT; clear e76
      rw [e77] at hT; clear e77
      rw [e78] at hT; clear e78
      rw [e79] at hT; clear e79
      rw [e80] at hT; clear e80
      rw [e81] at hT; clear e81
      rw [e82] at hT; clear e82
      rw [e83] at hT; clear e83
      rw [e84] at hT; clear e84
      rw [e85] at hT; clear e85
      rw [e86] at hT; clear e86
      rw [e87] at hT; clear e87
      rw [e88] at hT; clear e88
      rw [e89] at hT; clear e89
      rw [e90] at hT; clear e90
      rw [e91] at hT; clear e91
      rw [e92] at hT; clear e92
      rw [e93] at hT; clear e93
      rw [e94] at hT; clear e94
      rw [e95] at hT; clear e95
      rw [e96] at hT; clear e96
      rw [e97] at hT; clear e97
      rw [e98] at hT; clear e98
      rw [e99] at hT; clear e99
      rw [e100] at hT; clear e100
      rw [e101] at hT; clear e101
      rw [e102] at hT; clear e102
      rw [e103] at hT; clear e103
      rw [e104] at hT; clear e104
      subst hT
      replace BG := BG.on hbF
      replace BX := BX.on hbF
      replace RX := RX.below hbF
      replace hSX := hSX.below hbF
      have bF2 := bF.trans (hbF.mono bF.size)
      obtain ⟨wI, hwI⟩ : ∃ wI, wI = wF := ⟨_, rfl⟩
      subst hwI
      clear hbF bF
      have cG := BG.cell
      have cX' := BX.cell
      cases M with
      | false =>
        have eX : encX p t a = 1 := by unfold encX; rw [HM0.out]; rfl
        have eR : encR p t x a = [] := by unfold encR; rw [HM0.out]; rfl
        rw [eX, eR]
        clear eX eR hSX hnX
        go_wp2_with fail
        refine (rlmay_any p t x A1 m c1 _ _ a _ RX (by omega)).mono ?_
        rintro e w5 ⟨rfl, hb5⟩
        rw [HM0.out]
        go_wp2_with fail
        refine (lawake_any _).mono ?_
        rintro e w6 ⟨rfl, hb6⟩
        go_wp2_with fail
        go_ret
        exact ⟨rfl, (by (have q_hb6 := Below.size hb6; (try simp at q_hb6); have q_hb5 := Below.size hb5; (try simp at q_hb5); have q_bF2 := Below.size bF2; (try simp at q_bF2); repeat (first | exact Below.refl _ _ | (refine Below.trans ?_ (Below.mono hb6 (by first | omega | (simp; omega) | simp))) | (refine Below.trans ?_ (Below.mono hb5 (by first | omega | (simp; omega) | simp))) | (refine Below.trans ?_ (Below.mono bF2 (by first | omega | (simp; omega) | simp))) | (refine Below.setCell ?_ (by first | omega | (simp; omega) | simp) _) | (refine Below.alloc ?_ (by first | omega | (simp; omega) | simp) _) | apply Below.drew | apply below_drewN)))⟩
      | true =>
        have eX : encX p t a = 0 := by unfold encX; rw [HM0.out]; rfl
        have eR : encR p t x a = encL x a := by unfold encR; rw [HM0.out]; rfl
        obtain ⟨nX, hnX0'⟩ : ∃ nX, (encL x a).length = nX := ⟨_, rfl⟩
        rw [eR, hnX0'] at hSX hnX
        rw [eX, eR, hnX0']
        have hnXm : nX = 1 + m := by rw [← hnX0', encL_len, hma]
        have hmt : (m : Int) ≤ t := by have := (mayLog_true HM0.out).2.2.1; omega
        obtain ⟨_, _, t1, t2⟩ := gmay_true (mayLog_true HM0.out).1
        have HNX := Lib.hid hnXm
        have hnX31 : nX ≤ 31 := by omega
        have HNL := Lib.hid hnX0'
        clear eX eR hnX0 hnX0' hnXm
        go_wp2_with fail
        refine (rlmay_any p t x A1 m c1 _ _ a _ RX (by omega)).mono ?_
        rintro e w5 ⟨rfl, hb5⟩
        rw [HM0.out]
        have cX5 := (BX.on hb5).cell
        go_wp2_with fail
        refine (rlenc_any x A1 m c1 w.heap.size a _ (RX.below hb5) (by have := hb5.size; have := BX.lt; omega) (by omega) hx0 hx1 (key_range HM0.out)).mono ?_
        rintro e w6 ⟨v6, rfl, hO6, hb6⟩
        obtain ⟨AW, cW, rfl, hRW, hnW, hmW⟩ := hO6.rd nX HNL.out
        have hSW := hRW.toSS
        have b56 : Below wI.heap.size wI w6 := hb5.trans (hb6.mono hb5.size)
        replace BG := BG.on b56
        replace BX := BX.on b56
        replace RX := RX.below b56
        replace hSX := hSX.below b56
        have bF3 := bF2.trans (b56.mono bF2.size)
        clear hO6 hRW b56 hb5 hb6 bF2 cG cX' cX5
        go_wp2_with fail
        go_loopw [70] (fun i wr => ∃ k : Nat, k ≤ nX ∧ i = .int .i64 k ∧ Below w6.heap.size w6 wr) (fun i _ => nX - (intOf i).toNat)
        case atStart => exact ⟨0, by omega, rfl, Below.refl _ _⟩
        case round =>
          obtain ⟨k, hk, rfl, hbr⟩ := hrel
          have hbz := hbr.size
          by_cases hlt : k < nX
          · obtain ⟨b1, o1, rfl, hb1', hcX1⟩ := (hSX.below hbr).2 (by omega)
            obtain ⟨b2, o2, rfl, hb2', hcW1⟩ := (hSW.below hbr).2 (by omega)
            obtain ⟨l1, hl1⟩ : ∃ l1, (encL x a)[k]? = some l1 := ⟨_, List.getElem?_eq_getElem (by rw [HNL.out]; omega)⟩
            obtain ⟨Ai1, ci1, hc1, hR1, _, _⟩ := hcX1 k l1 hl1
            obtain ⟨Ai2, ci2, hc2, hR2, _, _⟩ := hcW1 k l1 hl1
            have q1 : (k : Int) < nX := by omega
            clear hcX1 hcW1 hl1
            go_wp2_with fail
            refine wp_flows [(fun y_ _ => y_ = .slice (some ⟨b1, o1, none⟩) nX cX), (fun y_ _ => y_ = .int .i64 (k : Int)), (fun y_ _ => y_ = .pointer (some ⟨b1, o1 + k, none⟩)), (fun y_ _ => y_ = .slice Ai1 l1.length ci1), (fun y_ _ => y_ = .string (str l1)), (fun y_ _ => y_ = .slice (some ⟨b2, o2, none⟩) nX cW), (fun y_ _ => y_ = .int .i64 (k : Int)), (fun y_ _ => y_ = .pointer (some ⟨b2, o2 + k, none⟩)), (fun y_ _ => y_ = .slice Ai2 l1.length ci2), (fun y_ _ => y_ = .string (str l1)), (fun y_ _ => y_ = .bool false)] (by kernel_rfl) ⟨Stab.eq _, Stab.eq _, Stab.eq _, Stab.eq _, Stab.eq _, Stab.eq _, Stab.eq _, Stab.eq _, Stab.eq _, Stab.eq _, Stab.eq _, trivial⟩ (by kernel_rfl) (by rfl) ?_ ?_
            · intro kq hkq
              match kq, hkq with
              | 0, _ =>
                refine StepOk.plain _ 73 rfl rfl rfl [(9, none)] (by kernel_rfl) (fun af wf hbw hf Kf hKf => ?_)
                obtain ⟨g9, _⟩ := hf
                have h9 : af.tmps[9]?.getD undef = .slice (some ⟨b1, o1, none⟩) nX cX := g9
                clear g9
                go_simp
                exact hKf _ _ (Below.refl _ _) rfl
              | 1, _ =>
                refine StepOk.plain _ 74 rfl rfl rfl [(12, none)] (by kernel_rfl) (fun af wf hbw hf Kf hKf => ?_)
                obtain ⟨g12, _⟩ := hf
                have h12 : af.tmps[12]?.getD undef = .int .i64 (k : Int) := g12
                clear g12
                go_simp
                exact hKf _ _ (Below.refl _ _) rfl
              | 2, _ =>
                refine StepOk.plain _ 75 rfl rfl rfl [(73, some 0), (74, some 1)] (by kernel_rfl) (fun af wf hbw hf Kf hKf => ?_)
                obtain ⟨g73, g74, _⟩ := hf
                have h73 : af.tmps[73]?.getD undef = .slice (some ⟨b1, o1, none⟩) nX cX := g73
                have h74 : af.tmps[74]?.getD undef = .int .i64 (k : Int) := g74
                clear g73 g74
                go_simp
                exact hKf _ _ (Below.refl _ _) rfl
              | 3, _ =>
                refine StepOk.plain _ 76 rfl rfl rfl [(75, some 2)] (by kernel_rfl) (fun af wf hbw hf Kf hKf => ?_)
                obtain ⟨g75, _⟩ := hf
                have h75 : af.tmps[75]?.getD undef = .pointer (some ⟨b1, o1 + k, none⟩) := g75
                clear g75
                have hcx := (Below.cell (p := ⟨b1, o1 + k, none⟩) hbw hb1').trans hc1
                go_simp
                exact hKf _ _ (Below.refl _ _) rfl
              | 4, _ =>
                refine StepOk.plain _ 77 rfl rfl rfl [(76, some 3)] (by kernel_rfl) (fun af wf hbw hf Kf hKf => ?_)
                obtain ⟨g76, _⟩ := hf
                have h76 : af.tmps[76]?.getD undef = .slice Ai1 l1.length ci1 := g76
                clear g76
                have hcv := conv ci1 _ (Rd.below (Rd.drew hR1) hbw)
                go_simp
                exact hKf _ _ (Below.refl _ _) rfl
              | 5, _ =>
                refine StepOk.plain _ 78 rfl rfl rfl [(11, none)] (by kernel_rfl) (fun af wf hbw hf Kf hKf => ?_)
                obtain ⟨g11, _⟩ := hf
                have h11 : af.tmps[11]?.getD undef = .slice (some ⟨b2, o2, none⟩) nX cW := g11
                clear g11
                go_simp
                exact hKf _ _ (Below.refl _ _) rfl
              | 6, _ =>
                refine StepOk.plain _ 79 rfl rfl rfl [(12, none)] (by kernel_rfl) (fun af wf hbw hf Kf hKf => ?_)
                obtain ⟨g12, _⟩ := hf
                have h12 : af.tmps[12]?.getD undef = .int .i64 (k : Int) := g12
                clear g12
                go_simp
                exact hKf _ _ (Below.refl _ _) rfl
              | 7, _ =>
                refine StepOk.plain _ 80 rfl rfl rfl [(78, some 5), (79, some 6)] (by kernel_rfl) (fun af wf hbw hf Kf hKf => ?_)
                obtain ⟨g78, g79, _⟩ := hf
                have h78 : af.tmps[78]?.getD undef = .slice (some ⟨b2, o2, none⟩) nX cW := g78
                have h79 : af.tmps[79]?.getD undef = .int .i64 (k : Int) := g79
                clear g78 g79
                go_simp
                exact hKf _ _ (Below.refl _ _) rfl
              | 8, _ =>
                refine StepOk.plain _ 81 rfl rfl rfl [(80, some 7)] (by kernel_rfl) (fun af wf hbw hf Kf hKf => ?_)
                obtain ⟨g80, _⟩ := hf
                have h80 : af.tmps[80]?.getD undef = .pointer (some ⟨b2, o2 + k, none⟩) := g80
                clear g80
                have hcx := (Below.cell (p := ⟨b2, o2 + k, none⟩) hbw hb2').trans hc2
                go_simp
                exact hKf _ _ (Below.refl _ _) rfl
              | 9, _ =>
                refine StepOk.plain _ 82 rfl rfl rfl [(81, some 8)] (by kernel_rfl) (fun af wf hbw hf Kf hKf => ?_)
                obtain ⟨g81, _⟩ := hf
                have h81 : af.tmps[81]?.getD undef = .slice Ai2 l1.length ci2 := g81
                clear g81
                have hcv := conv ci2 _ (Rd.below (Rd.drew hR2) hbw)
                go_simp
                exact hKf _ _ (Below.refl _ _) rfl
              | 10, _ =>
                refine StepOk.plain _ 83 rfl rfl rfl [(77, some 4), (82, some 9)] (by kernel_rfl) (fun af wf hbw hf Kf hKf => ?_)
                obtain ⟨g77, g82, _⟩ := hf
                have h77 : af.tmps[77]?.getD undef = .string (str l1) := g77
                have h82 : af.tmps[82]?.getD undef = .string (str l1) := g82
                clear g77 g82
                go_simp
                exact hKf _ _ (Below.refl _ _) rfl
              | i + 11, h => exact absurd h (by show ¬ (i + 11 < 11); omega)
            · intro af wF hbF hdF hsF hbaseF hfactF
              obtain ⟨T, dsF⟩ := af
              obtain rfl : dsF = _ := hdF
              have e0 := hbaseF 0 (not_dst (by kernel_rfl))
              simp only [List.getElem?_toArray, List.getElem?_cons_zero, Option.getD_some] at e0
              have e1 := hbaseF 1 (not_dst (by kernel_rfl))
              simp only [List.getElem?_toArray, List.getElem?_cons_zero, List.getElem?_cons_succ, Option.getD_some] at e1
              have e2 := hbaseF 2 (not_dst (by kernel_rfl))
              simp only [List.getElem?_toArray, List.getElem?_cons_zero, List.getElem?_cons_succ, Option.getD_some] at e2
              have e3 := hbaseF 3 (not_dst (by kernel_rfl))
              simp only [List.getElem?_toArray, List.getElem?_cons_zero, List.getElem?_cons_succ, Option.getD_some] at e3
              have e4 := hbaseF 4 (not_dst (by kernel_rfl))
              simp only [List.getElem?_toArray, List.getElem?_cons_zero, List.getElem?_cons_succ, Option.getD_some] at e4
              have e5 := hbaseF 5 (not_dst (by kernel_rfl))
              simp only [List.getElem?_toArray, List.getElem?_cons_zero, List.getElem?_cons_succ, Option.getD_some] at e5
              have e6 := hbaseF 6 (not_dst (by kernel_rfl))
              simp only [List.getElem?_toArray, List.getElem?_cons_zero, List.getElem?_cons_succ, Option.getD_some] at e6
              have e7 := hbaseF 7 (not_dst (by kernel_rfl))
              simp only [List.getElem?_toArray, List.getElem?_cons_zero, List.getElem?_cons_succ, Option.getD_some] at e7
              have e8 := hbaseF 8 (not_dst (by kernel_rfl))
              simp only [List.getElem?_toArray, List.getElem?_cons_zero, List.getElem?_cons_succ, Option.getD_some] at e8
              have e9 := hbaseF 9 (not_dst (by kernel_rfl))
              simp only [List.getElem?_toArray, List.getElem?_cons_zero, List.getElem?_cons_succ, Option.getD_some] at e9
              have e10 := hbaseF 10 (not_dst (by kernel_rfl))
              simp only [List.getElem?_toArray, List.getElem?_cons_zero, List.getElem?_cons_succ, Option.getD_some] at e10
              have e11 := hbaseF 11 (not_dst (by kernel_rfl))
              simp only [List.getElem?_toArray, List.getElem?_cons_zero, List.getElem?_cons_succ, Option.getD_some] at e11
              have e12 := hbaseF 12 (not_dst (by kernel_rfl))
              simp only [List.getElem?_toArray, List.getElem?_cons_zero, List.getElem?_cons_succ, Option.getD_some] at e12
              have e13 := hbaseF 13 (not_dst (by kernel_rfl))
              simp only [List.getElem?_toArray, List.getElem?_cons_zero, List.getElem?_cons_succ, Option.getD_some] at e13
              have e14 := hbaseF 14 (not_dst (by kernel_rfl))
              simp only [List.getElem?_toArray, List.getElem?_cons_zero, List.getElem?_cons_succ, Option.getD_some] at e14
              have e15 := hbaseF 15 (not_dst (by kernel_rfl))
              simp only [List.getElem?_toArray, List.getElem?_cons_zero, List.getElem?_cons_succ, Option.getD_some] at e15
              have e16 := hbaseF 16 (not_dst (by kernel_rfl))
              simp only [List.getElem?_toArray, List.getElem?_cons_zero, List.getElem?_cons_succ, Option.getD_some] at e16
              have e17 := hbaseF 17 (not_dst (by kernel_rfl))
              simp only [List.getElem?_toArray, List.getElem?_cons_zero, List.getElem?_cons_succ, Option.getD_some] at e17
              have e18 := hbaseF 18 (not_dst (by kernel_rfl))
              simp only [List.getElem?_toArray, List.getElem?_cons_zero, List.getElem?_cons_succ, Option.getD_some] at e18
              have e19 := hbaseF 19 (not_dst (by kernel_rfl))
              simp only [List.getElem?_toArray, List.getElem?_cons_zero, List.getElem?_cons_succ, Option.getD_some] at e19
              have e20 := hbaseF 20 (not_dst (by kernel_rfl))
              simp only [List.getElem?_toArray, List.getElem?_cons_zero, List.getElem?_cons_succ, Option.getD_some] at e20
              have e21 := hbaseF 21 (not_dst (by kernel_rfl))
              simp only [List.getElem?_toArray, List.getElem?_cons_zero, List.getElem?_cons_succ, Option.getD_some] at e21
              have e22 := hbaseF 22 (not_dst (by kernel_rfl))
              simp only [List.getElem?_toArray, List.getElem?_cons_zero, List.getElem?_cons_succ, Option.getD_some] at e22
              have e23 := hbaseF 23 (not_dst (by kernel_rfl))
              simp only [List.getElem?_toArray, List.getElem?_cons_zero, List.getElem?_cons_succ, Option.getD_some] at e23
              have e24 := hbaseF 24 (not_dst (by kernel_rfl))
              simp only [List.getElem?_toArray, List.getElem?_cons_zero, List.getElem?_cons_succ, Option.getD_some] at e24
              have e25 := hbaseF 25 (not_dst (by kernel_rfl))
              simp only [List.getElem?_toArray, List.getElem?_cons_zero, List.getElem?_cons_succ, Option.getD_some] at e25
              have e26 := hbaseF 26 (not_dst (by kernel_rfl))
              simp only [List.getElem?_toArray, List.getElem?_cons_zero, List.getElem?_cons_succ, Option.getD_some] at e26
              have e27 := hbaseF 27 (not_dst (by kernel_rfl))
              simp only [List.getElem?_toArray, List.getElem?_cons_zero, List.getElem?_cons_succ, Option.getD_some] at e27
              have e28 := hbaseF 28 (not_dst (by kernel_rfl))
              simp only [List.getElem?_toArray, List.getElem?_cons_zero, List.getElem?_cons_succ, Option.getD_some] at e28
              have e29 := hbaseF 29 (not_dst (by kernel_rfl))
              simp only [List.getElem?_toArray, List.getElem?_cons_zero, List.getElem?_cons_succ, Option.getD_some] at e29
              have e30 := hbaseF 30 (not_dst (by kernel_rfl))
              simp only [List.getElem?_toArray, List.getElem?_cons_zero, List.getElem?_cons_succ, Option.getD_some] at e30
              have e31 := hbaseF 31 (not_dst (by kernel_rfl))
              simp only [List.getElem?_toArray, List.getElem?_cons_zero, List.getElem?_cons_succ, Option.getD_some] at e31
              have e32 := hbaseF 32 (not_dst (by kernel_rfl))
              simp only [List.getElem?_toArray, List.getElem?_cons_zero, List.getElem?_cons_succ, Option.getD_some] at e32
              have e33 := hbaseF 33 (not_dst (by kernel_rfl))
              simp only [List.getElem?_toArray, List.getElem?_cons_zero, List.getElem?_cons_succ, Option.getD_some] at e33
              have e34 := hbaseF 34 (not_dst (by kernel_rfl))
              simp only [List.getElem?_toArray, List.getElem?_cons_zero, List.getElem?_cons_succ, Option.getD_some] at e34
              have e35 := hbaseF 35 (not_dst (by kernel_rfl))
              simp only [List.getElem?_toArray, List.getElem?_cons_zero, List.getElem?_cons_succ, Option.getD_some] at e35
              have e36 := hbaseF 36 (not_dst (by kernel_rfl))
              simp only [List.getElem?_toArray, List.getElem?_cons_zero, List.getElem?_cons_succ, Option.getD_some] at e36
              have e37 := hbaseF 37 (not_dst (by kernel_rfl))
              simp only [List.getElem?_toArray, List.getElem?_cons_zero, List.getElem?_cons_succ, Option.getD_some] at e37
              have e38 := hbaseF 38 (not_dst (by kernel_rfl))
              simp only [List.getElem?_toArray, List.getElem?_cons_zero, List.getElem?_cons_succ, Option.getD_some] at e38
              have e39 := hbaseF 39 (not_dst (by kernel_rfl))
              simp only [List.getElem?_toArray, List.getElem?_cons_zero, List.getElem?_cons_succ, Option.getD_some] at e39
              have e40 := hbaseF 40 (not_dst (by kernel_rfl))
              simp only [List.getElem?_toArray, List.getElem?_cons_zero, List.getElem?_cons_succ, Option.getD_some] at e40
              have e41 := hbaseF 41 (not_dst (by kernel_rfl))
              simp only [List.getElem?_toArray, List.getElem?_cons_zero, List.getElem?_cons_succ, Option.getD_some] at e41
              have e42 := hbaseF 42 (not_dst (by kernel_rfl))
              simp only [List.getElem?_toArray, List.getElem?_cons_zero, List.getElem?_cons_succ, Option.getD_some] at e42
              have e43 := hbaseF 43 (not_dst (by kernel_rfl))
              simp only [List.getElem?_toArray, List.getElem?_cons_zero, List.getElem?_cons_succ, Option.getD_some] at e43
              have e44 := hbaseF 44 (not_dst (by kernel_rfl))
              simp only [List.getElem?_toArray, List.getElem?_cons_zero, List.getElem?_cons_succ, Option.getD_some] at e44
              have e45 := hbaseF 45 (not_dst (by kernel_rfl))
              simp only [List.getElem?_toArray, List.getElem?_cons_zero, List.getElem?_cons_succ, Option.getD_some] at e45
              have e46 := hbaseF 46 (not_dst (by kernel_rfl))
              simp only [List.getElem?_toArray, List.getElem?_cons_zero, List.getElem?_cons_succ, Option.getD_some] at e46
              have e47 := hbaseF 47 (not_dst (by kernel_rfl))
              simp only [List.getElem?_toArray, List.getElem?_cons_zero, List.getElem?_cons_succ, Option.getD_some] at e47
              have e48 := hbaseF 48 (not_dst (by kernel_rfl))
              simp only [List.getElem?_toArray, List.getElem?_cons_zero, List.getElem?_cons_succ, Option.getD_some] at e48
              have e49 := hbaseF 49 (not_dst (by kernel_rfl))
              simp only [List.getElem?_toArray, List.getElem?_cons_zero, List.getElem?_cons_succ, Option.getD_some] at e49
              have e50 := hbaseF 50 (not_dst (by kernel_rfl))
              simp only [List.getElem?_toArray, List.getElem?_cons_zero, List.getElem?_cons_succ, Option.getD_some] at e50
              have e51 := hbaseF 51 (not_dst (by kernel_rfl))
              simp only [List.getElem?_toArray, List.getElem?_cons_zero, List.getElem?_cons_succ, Option.getD_some] at e51
              have e52 := hbaseF 52 (not_dst (by kernel_rfl))
              simp only [List.getElem?_toArray, List.getElem?_cons_zero, List.getElem?_cons_succ, Option.getD_some] at e52
              have e53 := hbaseF 53 (not_dst (by kernel_rfl))
              simp only [List.getElem?_toArray, List.getElem?_cons_zero, List.getElem?_cons_succ, Option.getD_some] at e53
              have e54 := hbaseF 54 (not_dst (by kernel_rfl))
              simp only [List.getElem?_toArray, List.getElem?_cons_zero, List.getElem?_cons_succ, Option.getD_some] at e54
              have e55 := hbaseF 55 (not_dst (by kernel_rfl))
              simp only [List.getElem?_toArray, List.getElem?_cons_zero, List.getElem?_cons_succ, Option.getD_some] at e55
              have e56 := hbaseF 56 (not_dst (by kernel_rfl))
              simp only [List.getElem?_toArray, List.getElem?_cons_zero, List.getElem?_cons_succ, Option.getD_some] at e56
              have e57 := hbaseF 57 (not_dst (by kernel_rfl))
              simp only [List.getElem?_toArray, List.getElem?_cons_zero, List.getElem?_cons_succ, Option.getD_some] at e57
              have e58 := hbaseF 58 (not_dst (by kernel_rfl))
              simp only [List.getElem?_toArray, List.getElem?_cons_zero, List.getElem?_cons_succ, Option.getD_some] at e58
              have e59 := hbaseF 59 (not_dst (by kernel_rfl))
              simp only [List.getElem?_toArray, List.getElem?_cons_zero, List.getElem?_cons_succ, Option.getD_some] at e59
              have e60 := hbaseF 60 (not_dst (by kernel_rfl))
              simp only [List.getElem?_toArray, List.getElem?_cons_zero, List.getElem?_cons_succ, Option.getD_some] at e60
              have e61 := hbaseF 61 (not_dst (by kernel_rfl))
              simp only [List.getElem?_toArray, List.getElem?_cons_zero, List.getElem?_cons_succ, Option.getD_some] at e61
              have e62 := hbaseF 62 (not_dst (by kernel_rfl))
              simp only [List.getElem?_toArray, List.getElem?_cons_zero, List.getElem?_cons_succ, Option.getD_some] at e62
              have e63 := hbaseF 63 (not_dst (by kernel_rfl))
              simp only [List.getElem?_toArray, List.getElem?_cons_zero, List.getElem?_cons_succ, Option.getD_some] at e63
              have e64 := hbaseF 64 (not_dst (by kernel_rfl))
              simp only [List.getElem?_toArray, List.getElem?_cons_zero, List.getElem?_cons_succ, Option.getD_some] at e64
              have e65 := hbaseF 65 (not_dst (by kernel_rfl))
              simp only [List.getElem?_toArray, List.getElem?_cons_zero, List.getElem?_cons_succ, Option.getD_some] at e65
              have e66 := hbaseF 66 (not_dst (by kernel_rfl))
              simp only [List.getElem?_toArray, List.getElem?_cons_zero, List.getElem?_cons_succ, Option.getD_some] at e66
              have e67 := hbaseF 67 (not_dst (by kernel_rfl))
              simp only [List.getElem?_toArray, List.getElem?_cons_zero, List.getElem?_cons_succ, Option.getD_some] at e67
              have e68 := hbaseF 68 (not_dst (by kernel_rfl))
              simp only [List.getElem?_toArray, List.getElem?_cons_zero, List.getElem?_cons_succ, Option.getD_some] at e68
              have e69 := hbaseF 69 (not_dst (by kernel_rfl))
              simp only [List.getElem?_toArray, List.getElem?_cons_zero, List.getElem?_cons_succ, Option.getD_some] at e69
              have e70 := hbaseF 70 (not_dst (by kernel_rfl))
              simp only [List.getElem?_toArray, List.getElem?_cons_zero, List.getElem?_cons_succ, Option.getD_some] at e70
              have e71 := hbaseF 71 (not_dst (by kernel_rfl))
              simp only [List.getElem?_toArray, List.getElem?_cons_zero, List.getElem?_cons_succ, Option.getD_some] at e71
              have e72 := hbaseF 72 (not_dst (by kernel_rfl))
              simp only [List.getElem?_toArray, List.getElem?_cons_zero, List.getElem?_cons_succ, Option.getD_some] at e72
              have e84 := hbaseF 84 (not_dst (by kernel_rfl))
              simp only [List.getElem?_toArray, List.getElem?_cons_zero, List.getElem?_cons_succ, Option.getD_some] at e84
              have e85 := hbaseF 85 (not_dst (by kernel_rfl))
              simp only [List.getElem?_toArray, List.getElem?_cons_zero, List.getElem?_cons_succ, Option.getD_some] at e85
              have e86 := hbaseF 86 (not_dst (by kernel_rfl))
              simp only [List.getElem?_toArray, List.getElem?_cons_zero, List.getElem?_cons_succ, Option.getD_some] at e86
              have e87 := hbaseF 87 (not_dst (by kernel_rfl))
              simp only [List.getElem?_toArray, List.getElem?_cons_zero, List.getElem?_cons_succ, Option.getD_some] at e87
              have e88 := hbaseF 88 (not_dst (by kernel_rfl))
              simp only [List.getElem?_toArray, List.getElem?_cons_zero, List.getElem?_cons_succ, Option.getD_some] at e88
              have e89 := hbaseF 89 (not_dst (by kernel_rfl))
              simp only [List.getElem?_toArray, List.getElem?_cons_zero, List.getElem?_cons_succ, Option.getD_some] at e89
              have e90 := hbaseF 90 (not_dst (by kernel_rfl))
              simp only [List.getElem?_toArray, List.getElem?_cons_zero, List.getElem?_cons_succ, Option.getD_some] at e90
              have e91 := hbaseF 91 (not_dst (by kernel_rfl))
              simp only [List.getElem?_toArray, List.getElem?_cons_zero, List.getElem?_cons_succ, Option.getD_some] at e91
              have e92 := hbaseF 92 (not_dst (by kernel_rfl))
              simp only [List.getElem?_toArray, List.getElem?_cons_zero, List.getElem?_cons_succ, Option.getD_some] at e92
              have e93 := hbaseF 93 (not_dst (by kernel_rfl))
              simp only [List.getElem?_toArray, List.getElem?_cons_zero, List.getElem?_cons_succ, Option.getD_some] at e93
              have e94 := hbaseF 94 (not_dst (by kernel_rfl))
              simp only [List.getElem?_toArray, List.getElem?_cons_zero, List.getElem?_cons_succ, Option.getD_some] at e94
              have e95 := hbaseF 95 (not_dst (by kernel_rfl))
              simp only [List.getElem?_toArray, List.getElem?_cons_zero, List.getElem?_cons_succ, Option.getD_some] at e95
              have e96 := hbaseF 96 (not_dst (by kernel_rfl))
              simp only [List.getElem?_toArray, List.getElem?_cons_zero, List.getElem?_cons_succ, Option.getD_some] at e96
              have e97 := hbaseF 97 (not_dst (by kernel_rfl))
              simp only [List.getElem?_toArray, List.getElem?_cons_zero, List.getElem?_cons_succ, Option.getD_some] at e97
              have e98 := hbaseF 98 (not_dst (by kernel_rfl))
              simp only [List.getElem?_toArray, List.getElem?_cons_zero, List.getElem?_cons_succ, Option.getD_some] at e98
              have e99 := hbaseF 99 (not_dst (by kernel_rfl))
              simp only [List.getElem?_toArray, List.getElem?_cons_zero, List.getElem?_cons_succ, Option.getD_some] at e99
              have e100 := hbaseF 100 (not_dst (by kernel_rfl))
              simp only [List.getElem?_toArray, List.getElem?_cons_zero, List.getElem?_cons_succ, Option.getD_some] at e100
              have e101 := hbaseF 101 (not_dst (by kernel_rfl))
              simp only [List.getElem?_toArray, List.getElem?_cons_zero, List.getElem?_cons_succ, Option.getD_some] at e101
              have e102 := hbaseF 102 (not_dst (by kernel_rfl))
              simp only [List.getElem?_toArray, List.getElem?_cons_zero, List.getElem?_cons_succ, Option.getD_some] at e102
              have e103 := hbaseF 103 (not_dst (by kernel_rfl))
              simp only [List.getElem?_toArray, List.getElem?_cons_zero, List.getElem?_cons_succ, Option.getD_some] at e103
              have e104 := hbaseF 104 (not_dst (by kernel_rfl))
              simp only [List.getElem?_toArray, List.getElem?_cons_zero, List.getElem?_cons_succ, Option.getD_some] at e104
              have e83 := hfactF 10 83 (by decide) rfl
              replace e83 : T[83]?.getD undef = .bool false := e83
              clear hbaseF hfactF
              have hT : T = #[T[0]?.getD undef, T[1]?.getD undef, T[2]?.getD undef, T[3]?.getD undef, T[4]?.getD undef, T[5]?.getD undef, T[6]?.getD undef, T[7]?.getD undef, T[8]?.getD undef, T[9]?.getD undef, T[10]?.getD undef, T[11]?.getD undef, T[12]?.getD undef, T[13]?.getD undef, T[14]?.getD undef, T[15]?.getD undef, T[16]?.getD undef, T[17]?.getD undef, T[18]?.getD undef, T[19]?.getD undef, T[20]?.getD undef, T[21]?.getD undef, T[22]?.getD undef, T[23]?.getD undef, T[24]?.getD undef, T[25]?.getD undef, T[26]?.getD undef, T[27]?.getD undef, T[28]?.getD undef, T[29]?.getD undef, T[30]?.getD undef, T[31]?.getD undef, T[32]?.getD undef, T[33]?.getD undef, T[34]?.getD undef, T[35]?.getD undef, T[36]?.getD undef, T[37]?.getD undef, T[38]?.getD undef, T[39]?.getD undef, T[40]?.getD undef, T[41]?.getD undef, T[42]?.getD undef, T[43]?.getD undef, T[44]?.getD undef, T[45]?.getD undef, T[46]?.getD undef, T[47]?.getD undef, T[48]?.getD undef, T[49]?.getD undef, T[50]?.getD undef, T[51]?.getD undef, T[52]?.getD undef, T[53]?.getD undef, T[54]?.getD undef, T[55]?.getD undef, T[56]?.getD undef, T[57]?.getD undef, T[58]?.getD undef, T[59]?.getD undef, T[60]?.getD undef, T[61]?.getD undef, T[62]?.getD undef, T[63]?.getD undef, T[64]?.getD undef, T[65]?.getD undef, T[66]?.getD undef, T[67]?.getD undef, T[68]?.getD undef, T[69]?.getD undef, T[70]?.getD undef, T[71]?.getD undef, T[72]?.getD undef, T[73]?.getD undef, T[74]?.getD undef, T[75]?.getD undef, T[76]?.getD undef, T[77]?.getD undef, T[78]?.getD undef, T[79]?.getD undef, T[80]?.getD undef, T[81]?.getD undef, T[82]?.getD undef, T[83]?.getD undef, T[84]?.getD undef, T[85]?.getD undef, T[86]?.getD undef, T[87]?.getD undef, T[88]?.getD undef, T[89]?.getD undef, T[90]?.getD undef, T[91]?.getD undef, T[92]?.getD undef, T[93]?.getD undef, T[94]?.getD undef, T[95]?.getD undef, T[96]?.getD undef, T[97]?.getD undef, T[98]?.getD undef, T[99]?.getD undef, T[100]?.getD undef, T[101]?.getD undef, T[102]?.getD undef, T[103]?.getD undef, T[104]?.getD undef] := arr_eq T 105 hsF
              clear hsF
              rw [e0] at hT; clear e0
              rw [e1] at hT; clear e1
              rw [e2] at hT; clear e2
              rw [e3] at hT; clear e3
              rw [e4] at hT; clear e4
              rw [e5] at hT; clear e5
              rw [e6] at hT; clear e6
              rw [e7] at hT; clear e7
              rw [e8] at hT; clear e8
              rw [e9] at hT; clear e9
              rw [e10] at hT; clear e10
              rw [e11] at hT; clear e11
              rw [e12] at hT; clear e12
              rw [e13] at hT; clear e13
              rw [e14] at hT; clear e14
              rw [e15] at hT; clear e15
              rw [e16] at hT; clear e16
              rw [e17] at hT; clear e17
              rw [e18] at hT; clear e18
              rw [e19] at hT; clear e19
              rw [e20] at hT; clear e20
              rw [e21] at hT; clear e21
              rw [e22] at hT; clear e22
              rw [e23] at hT; clear e23
              rw [e24] at hT; clear e24
              rw [e25] at hT; clear e25
              rw [e26] at hT; clear e26
              rw [e27] at hT; clear e27
              rw [e28] at hT; clear e28
              rw [e29] at hT; clear e29
              rw [e30] at hT; clear e30
              rw [e31] at hT; clear e31
              rw [e32] at hT; clear e32
              rw [e33] at hT; clear e33
              rw [e34] at hT; clear e34
              rw [e35] at hT; clear e35
              rw [e36] at hT; clear e36
              rw [e37] at hT; clear e37
              rw [e38] at hT; clear e38
              rw [e39] at hT; clear e39
              rw [e40] at hT; clear e40
              rw [e41] at hT; clear e41
              rw [e42] at hT; clear e42
              rw [e43] at hT; clear e43
              rw [e44] at hT; clear e44
              rw [e45] at hT; clear e45
              rw [e46] at hT; clear e46
              rw [e47] at hT; clear e47
              rw [e48] at hT; clear e48
              rw [e49] at hT; clear e49
              rw [e50] at hT; clear e50
              rw [e51] at hT; clear e51
              rw [e52] at hT; clear e52
              rw [e53] at hT; clear e53
              rw [e54] at hT; clear e54
              rw [e55] at hT; clear e55
              rw [e56] at hT; clear e56
              rw [e57] at hT; clear e57
              rw [e58] at hT; clear e58
              rw [e59] at hT; clear e59
              rw [e60] at hT; clear e60
              rw [e61] at hT; clear e61
              rw [e62] at hT; clear e62
              rw [e63] at hT; clear e63
              rw [e64] at hT; clear e64
              rw [e65] at hT; clear e65
              rw [e66] at hT; clear e66
              rw [e67] at hT; clear e67
              rw [e68] at hT; clear e68
              rw [e69] at hT; clear e69
              rw [e70] at hT; clear e70
              rw [e71] at hT; clear e71
              rw [e72] at hT; clear e72
              generalize T[73]?.getD undef = u73 at hT
              generalize T[74]?.getD undef = u74 at hT
              generalize T[75]?.getD undef = u75 at hT
              generalize T[76]?.getD undef = u76 at hT
              generalize T[77]?.getD undef = u77 at hT
              generalize T[78]?.getD undef = u78 at hT
              generalize T[79]?.getD undef = u79 at hT
              generalize T[80]?.getD undef = u80 at hT
              generalize T[81]?.getD undef = u81 at hT
              generalize T[82]?.getD undef = u82 at hT
              rw [e83] at hT; clear e83
              rw [e84] at hT; clear e84
              rw [e85] at hT; clear e85
              rw [e86] at hT; clear e86
              rw [e87] at hT; clear e87
              rw [e88] at hT; clear e88
              rw [e89] at hT; clear e89
              rw [e90] at hT; clear e90
              rw [e91] at hT; clear e91
              rw [e92] at hT; clear e92
              rw [e93] at hT; clear e93
              rw [e94] at hT; clear e94
              rw [e95] at hT; clear e95
              rw [e96] at hT; clear e96
              rw [e97] at hT; clear e97
              rw [e98] at hT; clear e98
              rw [e99] at hT; clear e99
              rw [e100] at hT; clear e100
              rw [e101] at hT; clear e101
              rw [e102] at hT; clear e102
              rw [e103] at hT; clear e103
              rw [e104] at hT; clear e104
              subst hT
              go_wp2_with fail
              go_roundw
              case rel => exact ⟨k + 1, by omega, by go_num, hbr.trans (hbF.mono hbz)⟩
              case measure => simp [intOf] <;> omega
          · obtain rfl : k = nX := by omega
            replace BG := BG.on hbr
            replace BX := BX.on hbr
            replace RX := RX.below hbr
            replace hSX := hSX.below hbr
            have bH := bF3.trans (hbr.mono bF3.size)
            obtain ⟨wH, hwH⟩ : ∃ wH, wH = wr := ⟨_, rfl⟩
            subst hwH
            have hBR := hSX.toR 5
            obtain ⟨FL, hFL⟩ : ∃ FL, FL = List.replicate ((1 + t).toNat - k) (fullL [cc]) := ⟨_, rfl⟩
            have HFL := Lib.hid hFL
            have HFL256 := Lib.hid (show ∀ l ∈ FL, l.length = 256 by intro l hl; rw [hFL] at hl; rw [List.eq_of_mem_replicate hl, fullL_len])
            obtain ⟨nF, hnF⟩ : ∃ nF : Nat, (nF : Int) = 1 + t := ⟨(1 + t).toNat, by omega⟩
            have HNF := Lib.hid hnF
            have HLF := Lib.hid (show (encL x a ++ FL).length = nF by
              rw [List.length_append, HNL.out, hFL, List.length_replicate]
              have := HNX.out
              omega)
            have HM := HM0
            have hk31 : k ≤ 31 := by have := HNX.out; omega
            have hkt : (k : Int) ≤ 1 + t := by have := HNX.out; omega
            clear hbr hSX hFL hnF hSW
            have hq1 : ¬ ((k : Int) < k) := by omega
            go_wp2_with fail
            refine wp_flz [(fun y_ _ => y_ = .agg #[.int .i64 p, .int .i64 t]), (fun y_ _ => y_ = .agg #[.int .i64 p, .int .i64 t]), (fun y_ _ => y_ = .slice AX k cX), (fun y_ _ => y_ = .int .u8 (cc.toNat : Int)), IsO ssK 39 wH.heap.size wH.heap.size 5 (fun v => v) (encL x a ++ FL), IsO entK 102 wH.heap.size 0 5 (fun s => .tuple #[.agg #[.int .u64 x, s], .int .i64 0]) a, IsO entK 102 wH.heap.size 0 5 (fun s => .tuple #[.agg #[.int .u64 x, s], .int .i64 0]) a, IsO entK 102 wH.heap.size 0 5 (fun s => .agg #[.int .u64 x, s]) a, (fun y_ _ => y_ = .int .i64 0), (fun _ _ => True), (fun _ _ => True), (fun y_ _ => y_ = .int .i64 0)] (PKept wH.heap.size (OfT 56)) (BoxZ wH.heap.size 56 #[.int .u64 0, .slice none 0 0] (.int .u64 x) (fun u W => OwnR entK 102 wH.heap.size 0 5 W u a)) [9, 10] (by kernel_rfl) (PKept.rel _ _) ⟨StabK.eq _ _, StabK.eq _ _, StabK.eq _ _, StabK.eq _ _, IsO.stab _ _ _ _ _ _ _ (Nat.le_refl _) (ofT_not (by decide)) (ofT_not (by decide)), IsO.stab _ _ _ _ _ _ _ (Nat.zero_le _) (ofT_not (by decide)) (ofT_not (by decide)), IsO.stab _ _ _ _ _ _ _ (Nat.zero_le _) (ofT_not (by decide)) (ofT_not (by decide)), IsO.stab _ _ _ _ _ _ _ (Nat.zero_le _) (ofT_not (by decide)) (ofT_not (by decide)), StabK.eq _ _, StabK.any _, StabK.any _, StabK.eq _ _, trivial⟩ (BoxZ.stab (fun _ _ _ hb h => OwnR.below h hb)) (trivial) (by kernel_rfl) (by kernel_rfl) (by kernel_rfl) (by rfl) ?_ ?_
            · intro kq hkq
              match kq, hkq with
              | 0, _ =>
                refine StepZ.plain _ rfl rfl rfl [(4, none)] (by kernel_rfl) (fun af wf hbw hz hf Kf hKf => ?_)
                obtain ⟨g4, _⟩ := hf
                have h4 : af.tmps[4]?.getD undef = .pointer (some ⟨w.heap.size, 0, none⟩) := g4
                clear g4
                have cB9 := (BG.drew.on (hbw.toBelow (Nat.le_refl _))).cell
                go_simp
                exact hKf _ _ (Below.refl _ _) rfl
              | 1, _ =>
                refine StepZ.plain _ rfl rfl rfl [(4, none)] (by kernel_rfl) (fun af wf hbw hz hf Kf hKf => ?_)
                obtain ⟨g4, _⟩ := hf
                have h4 : af.tmps[4]?.getD undef = .pointer (some ⟨w.heap.size, 0, none⟩) := g4
                clear g4
                have cB9 := (BG.drew.on (hbw.toBelow (Nat.le_refl _))).cell
                go_simp
                exact hKf _ _ (Below.refl _ _) rfl
              | 2, _ =>
                refine StepZ.plain _ rfl rfl rfl [(9, none)] (by kernel_rfl) (fun af wf hbw hz hf Kf hKf => ?_)
                obtain ⟨g9, _⟩ := hf
                have h9 : af.tmps[9]?.getD undef = .slice AX k cX := g9
                clear g9
                go_simp
                exact hKf _ _ (Below.refl _ _) rfl
              | 3, _ =>
                refine StepZ.plain _ rfl rfl rfl [(3, none)] (by kernel_rfl) (fun af wf hbw hz hf Kf hKf => ?_)
                obtain ⟨g3, _⟩ := hf
                have h3 : af.tmps[3]?.getD undef = .int .u8 (cc.toNat : Int) := g3
                clear g3
                go_simp
                exact hKf _ _ (Below.refl _ _) rfl
              | 4, _ =>
                refine StepZ.plain _ rfl rfl rfl [(87, some 1), (88, some 2), (89, some 3)] (by kernel_rfl) (fun af wf hbw hz hf Kf hKf => ?_)
                obtain ⟨g87, g88, g89, _⟩ := hf
                have h87 : af.tmps[87]?.getD undef = .agg #[.int .i64 p, .int .i64 t] := g87
                have h88 : af.tmps[88]?.getD undef = .slice AX k cX := g88
                have h89 : af.tmps[89]?.getD undef = .int .u8 (cc.toNat : Int) := g89
                clear g87 g88 g89
                go_simp
                refine (filled_any p t AX k cX wH.heap.size (encL x a) cc _ (hBR.drew.below (hbw.toBelow (Nat.le_refl _))) hbw.size (by omega) (by omega) (by omega)).mono ?_
                rintro e wN ⟨v4, rfl, hO4, hb4⟩
                exact hKf _ _ (hb4) (⟨v4, rfl, by rw [HFL.out]; exact hO4.from_ hbw.size⟩)
              | 5, _ =>
                refine StepZ.plain _ rfl rfl rfl [(86, some 0), (90, some 4)] (by kernel_rfl) (fun af wf hbw hz hf Kf hKf => ?_)
                obtain ⟨g86, g90, _⟩ := hf
                have h86 : af.tmps[86]?.getD undef = .agg #[.int .i64 p, .int .i64 t] := g86
                have g90 : IsO ssK 39 wH.heap.size wH.heap.size 5 (fun v => v) (encL x a ++ FL) (af.tmps[90]?.getD undef) wf := g90
                obtain ⟨v90, h90, hO90⟩ := g90
                clear g86
                obtain ⟨A90, c90, hv90, hR90, _, _⟩ := hO90.rd nF HLF.out
                subst hv90
                go_simp
                refine (lparse_back p t x A90 nF c90 a FL _ hR90.toSS HM.out HNF.out (by omega) hx0 hx1 HFL256.out).mono ?_
                rintro e wN ⟨v5, rfl, hO5, hb5⟩
                exact hKf _ _ (hb5) (⟨v5, rfl, hO5.from_ hbw.size⟩)
              | 6, _ =>
                refine StepZ.plain _ rfl rfl rfl [(91, some 5)] (by kernel_rfl) (fun af wf hbw hz hf Kf hKf => ?_)
                obtain ⟨g91, _⟩ := hf
                have g91 : IsO entK 102 wH.heap.size 0 5 (fun s => .tuple #[.agg #[.int .u64 x, s], .int .i64 0]) a (af.tmps[91]?.getD undef) wf := g91
                obtain ⟨v91, h91, hO91⟩ := g91
                go_simp
                exact hKf _ _ (Below.refl _ _) (⟨v91, rfl, hO91⟩)
              | 7, _ =>
                refine StepZ.plain _ rfl rfl rfl [(85, some 6)] (by kernel_rfl) (fun af wf hbw hz hf Kf hKf => ?_)
                obtain ⟨g85, _⟩ := hf
                have g85 : IsO entK 102 wH.heap.size 0 5 (fun s => .tuple #[.agg #[.int .u64 x, s], .int .i64 0]) a (af.tmps[85]?.getD undef) wf := g85
                obtain ⟨v85, h85, hO85⟩ := g85
                go_simp
                exact hKf _ _ (Below.refl _ _) (⟨v85, rfl, hO85⟩)
              | 8, _ =>
                refine StepZ.plain _ rfl rfl rfl [(85, some 6)] (by kernel_rfl) (fun af wf hbw hz hf Kf hKf => ?_)
                obtain ⟨g85, _⟩ := hf
                have g85 : IsO entK 102 wH.heap.size 0 5 (fun s => .tuple #[.agg #[.int .u64 x, s], .int .i64 0]) a (af.tmps[85]?.getD undef) wf := g85
                obtain ⟨v85, h85, hO85⟩ := g85
                go_simp
                exact hKf _ _ (Below.refl _ _) rfl
              | 9, _ =>
                refine StepZ.chain 0 _ rfl rfl rfl [] (by kernel_rfl) (fun af wf us hbw hul hiv hlast hf Kf hKf => ?_)
                obtain rfl : us = [] := List.eq_nil_of_length_eq_zero hul
                go_simp
                exact hKf _ _ ((PKept.rel _ _).below _ _ ((Below.refl _ _).alloc (Nat.le_refl _) _)) (⟨_, rfl, hbw.size, Blk.new _ _ _⟩) (trivial)
              | 10, _ =>
                refine StepZ.chain 1 _ rfl rfl rfl [(13, some 9), (92, some 7)] (by kernel_rfl) (fun af wf us hbw hul hiv hlast hf Kf hKf => ?_)
                obtain ⟨y0, rfl⟩ := lenz1 hul
                have h13 : af.tmps[13]?.getD undef = y0 := hlast 0 9 13 _ rfl rfl rfl
                obtain ⟨g13, g92, _⟩ := hf
                have g92 : IsO entK 102 wH.heap.size 0 5 (fun s => .agg #[.int .u64 x, s]) a (af.tmps[92]?.getD undef) wf := g92
                obtain ⟨v92, h92, hO92⟩ := g92
                obtain ⟨g13, hy13, hg13, hB13⟩ := hiv
                subst hy13
                obtain ⟨Au, nu, cu, rfl⟩ := hO92.shape
                have cB9 := hB13.cell
                have fB9 := hB13.frozen
                have hk1 : PKept wH.heap.size (OfT 56) wf ((wf.setCell ⟨g13, 0, none⟩ (.int .u64 x)).setCell ⟨g13, 1, none⟩ (.slice Au nu cu)) := (PKept.rel _ _).trans _ _ _ (PKept.setCell hg13 hB13 ⟨_, _, rfl⟩ 0 _) (PKept.setCell hg13 (hB13.set_ 0 _) ⟨_, _, rfl⟩ 1 _)
                go_simp
                exact hKf undef _ (hk1) (⟨g13, .slice Au nu cu, rfl, hg13, by simpa using (hB13.set_ 0 (.int .u64 x)).set_ 1 (.slice Au nu cu), hO92.pkept hk1 (Nat.zero_le _) (ofT_not (by decide)) (ofT_not (by decide))⟩) (trivial)
              | 11, _ =>
                refine StepZ.plain _ rfl rfl rfl [(93, some 8)] (by kernel_rfl) (fun af wf hbw hz hf Kf hKf => ?_)
                obtain ⟨g93, _⟩ := hf
                have h93 : af.tmps[93]?.getD undef = .int .i64 0 := g93
                clear g93
                go_simp
                exact hKf _ _ (Below.refl _ _) rfl
              | i + 12, h => exact absurd h (by show ¬ (i + 12 < 12); omega)
            · intro af wF hbF hiF hdF hsF hbaseF hfactF
              obtain ⟨T, dsF⟩ := af
              obtain rfl : dsF = _ := hdF
              obtain ⟨us, hul, hiF, hlF⟩ := hiF
              obtain ⟨y0, y1, rfl⟩ := lenz2 hul
              have e13 : T[13]?.getD undef = y0 := hlF 0 9 13 _ rfl rfl rfl
              clear hlF hul
              have e0 := hbaseF 0 (not_dst (by kernel_rfl))
              simp only [List.getElem?_toArray, List.getElem?_cons_zero, Option.getD_some] at e0
              have e1 := hbaseF 1 (not_dst (by kernel_rfl))
              simp only [List.getElem?_toArray, List.getElem?_cons_zero, List.getElem?_cons_succ, Option.getD_some] at e1
              have e2 := hbaseF 2 (not_dst (by kernel_rfl))
              simp only [List.getElem?_toArray, List.getElem?_cons_zero, List.getElem?_cons_succ, Option.getD_some] at e2
              have e3 := hbaseF 3 (not_dst (by kernel_rfl))
              simp only [List.getElem?_toArray, List.getElem?_cons_zero, List.getElem?_cons_succ, Option.getD_some] at e3
              have e4 := hbaseF 4 (not_dst (by kernel_rfl))
              simp only [List.getElem?_toArray, List.getElem?_cons_zero, List.getElem?_cons_succ, Option.getD_some] at e4
              have e5 := hbaseF 5 (not_dst (by kernel_rfl))
              simp only [List.getElem?_toArray, List.getElem?_cons_zero, List.getElem?_cons_succ, Option.getD_some] at e5
              have e6 := hbaseF 6 (not_dst (by kernel_rfl))
              simp only [List.getElem?_toArray, List.getElem?_cons_zero, List.getElem?_cons_succ, Option.getD_some] at e6
              have e7 := hbaseF 7 (not_dst (by kernel_rfl))
              simp only [List.getElem?_toArray, List.getElem?_cons_zero, List.getElem?_cons_succ, Option.getD_some] at e7
              have e8 := hbaseF 8 (not_dst (by kernel_rfl))
              simp only [List.getElem?_toArray, List.getElem?_cons_zero, List.getElem?_cons_succ, Option.getD_some] at e8
              have e9 := hbaseF 9 (not_dst (by kernel_rfl))
              simp only [List.getElem?_toArray, List.getElem?_cons_zero, List.getElem?_cons_succ, Option.getD_some] at e9
              have e10 := hbaseF 10 (not_dst (by kernel_rfl))
              simp only [List.getElem?_toArray, List.getElem?_cons_zero, List.getElem?_cons_succ, Option.getD_some] at e10
              have e11 := hbaseF 11 (not_dst (by kernel_rfl))
              simp only [List.getElem?_toArray, List.getElem?_cons_zero, List.getElem?_cons_succ, Option.getD_some] at e11
              have e12 := hbaseF 12 (not_dst (by kernel_rfl))
              simp only [List.getElem?_toArray, List.getElem?_cons_zero, List.getElem?_cons_succ, Option.getD_some] at e12
              have e15 := hbaseF 15 (not_dst (by kernel_rfl))
              simp only [List.getElem?_toArray, List.getElem?_cons_zero, List.getElem?_cons_succ, Option.getD_some] at e15
              have e16 := hbaseF 16 (not_dst (by kernel_rfl))
              simp only [List.getElem?_toArray, List.getElem?_cons_zero, List.getElem?_cons_succ, Option.getD_some] at e16
              have e17 := hbaseF 17 (not_dst (by kernel_rfl))
              simp only [List.getElem?_toArray, List.getElem?_cons_zero, List.getElem?_cons_succ, Option.getD_some] at e17
              have e18 := hbaseF 18 (not_dst (by kernel_rfl))
              simp only [List.getElem?_toArray, List.getElem?_cons_zero, List.getElem?_cons_succ, Option.getD_some] at e18
              have e19 := hbaseF 19 (not_dst (by kernel_rfl))
              simp only [List.getElem?_toArray, List.getElem?_cons_zero, List.getElem?_cons_succ, Option.getD_some] at e19
              have e20 := hbaseF 20 (not_dst (by kernel_rfl))
              simp only [List.getElem?_toArray, List.getElem?_cons_zero, List.getElem?_cons_succ, Option.getD_some] at e20
              have e21 := hbaseF 21 (not_dst (by kernel_rfl))
              simp only [List.getElem?_toArray, List.getElem?_cons_zero, List.getElem?_cons_succ, Option.getD_some] at e21
              have e22 := hbaseF 22 (not_dst (by kernel_rfl))
              simp only [List.getElem?_toArray, List.getElem?_cons_zero, List.getElem?_cons_succ, Option.getD_some] at e22
              have e23 := hbaseF 23 (not_dst (by kernel_rfl))
              simp only [List.getElem?_toArray, List.getElem?_cons_zero, List.getElem?_cons_succ, Option.getD_some] at e23
              have e24 := hbaseF 24 (not_dst (by kernel_rfl))
              simp only [List.getElem?_toArray, List.getElem?_cons_zero, List.getElem?_cons_succ, Option.getD_some] at e24
              have e25 := hbaseF 25 (not_dst (by kernel_rfl))
              simp only [List.getElem?_toArray, List.getElem?_cons_zero, List.getElem?_cons_succ, Option.getD_some] at e25
              have e26 := hbaseF 26 (not_dst (by kernel_rfl))
              simp only [List.getElem?_toArray, List.getElem?_cons_zero, List.getElem?_cons_succ, Option.getD_some] at e26
              have e27 := hbaseF 27 (not_dst (by kernel_rfl))
              simp only [List.getElem?_toArray, List.getElem?_cons_zero, List.getElem?_cons_succ, Option.getD_some] at e27
              have e28 := hbaseF 28 (not_dst (by kernel_rfl))
              simp only [List.getElem?_toArray, List.getElem?_cons_zero, List.getElem?_cons_succ, Option.getD_some] at e28
              have e29 := hbaseF 29 (not_dst (by kernel_rfl))
              simp only [List.getElem?_toArray, List.getElem?_cons_zero, List.getElem?_cons_succ, Option.getD_some] at e29
              have e30 := hbaseF 30 (not_dst (by kernel_rfl))
              simp only [List.getElem?_toArray, List.getElem?_cons_zero, List.getElem?_cons_succ, Option.getD_some] at e30
              have e31 := hbaseF 31 (not_dst (by kernel_rfl))
              simp only [List.getElem?_toArray, List.getElem?_cons_zero, List.getElem?_cons_succ, Option.getD_some] at e31
              have e32 := hbaseF 32 (not_dst (by kernel_rfl))
              simp only [List.getElem?_toArray, List.getElem?_cons_zero, List.getElem?_cons_succ, Option.getD_some] at e32
              have e33 := hbaseF 33 (not_dst (by kernel_rfl))
              simp only [List.getElem?_toArray, List.getElem?_cons_zero, List.getElem?_cons_succ, Option.getD_some] at e33
              have e34 := hbaseF 34 (not_dst (by kernel_rfl))
              simp only [List.getElem?_toArray, List.getElem?_cons_zero, List.getElem?_cons_succ, Option.getD_some] at e34
              have e35 := hbaseF 35 (not_dst (by kernel_rfl))
              simp only [List.getElem?_toArray, List.getElem?_cons_zero, List.getElem?_cons_succ, Option.getD_some] at e35
              have e36 := hbaseF 36 (not_dst (by kernel_rfl))
              simp only [List.getElem?_toArray, List.getElem?_cons_zero, List.getElem?_cons_succ, Option.getD_some] at e36
              have e37 := hbaseF 37 (not_dst (by kernel_rfl))
              simp only [List.getElem?_toArray, List.getElem?_cons_zero, List.getElem?_cons_succ, Option.getD_some] at e37
              have e38 := hbaseF 38 (not_dst (by kernel_rfl))
              simp only [List.getElem?_toArray, List.getElem?_cons_zero, List.getElem?_cons_succ, Option.getD_some] at e38
              have e39 := hbaseF 39 (not_dst (by kernel_rfl))
              simp only [List.getElem?_toArray, List.getElem?_cons_zero, List.getElem?_cons_succ, Option.getD_some] at e39
              have e40 := hbaseF 40 (not_dst (by kernel_rfl))
              simp only [List.getElem?_toArray, List.getElem?_cons_zero, List.getElem?_cons_succ, Option.getD_some] at e40
              have e41 := hbaseF 41 (not_dst (by kernel_rfl))
              simp only [List.getElem?_toArray, List.getElem?_cons_zero, List.getElem?_cons_succ, Option.getD_some] at e41
              have e42 := hbaseF 42 (not_dst (by kernel_rfl))
              simp only [List.getElem?_toArray, List.getElem?_cons_zero, List.getElem?_cons_succ, Option.getD_some] at e42
              have e43 := hbaseF 43 (not_dst (by kernel_rfl))
              simp only [List.getElem?_toArray, List.getElem?_cons_zero, List.getElem?_cons_succ, Option.getD_some] at e43
              have e44 := hbaseF 44 (not_dst (by kernel_rfl))
              simp only [List.getElem?_toArray, List.getElem?_cons_zero, List.getElem?_cons_succ, Option.getD_some] at e44
              have e45 := hbaseF 45 (not_dst (by kernel_rfl))
              simp only [List.getElem?_toArray, List.getElem?_cons_zero, List.getElem?_cons_succ, Option.getD_some] at e45
              have e46 := hbaseF 46 (not_dst (by kernel_rfl))
              simp only [List.getElem?_toArray, List.getElem?_cons_zero, List.getElem?_cons_succ, Option.getD_some] at e46
              have e47 := hbaseF 47 (not_dst (by kernel_rfl))
              simp only [List.getElem?_toArray, List.getElem?_cons_zero, List.getElem?_cons_succ, Option.getD_some] at e47
              have e48 := hbaseF 48 (not_dst (by kernel_rfl))
              simp only [List.getElem?_toArray, List.getElem?_cons_zero, List.getElem?_cons_succ, Option.getD_some] at e48
              have e49 := hbaseF 49 (not_dst (by kernel_rfl))
              simp only [List.getElem?_toArray, List.getElem?_cons_zero, List.getElem?_cons_succ, Option.getD_some] at e49
              have e50 := hbaseF 50 (not_dst (by kernel_rfl))
              simp only [List.getElem?_toArray, List.getElem?_cons_zero, List.getElem?_cons_succ, Option.getD_some] at e50
              have e51 := hbaseF 51 (not_dst (by kernel_rfl))
              simp only [List.getElem?_toArray, List.getElem?_cons_zero, List.getElem?_cons_succ, Option.getD_some] at e51
              have e52 := hbaseF 52 (not_dst (by kernel_rfl))
              simp only [List.getElem?_toArray, List.getElem?_cons_zero, List.getElem?_cons_succ, Option.getD_some] at e52
              have e53 := hbaseF 53 (not_dst (by kernel_rfl))
              simp only [List.getElem?_toArray, List.getElem?_cons_zero, List.getElem?_cons_succ, Option.getD_some] at e53
              have e54 := hbaseF 54 (not_dst (by kernel_rfl))
              simp only [List.getElem?_toArray, List.getElem?_cons_zero, List.getElem?_cons_succ, Option.getD_some] at e54
              have e55 := hbaseF 55 (not_dst (by kernel_rfl))
              simp only [List.getElem?_toArray, List.getElem?_cons_zero, List.getElem?_cons_succ, Option.getD_some] at e55
              have e56 := hbaseF 56 (not_dst (by kernel_rfl))
              simp only [List.getElem?_toArray, List.getElem?_cons_zero, List.getElem?_cons_succ, Option.getD_some] at e56
              have e57 := hbaseF 57 (not_dst (by kernel_rfl))
              simp only [List.getElem?_toArray, List.getElem?_cons_zero, List.getElem?_cons_succ, Option.getD_some] at e57
              have e58 := hbaseF 58 (not_dst (by kernel_rfl))
              simp only [List.getElem?_toArray, List.getElem?_cons_zero, List.getElem?_cons_succ, Option.getD_some] at e58
              have e59 := hbaseF 59 (not_dst (by kernel_rfl))
              simp only [List.getElem?_toArray, List.getElem?_cons_zero, List.getElem?_cons_succ, Option.getD_some] at e59
              have e60 := hbaseF 60 (not_dst (by kernel_rfl))
              simp only [List.getElem?_toArray, List.getElem?_cons_zero, List.getElem?_cons_succ, Option.getD_some] at e60
              have e61 := hbaseF 61 (not_dst (by kernel_rfl))
              simp only [List.getElem?_toArray, List.getElem?_cons_zero, List.getElem?_cons_succ, Option.getD_some] at e61
              have e62 := hbaseF 62 (not_dst (by kernel_rfl))
              simp only [List.getElem?_toArray, List.getElem?_cons_zero, List.getElem?_cons_succ, Option.getD_some] at e62
              have e63 := hbaseF 63 (not_dst (by kernel_rfl))
              simp only [List.getElem?_toArray, List.getElem?_cons_zero, List.getElem?_cons_succ, Option.getD_some] at e63
              have e64 := hbaseF 64 (not_dst (by kernel_rfl))
              simp only [List.getElem?_toArray, List.getElem?_cons_zero, List.getElem?_cons_succ, Option.getD_some] at e64
              have e65 := hbaseF 65 (not_dst (by kernel_rfl))
              simp only [List.getElem?_toArray, List.getElem?_cons_zero, List.getElem?_cons_succ, Option.getD_some] at e65
              have e66 := hbaseF 66 (not_dst (by kernel_rfl))
              simp only [List.getElem?_toArray, List.getElem?_cons_zero, List.getElem?_cons_succ, Option.getD_some] at e66
              have e67 := hbaseF 67 (not_dst (by kernel_rfl))
              simp only [List.getElem?_toArray, List.getElem?_cons_zero, List.getElem?_cons_succ, Option.getD_some] at e67
              have e68 := hbaseF 68 (not_dst (by kernel_rfl))
              simp only [List.getElem?_toArray, List.getElem?_cons_zero, List.getElem?_cons_succ, Option.getD_some] at e68
              have e69 := hbaseF 69 (not_dst (by kernel_rfl))
              simp only [List.getElem?_toArray, List.getElem?_cons_zero, List.getElem?_cons_succ, Option.getD_some] at e69
              have e70 := hbaseF 70 (not_dst (by kernel_rfl))
              simp only [List.getElem?_toArray, List.getElem?_cons_zero, List.getElem?_cons_succ, Option.getD_some] at e70
              have e71 := hbaseF 71 (not_dst (by kernel_rfl))
              simp only [List.getElem?_toArray, List.getElem?_cons_zero, List.getElem?_cons_succ, Option.getD_some] at e71
              have e72 := hbaseF 72 (not_dst (by kernel_rfl))
              simp only [List.getElem?_toArray, List.getElem?_cons_zero, List.getElem?_cons_succ, Option.getD_some] at e72
              have e73 := hbaseF 73 (not_dst (by kernel_rfl))
              simp only [List.getElem?_toArray, List.getElem?_cons_zero, List.getElem?_cons_succ, Option.getD_some] at e73
              have e74 := hbaseF 74 (not_dst (by kernel_rfl))
              simp only [List.getElem?_toArray, List.getElem?_cons_zero, List.getElem?_cons_succ, Option.getD_some] at e74
              have e75 := hbaseF 75 (not_dst (by kernel_rfl))
              simp only [List.getElem?_toArray, List.getElem?_cons_zero, List.getElem?_cons_succ, Option.getD_some] at e75
              have e76 := hbaseF 76 (not_dst (by kernel_rfl))
              simp only [List.getElem?_toArray, List.getElem?_cons_zero, List.getElem?_cons_succ, Option.getD_some] at e76
              have e77 := hbaseF 77 (not_dst (by kernel_rfl))
              simp only [List.getElem?_toArray, List.getElem?_cons_zero, List.getElem?_cons_succ, Option.getD_some] at e77
              have e78 := hbaseF 78 (not_dst (by kernel_rfl))
              simp only [List.getElem?_toArray, List.getElem?_cons_zero, List.getElem?_cons_succ, Option.getD_some] at e78
              have e79 := hbaseF 79 (not_dst (by kernel_rfl))
              simp only [List.getElem?_toArray, List.getElem?_cons_zero, List.getElem?_cons_succ, Option.getD_some] at e79
              have e80 := hbaseF 80 (not_dst (by kernel_rfl))
              simp only [List.getElem?_toArray, List.getElem?_cons_zero, List.getElem?_cons_succ, Option.getD_some] at e80
              have e81 := hbaseF 81 (not_dst (by kernel_rfl))
              simp only [List.getElem?_toArray, List.getElem?_cons_zero, List.getElem?_cons_succ, Option.getD_some] at e81
              have e82 := hbaseF 82 (not_dst (by kernel_rfl))
              simp only [List.getElem?_toArray, List.getElem?_cons_zero, List.getElem?_cons_succ, Option.getD_some] at e82
              have e83 := hbaseF 83 (not_dst (by kernel_rfl))
              simp only [List.getElem?_toArray, List.getElem?_cons_zero, List.getElem?_cons_succ, Option.getD_some] at e83
              have e84 := hbaseF 84 (not_dst (by kernel_rfl))
              simp only [List.getElem?_toArray, List.getElem?_cons_zero, List.getElem?_cons_succ, Option.getD_some] at e84
              have e94 := hbaseF 94 (not_dst (by kernel_rfl))
              simp only [List.getElem?_toArray, List.getElem?_cons_zero, List.getElem?_cons_succ, Option.getD_some] at e94
              have e95 := hbaseF 95 (not_dst (by kernel_rfl))
              simp only [List.getElem?_toArray, List.getElem?_cons_zero, List.getElem?_cons_succ, Option.getD_some] at e95
              have e96 := hbaseF 96 (not_dst (by kernel_rfl))
              simp only [List.getElem?_toArray, List.getElem?_cons_zero, List.getElem?_cons_succ, Option.getD_some] at e96
              have e97 := hbaseF 97 (not_dst (by kernel_rfl))
              simp only [List.getElem?_toArray, List.getElem?_cons_zero, List.getElem?_cons_succ, Option.getD_some] at e97
              have e98 := hbaseF 98 (not_dst (by kernel_rfl))
              simp only [List.getElem?_toArray, List.getElem?_cons_zero, List.getElem?_cons_succ, Option.getD_some] at e98
              have e99 := hbaseF 99 (not_dst (by kernel_rfl))
              simp only [List.getElem?_toArray, List.getElem?_cons_zero, List.getElem?_cons_succ, Option.getD_some] at e99
              have e100 := hbaseF 100 (not_dst (by kernel_rfl))
              simp only [List.getElem?_toArray, List.getElem?_cons_zero, List.getElem?_cons_succ, Option.getD_some] at e100
              have e101 := hbaseF 101 (not_dst (by kernel_rfl))
              simp only [List.getElem?_toArray, List.getElem?_cons_zero, List.getElem?_cons_succ, Option.getD_some] at e101
              have e102 := hbaseF 102 (not_dst (by kernel_rfl))
              simp only [List.getElem?_toArray, List.getElem?_cons_zero, List.getElem?_cons_succ, Option.getD_some] at e102
              have e103 := hbaseF 103 (not_dst (by kernel_rfl))
              simp only [List.getElem?_toArray, List.getElem?_cons_zero, List.getElem?_cons_succ, Option.getD_some] at e103
              have e104 := hbaseF 104 (not_dst (by kernel_rfl))
              simp only [List.getElem?_toArray, List.getElem?_cons_zero, List.getElem?_cons_succ, Option.getD_some] at e104
              have e14 := hfactF 11 14 (by decide) rfl
              replace e14 : T[14]?.getD undef = .int .i64 0 := e14
              clear hbaseF hfactF
              have hT : T = #[T[0]?.getD undef, T[1]?.getD undef, T[2]?.getD undef, T[3]?.getD undef, T[4]?.getD undef, T[5]?.getD undef, T[6]?.getD undef, T[7]?.getD undef, T[8]?.getD undef, T[9]?.getD undef, T[10]?.getD undef, T[11]?.getD undef, T[12]?.getD undef, T[13]?.getD undef, T[14]?.getD undef, T[15]?.getD undef, T[16]?.getD undef, T[17]?.getD undef, T[18]?.getD undef, T[19]?.getD undef, T[20]?.getD undef, T[21]?.getD undef, T[22]?.getD undef, T[23]?.getD undef, T[24]?.getD undef, T[25]?.getD undef, T[26]?.getD undef, T[27]?.getD undef, T[28]?.getD undef, T[29]?.getD undef, T[30]?.getD undef, T[31]?.getD undef, T[32]?.getD undef, T[33]?.getD undef, T[34]?.getD undef, T[35]?.getD undef, T[36]?.getD undef, T[37]?.getD undef, T[38]?.getD undef, T[39]?.getD undef, T[40]?.getD undef, T[41]?.getD undef, T[42]?.getD undef, T[43]?.getD undef, T[44]?.getD undef, T[45]?.getD undef, T[46]?.getD undef, T[47]?.getD undef, T[48]?.getD undef, T[49]?.getD undef, T[50]?.getD undef, T[51]?.getD undef, T[52]?.getD undef, T[53]?.getD undef, T[54]?.getD undef, T[55]?.getD undef, T[56]?.getD undef, T[57]?.getD undef, T[58]?.getD undef, T[59]?.getD undef, T[60]?.getD undef, T[61]?.getD undef, T[62]?.getD undef, T[63]?.getD undef, T[64]?.getD undef, T[65]?.getD undef, T[66]?.getD undef, T[67]?.getD undef, T[68]?.getD undef, T[69]?.getD undef, T[70]?.getD undef, T[71]?.getD undef, T[72]?.getD undef, T[73]?.getD undef, T[74]?.getD undef, T[75]?.getD undef, T[76]?.getD undef, T[77]?.getD undef, T[78]?.getD undef, T[79]?.getD undef, T[80]?.getD undef, T[81]?.getD undef, T[82]?.getD undef, T[83]?.getD undef, T[84]?.getD undef, T[85]?.getD undef, T[86]?.getD undef, T[87]?.getD undef, T[88]?.getD undef, T[89]?.getD undef, T[90]?.getD undef, T[91]?.getD undef, T[92]?.getD undef, T[93]?.getD undef, T[94]?.getD undef, T[95]?.getD undef, T[96]?.getD undef, T[97]?.getD undef, T[98]?.getD undef, T[99]?.getD undef, T[100]?.getD undef, T[101]?.getD undef, T[102]?.getD undef, T[103]?.getD undef, T[104]?.getD undef] := arr_eq T 105 hsF
              clear hsF
              rw [e0] at hT; clear e0
              rw [e1] at hT; clear e1
              rw [e2] at hT; clear e2
              rw [e3] at hT; clear e3
              rw [e4] at hT; clear e4
              rw [e5] at hT; clear e5
              rw [e6] at hT; clear e6
              rw [e7] at hT; clear e7
              rw [e8] at hT; clear e8
              rw [e9] at hT; clear e9
              rw [e10] at hT; clear e10
              rw [e11] at hT; clear e11
              rw [e12] at hT; clear e12
              rw [e13] at hT; clear e13
              rw [e14] at hT; clear e14
              rw [e15] at hT; clear e15
              rw [e16] at hT; clear e16
              rw [e17] at hT; clear e17
              rw [e18] at hT; clear e18
              rw [e19] at hT; clear e19
              rw [e20] at hT; clear e20
              rw [e21] at hT; clear e21
              rw [e22] at hT; clear e22
              rw [e23] at hT; clear e23
              rw [e24] at hT; clear e24
              rw [e25] at hT; clear e25
              rw [e26] at hT; clear e26
              rw [e27] at hT; clear e27
              rw [e28] at hT; clear e28
              rw [e29] at hT; clear e29
              rw [e30] at hT; clear e30
              rw [e31] at hT; clear e31
              rw [e32] at hT; clear e32
              rw [e33] at hT; clear e33
              rw [e34] at hT; clear e34
              rw [e35] at hT; clear e35
              rw [e36] at hT; clear e36
              rw [e37] at hT; clear e37
              rw [e38] at hT; clear e38
              rw [e39] at hT; clear e39
              rw [e40] at hT; clear e40
              rw [e41] at hT; clear e41
              rw [e42] at hT; clear e42
              rw [e43] at hT; clear e43
              rw [e44] at hT; clear e44
              rw [e45] at hT; clear e45
              rw [e46] at hT; clear e46
              rw [e47] at hT; clear e47
              rw [e48] at hT; clear e48
              rw [e49] at hT; clear e49
              rw [e50] at hT; clear e50
              rw [e51] at hT; clear e51
              rw [e52] at hT; clear e52
              rw [e53] at hT; clear e53
              rw [e54] at hT; clear e54
              rw [e55] at hT; clear e55
              rw [e56] at hT; clear e56
              rw [e57] at hT; clear e57
              rw [e58] at hT; clear e58
              rw [e59] at hT; clear e59
              rw [e60] at hT; clear e60
              rw [e61] at hT; clear e61
              rw [e62] at hT; clear e62
              rw [e63] at hT; clear e63
              rw [e64] at hT; clear e64
              rw [e65] at hT; clear e65
              rw [e66] at hT; clear e66
              rw [e67] at hT; clear e67
              rw [e68] at hT; clear e68
              rw [e69] at hT; clear e69
              rw [e70] at hT; clear e70
              rw [e71] at hT; clear e71
              rw [e72] at hT; clear e72
              rw [e73] at hT; clear e73
              rw [e74] at hT; clear e74
              rw [e75] at hT; clear e75
              rw [e76] at hT; clear e76
              rw [e77] at hT; clear e77
              rw [e78] at hT; clear e78
              rw [e79] at hT; clear e79
              rw [e80] at hT; clear e80
              rw [e81] at hT; clear e81
              rw [e82] at hT; clear e82
              rw [e83] at hT; clear e83
              rw [e84] at hT; clear e84
              generalize T[85]?.getD undef = u85 at hT
              generalize T[86]?.getD undef = u86 at hT
              generalize T[87]?.getD undef = u87 at hT
              generalize T[88]?.getD undef = u88 at hT
              generalize T[89]?.getD undef = u89 at hT
              generalize T[90]?.getD undef = u90 at hT
              generalize T[91]?.getD undef = u91 at hT
              generalize T[92]?.getD undef = u92 at hT
              generalize T[93]?.getD undef = u93 at hT
              rw [e94] at hT; clear e94
              rw [e95] at hT; clear e95
              rw [e96] at hT; clear e96
              rw [e97] at hT; clear e97
              rw [e98] at hT; clear e98
              rw [e99] at hT; clear e99
              rw [e100] at hT; clear e100
              rw [e101] at hT; clear e101
              rw [e102] at hT; clear e102
              rw [e103] at hT; clear e103
              rw [e104] at hT; clear e104
              subst hT
              obtain ⟨gB, uB, hyB, hgB, hBB, hOB⟩ := hiF
              subst hyB
              have hbB := hbF.toBelow (Nat.le_refl _)
              replace BX := BX.on hbB
              have bK := bH.trans (hbB.mono bH.size)
              have RXB := RX.below hbB
              obtain ⟨AB, cB, rfl, hRB, hnB, hmB⟩ := hOB.rd m hma
              have HS := Lib.hid (show sameLog x x a a = true by simp [sameLog])
              obtain ⟨wK, hwK⟩ : ∃ wK, wK = wF := ⟨_, rfl⟩
              subst hwK
              clear hbF hbB bH hBR HFL HFL256 HNF HLF HM BG RX hgB hOB
              go_wp2_with fail
              refine wp_flows [(fun y_ _ => y_ = .int .i64 0), (fun y_ _ => y_ = .bool true), (fun y_ _ => y_ = .bool true), (fun y_ _ => y_ = .agg #[.int .u64 x, .slice AB m cB]), IsLg 5 x m a, (fun y_ _ => y_ = .agg #[.int .u64 x, .slice A1 m c1]), (fun y_ _ => y_ = .bool true), (fun y_ _ => y_ = .bool true), (fun y_ _ => y_ = .bool true), (fun y_ _ => y_ = .bool true), (fun y_ _ => y_ = .bool true), (fun y_ _ => y_ = .bool true)] (by kernel_rfl) ⟨Stab.eq _, Stab.eq _, Stab.eq _, Stab.eq _, IsLg.stab _ _ _ _, Stab.eq _, Stab.eq _, Stab.eq _, Stab.eq _, Stab.eq _, Stab.eq _, Stab.eq _, trivial⟩ (by kernel_rfl) (by rfl) ?_ ?_
              · intro kq hkq
                match kq, hkq with
                | 0, _ =>
                  refine StepOk.plain _ 94 rfl rfl rfl [(14, none)] (by kernel_rfl) (fun af wf hbw hf Kf hKf => ?_)
                  obtain ⟨g14, _⟩ := hf
                  have h14 : af.tmps[14]?.getD undef = .int .i64 0 := g14
                  clear g14
                  go_simp
                  exact hKf _ _ (Below.refl _ _) rfl
                | 1, _ =>
                  refine StepOk.plain _ 95 rfl rfl rfl [(94, some 0)] (by kernel_rfl) (fun af wf hbw hf Kf hKf => ?_)
                  obtain ⟨g94, _⟩ := hf
                  have h94 : af.tmps[94]?.getD undef = .int .i64 0 := g94
                  clear g94
                  go_simp
                  exact hKf _ _ (Below.refl _ _) rfl
                | 2, _ =>
                  refine StepOk.plain _ 96 rfl rfl rfl [(95, some 1)] (by kernel_rfl) (fun af wf hbw hf Kf hKf => ?_)
                  obtain ⟨g95, _⟩ := hf
                  have h95 : af.tmps[95]?.getD undef = .bool true := g95
                  clear g95
                  go_simp
                  exact hKf _ _ (Below.refl _ _) rfl
                | 3, _ =>
                  refine StepOk.yes _ 97 rfl rfl rfl rfl (fun _ _ h => h) [(13, none)] (by kernel_rfl) (fun af wf hbw hf Kf hKf => ?_)
                  obtain ⟨g13, _⟩ := hf
                  have h13 : af.tmps[13]?.getD undef = .pointer (some ⟨gB, 0, none⟩) := g13
                  clear g13
                  have cB0 := (Blk.on (Blk.drew (BX)) hbw).cell
                  have cB1 := (Blk.on (Blk.drew (hBB)) hbw).cell
                  go_simp
                  exact hKf _ _ (Below.refl _ _) rfl
                | 4, _ =>
                  refine StepOk.yes _ 98 rfl rfl rfl rfl (fun _ _ h => h) [(97, some 3)] (by kernel_rfl) (fun af wf hbw hf Kf hKf => ?_)
                  obtain ⟨g97, _⟩ := hf
                  have h97 : af.tmps[97]?.getD undef = .agg #[.int .u64 x, .slice AB m cB] := g97
                  clear g97
                  go_simp
                  refine (lplain_any x AB m cB 0 a _ (RdR.below hRB.drew hbw) (Nat.zero_le _) (by omega)).mono ?_
                  rintro e wN ⟨v, rfl, hO, hb⟩
                  exact hKf _ _ (hb) (IsLg.of hO hma)
                | 5, _ =>
                  refine StepOk.yes _ 99 rfl rfl rfl rfl (fun _ _ h => h) [(5, none)] (by kernel_rfl) (fun af wf hbw hf Kf hKf => ?_)
                  obtain ⟨g5, _⟩ := hf
                  have h5 : af.tmps[5]?.getD undef = .pointer (some ⟨w.heap.size + 1, 0, none⟩) := g5
                  clear g5
                  have cB0 := (Blk.on (Blk.drew (BX)) hbw).cell
                  have cB1 := (Blk.on (Blk.drew (hBB)) hbw).cell
                  go_simp
                  exact hKf _ _ (Below.refl _ _) rfl
                | 6, _ =>
                  refine StepOk.yes _ 100 rfl rfl rfl rfl (fun _ _ h => h) [(98, some 4), (99, some 5)] (by kernel_rfl) (fun af wf hbw hf Kf hKf => ?_)
                  obtain ⟨g98, g99, _⟩ := hf
                  have g98 : IsLg 5 x m a (af.tmps[98]?.getD undef) wf := g98
                  obtain ⟨A98, c98, B98, h98, hR98, hn98, hm98⟩ := g98
                  have h99 : af.tmps[99]?.getD undef = .agg #[.int .u64 x, .slice A1 m c1] := g99
                  clear g99
                  go_simp
                  refine (rlogsame_any x x A98 A1 m m c98 c1 _ _ _ _ a a _ hR98 (RdR.below RXB.drew hbw) (by omega)).mono ?_
                  rintro e wN ⟨rfl, hb⟩
                  exact hKf _ _ (hb) (congrArg Value.bool HS.out)
                | 7, _ =>
                  refine StepOk.plain _ 101 rfl rfl rfl [(96, some 2), (100, some 6)] (by kernel_rfl) (fun af wf hbw hf Kf hKf => ?_)
                  obtain ⟨g96, g100, _⟩ := hf
                  have h96 : af.tmps[96]?.getD undef = .bool true := g96
                  have h100 : af.tmps[100]?.getD undef = .bool true := g100
                  clear g96 g100
                  go_simp
                  exact hKf _ _ (Below.refl _ _) rfl
                | 8, _ =>
                  refine StepOk.plain _ 102 rfl rfl rfl [(101, some 7)] (by kernel_rfl) (fun af wf hbw hf Kf hKf => ?_)
                  obtain ⟨g101, _⟩ := hf
                  have h101 : af.tmps[101]?.getD undef = .bool true := g101
                  clear g101
                  go_simp
                  exact hKf _ _ (Below.refl _ _) rfl
                | 9, _ =>
                  refine StepOk.yes _ 103 rfl rfl rfl rfl (fun _ _ h => h) [] (by kernel_rfl) (fun af wf hbw hf Kf hKf => ?_)
                  go_simp
                  refine (lawake_any _).mono ?_
                  rintro e wN ⟨rfl, hb⟩
                  exact hKf _ _ (hb) (rfl)
                | 10, _ =>
                  refine StepOk.plain _ 104 rfl rfl rfl [(102, some 8), (103, some 9)] (by kernel_rfl) (fun af wf hbw hf Kf hKf => ?_)
                  obtain ⟨g102, g103, _⟩ := hf
                  have h102 : af.tmps[102]?.getD undef = .bool true := g102
                  have h103 : af.tmps[103]?.getD undef = .bool true := g103
                  clear g102 g103
                  go_simp
                  exact hKf _ _ (Below.refl _ _) rfl
                | 11, _ =>
                  refine StepOk.plain _ 8 rfl rfl rfl [(104, some 10)] (by kernel_rfl) (fun af wf hbw hf Kf hKf => ?_)
                  obtain ⟨g104, _⟩ := hf
                  have h104 : af.tmps[104]?.getD undef = .bool true := g104
                  clear g104
                  go_simp
                  exact hKf _ _ (Below.refl _ _) rfl
                | i + 12, h => exact absurd h (by show ¬ (i + 12 < 12); omega)
              · intro af wF hbF hdF hsF hbaseF hfactF
                obtain ⟨T, dsF⟩ := af
                obtain rfl : dsF = _ := hdF
                have e0 := hbaseF 0 (not_dst (by kernel_rfl))
                simp only [List.getElem?_toArray, List.getElem?_cons_zero, Option.getD_some] at e0
                have e1 := hbaseF 1 (not_dst (by kernel_rfl))
                simp only [List.getElem?_toArray, List.getElem?_cons_zero, List.getElem?_cons_succ, Option.getD_some] at e1
                have e2 := hbaseF 2 (not_dst (by kernel_rfl))
                simp only [List.getElem?_toArray, List.getElem?_cons_zero, List.getElem?_cons_succ, Option.getD_some] at e2
                have e3 := hbaseF 3 (not_dst (by kernel_rfl))
                simp only [List.getElem?_toArray, List.getElem?_cons_zero, List.getElem?_cons_succ, Option.getD_some] at e3
                have e4 := hbaseF 4 (not_dst (by kernel_rfl))
                simp only [List.getElem?_toArray, List.getElem?_cons_zero, List.getElem?_cons_succ, Option.getD_some] at e4
                have e5 := hbaseF 5 (not_dst (by kernel_rfl))
                simp only [List.getElem?_toArray, List.getElem?_cons_zero, List.getElem?_cons_succ, Option.getD_some] at e5
                have e6 := hbaseF 6 (not_dst (by kernel_rfl))
                simp only [List.getElem?_toArray, List.getElem?_cons_zero, List.getElem?_cons_succ, Option.getD_some] at e6
                have e7 := hbaseF 7 (not_dst (by kernel_rfl))
                simp only [List.getElem?_toArray, List.getElem?_cons_zero, List.getElem?_cons_succ, Option.getD_some] at e7
                have e9 := hbaseF 9 (not_dst (by kernel_rfl))
                simp only [List.getElem?_toArray, List.getElem?_cons_zero, List.getElem?_cons_succ, Option.getD_some] at e9
                have e10 := hbaseF 10 (not_dst (by kernel_rfl))
                simp only [List.getElem?_toArray, List.getElem?_cons_zero, List.getElem?_cons_succ, Option.getD_some] at e10
                have e11 := hbaseF 11 (not_dst (by kernel_rfl))
                simp only [List.getElem?_toArray, List.getElem?_cons_zero, List.getElem?_cons_succ, Option.getD_some] at e11
                have e12 := hbaseF 12 (not_dst (by kernel_rfl))
                simp only [List.getElem?_toArray, List.getElem?_cons_zero, List.getElem?_cons_succ, Option.getD_some] at e12
                have e13 := hbaseF 13 (not_dst (by kernel_rfl))
                simp only [List.getElem?_toArray, List.getElem?_cons_zero, List.getElem?_cons_succ, Option.getD_some] at e13
                have e14 := hbaseF 14 (not_dst (by kernel_rfl))
                simp only [List.getElem?_toArray, List.getElem?_cons_zero, List.getElem?_cons_succ, Option.getD_some] at e14
                have e15 := hbaseF 15 (not_dst (by kernel_rfl))
                simp only [List.getElem?_toArray, List.getElem?_cons_zero, List.getElem?_cons_succ, Option.getD_some] at e15
                have e16 := hbaseF 16 (not_dst (by kernel_rfl))
                simp only [List.getElem?_toArray, List.getElem?_cons_zero, List.getElem?_cons_succ, Option.getD_some] at e16
                have e17 := hbaseF 17 (not_dst (by kernel_rfl))
                simp only [List.getElem?_toArray, List.getElem?_cons_zero, List.getElem?_cons_succ, Option.getD_some] at e17
                have e18 := hbaseF 18 (not_dst (by kernel_rfl))
                simp only [List.getElem?_toArray, List.getElem?_cons_zero, List.getElem?_cons_succ, Option.getD_some] at e18
                have e19 := hbaseF 19 (not_dst (by kernel_rfl))
                simp only [List.getElem?_toArray, List.getElem?_cons_zero, List.getElem?_cons_succ, Option.getD_some] at e19
                have e20 := hbaseF 20 (not_dst (by kernel_rfl))
                simp only [List.getElem?_toArray, List.getElem?_cons_zero, List.getElem?_cons_succ, Option.getD_some] at e20
                have e21 := hbaseF 21 (not_dst (by kernel_rfl))
                simp only [List.getElem?_toArray, List.getElem?_cons_zero, List.getElem?_cons_succ, Option.getD_some] at e21
                have e22 := hbaseF 22 (not_dst (by kernel_rfl))
                simp only [List.getElem?_toArray, List.getElem?_cons_zero, List.getElem?_cons_succ, Option.getD_some] at e22
                have e23 := hbaseF 23 (not_dst (by kernel_rfl))
                simp only [List.getElem?_toArray, List.getElem?_cons_zero, List.getElem?_cons_succ, Option.getD_some] at e23
                have e24 := hbaseF 24 (not_dst (by kernel_rfl))
                simp only [List.getElem?_toArray, List.getElem?_cons_zero, List.getElem?_cons_succ, Option.getD_some] at e24
                have e25 := hbaseF 25 (not_dst (by kernel_rfl))
                simp only [List.getElem?_toArray, List.getElem?_cons_zero, List.getElem?_cons_succ, Option.getD_some] at e25
                have e26 := hbaseF 26 (not_dst (by kernel_rfl))
                simp only [List.getElem?_toArray, List.getElem?_cons_zero, List.getElem?_cons_succ, Option.getD_some] at e26
                have e27 := hbaseF 27 (not_dst (by kernel_rfl))
                simp only [List.getElem?_toArray, List.getElem?_cons_zero, List.getElem?_cons_succ, Option.getD_some] at e27
                have e28 := hbaseF 28 (not_dst (by kernel_rfl))
                simp only [List.getElem?_toArray, List.getElem?_cons_zero, List.getElem?_cons_succ, Option.getD_some] at e28
                have e29 := hbaseF 29 (not_dst (by kernel_rfl))
                simp only [List.getElem?_toArray, List.getElem?_cons_zero, List.getElem?_cons_succ, Option.getD_some] at e29
                have e30 := hbaseF 30 (not_dst (by kernel_rfl))
                simp only [List.getElem?_toArray, List.getElem?_cons_zero, List.getElem?_cons_succ, Option.getD_some] at e30
                have e31 := hbaseF 31 (not_dst (by kernel_rfl))
                simp only [List.getElem?_toArray, List.getElem?_cons_zero, List.getElem?_cons_succ, Option.getD_some] at e31
                have e32 := hbaseF 32 (not_dst (by kernel_rfl))
                simp only [List.getElem?_toArray, List.getElem?_cons_zero, List.getElem?_cons_succ, Option.getD_some] at e32
                have e33 := hbaseF 33 (not_dst (by kernel_rfl))
                simp only [List.getElem?_toArray, List.getElem?_cons_zero, List.getElem?_cons_succ, Option.getD_some] at e33
                have e34 := hbaseF 34 (not_dst (by kernel_rfl))
                simp only [List.getElem?_toArray, List.getElem?_cons_zero, List.getElem?_cons_succ, Option.getD_some] at e34
                have e35 := hbaseF 35 (not_dst (by kernel_rfl))
                simp only [List.getElem?_toArray, List.getElem?_cons_zero, List.getElem?_cons_succ, Option.getD_some] at e35
                have e36 := hbaseF 36 (not_dst (by kernel_rfl))
                simp only [List.getElem?_toArray, List.getElem?_cons_zero, List.getElem?_cons_succ, Option.getD_some] at e36
                have e37 := hbaseF 37 (not_dst (by kernel_rfl))
                simp only [List.getElem?_toArray, List.getElem?_cons_zero, List.getElem?_cons_succ, Option.getD_some] at e37
                have e38 := hbaseF 38 (not_dst (by kernel_rfl))
                simp only [List.getElem?_toArray, List.getElem?_cons_zero, List.getElem?_cons_succ, Option.getD_some] at e38
                have e39 := hbaseF 39 (not_dst (by kernel_rfl))
                simp only [List.getElem?_toArray, List.getElem?_cons_zero, List.getElem?_cons_succ, Option.getD_some] at e39
                have e40 := hbaseF 40 (not_dst (by kernel_rfl))
                simp only [List.getElem?_toArray, List.getElem?_cons_zero, List.getElem?_cons_succ, Option.getD_some] at e40
                have e41 := hbaseF 41 (not_dst (by kernel_rfl))
                simp only [List.getElem?_toArray, List.getElem?_cons_zero, List.getElem?_cons_succ, Option.getD_some] at e41
                have e42 := hbaseF 42 (not_dst (by kernel_rfl))
                simp only [List.getElem?_toArray, List.getElem?_cons_zero, List.getElem?_cons_succ, Option.getD_some] at e42
                have e43 := hbaseF 43 (not_dst (by kernel_rfl))
                simp only [List.getElem?_toArray, List.getElem?_cons_zero, List.getElem?_cons_succ, Option.getD_some] at e43
                have e44 := hbaseF 44 (not_dst (by kernel_rfl))
                simp only [List.getElem?_toArray, List.getElem?_cons_zero, List.getElem?_cons_succ, Option.getD_some] at e44
                have e45 := hbaseF 45 (not_dst (by kernel_rfl))
                simp only [List.getElem?_toArray, List.getElem?_cons_zero, List.getElem?_cons_succ, Option.getD_some] at e45
                have e46 := hbaseF 46 (not_dst (by kernel_rfl))
                simp only [List.getElem?_toArray, List.getElem?_cons_zero, List.getElem?_cons_succ, Option.getD_some] at e46
                have e47 := hbaseF 47 (not_dst (by kernel_rfl))
                simp only [List.getElem?_toArray, List.getElem?_cons_zero, List.getElem?_cons_succ, Option.getD_some] at e47
                have e48 := hbaseF 48 (not_dst (by kernel_rfl))
                simp only [List.getElem?_toArray, List.getElem?_cons_zero, List.getElem?_cons_succ, Option.getD_some] at e48
                have e49 := hbaseF 49 (not_dst (by kernel_rfl))
                simp only [List.getElem?_toArray, List.getElem?_cons_zero, List.getElem?_cons_succ, Option.getD_some] at e49
                have e50 := hbaseF 50 (not_dst (by kernel_rfl))
                simp only [List.getElem?_toArray, List.getElem?_cons_zero, List.getElem?_cons_succ, Option.getD_some] at e50
                have e51 := hbaseF 51 (not_dst (by kernel_rfl))
                simp only [List.getElem?_toArray, List.getElem?_cons_zero, List.getElem?_cons_succ, Option.getD_some] at e51
                have e52 := hbaseF 52 (not_dst (by kernel_rfl))
                simp only [List.getElem?_toArray, List.getElem?_cons_zero, List.getElem?_cons_succ, Option.getD_some] at e52
                have e53 := hbaseF 53 (not_dst (by kernel_rfl))
                simp only [List.getElem?_toArray, List.getElem?_cons_zero, List.getElem?_cons_succ, Option.getD_some] at e53
                have e54 := hbaseF 54 (not_dst (by kernel_rfl))
                simp only [List.getElem?_toArray, List.getElem?_cons_zero, List.getElem?_cons_succ, Option.getD_some] at e54
                have e55 := hbaseF 55 (not_dst (by kernel_rfl))
                simp only [List.getElem?_toArray, List.getElem?_cons_zero, List.getElem?_cons_succ, Option.getD_some] at e55
                have e56 := hbaseF 56 (not_dst (by kernel_rfl))
                simp only [List.getElem?_toArray, List.getElem?_cons_zero, List.getElem?_cons_succ, Option.getD_some] at e56
                have e57 := hbaseF 57 (not_dst (by kernel_rfl))
                simp only [List.getElem?_toArray, List.getElem?_cons_zero, List.getElem?_cons_succ, Option.getD_some] at e57
                have e58 := hbaseF 58 (not_dst (by kernel_rfl))
                simp only [List.getElem?_toArray, List.getElem?_cons_zero, List.getElem?_cons_succ, Option.getD_some] at e58
                have e59 := hbaseF 59 (not_dst (by kernel_rfl))
                simp only [List.getElem?_toArray, List.getElem?_cons_zero, List.getElem?_cons_succ, Option.getD_some] at e59
                have e60 := hbaseF 60 (not_dst (by kernel_rfl))
                simp only [List.getElem?_toArray, List.getElem?_cons_zero, List.getElem?_cons_succ, Option.getD_some] at e60
                have e61 := hbaseF 61 (not_dst (by kernel_rfl))
                simp only [List.getElem?_toArray, List.getElem?_cons_zero, List.getElem?_cons_succ, Option.getD_some] at e61
                have e62 := hbaseF 62 (not_dst (by kernel_rfl))
                simp only [List.getElem?_toArray, List.getElem?_cons_zero, List.getElem?_cons_succ, Option.getD_some] at e62
                have e63 := hbaseF 63 (not_dst (by kernel_rfl))
                simp only [List.getElem?_toArray, List.getElem?_cons_zero, List.getElem?_cons_succ, Option.getD_some] at e63
                have e64 := hbaseF 64 (not_dst (by kernel_rfl))
                simp only [List.getElem?_toArray, List.getElem?_cons_zero, List.getElem?_cons_succ, Option.getD_some] at e64
                have e65 := hbaseF 65 (not_dst (by kernel_rfl))
                simp only [List.getElem?_toArray, List.getElem?_cons_zero, List.getElem?_cons_succ, Option.getD_some] at e65
                have e66 := hbaseF 66 (not_dst (by kernel_rfl))
                simp only [List.getElem?_toArray, List.getElem?_cons_zero, List.getElem?_cons_succ, Option.getD_some] at e66
                have e67 := hbaseF 67 (not_dst (by kernel_rfl))
                simp only [List.getElem?_toArray, List.getElem?_cons_zero, List.getElem?_cons_succ, Option.getD_some] at e67
                have e68 := hbaseF 68 (not_dst (by kernel_rfl))
                simp only [List.getElem?_toArray, List.getElem?_cons_zero, List.getElem?_cons_succ, Option.getD_some] at e68
                have e69 := hbaseF 69 (not_dst (by kernel_rfl))
                simp only [List.getElem?_toArray, List.getElem?_cons_zero, List.getElem?_cons_succ, Option.getD_some] at e69
                have e70 := hbaseF 70 (not_dst (by kernel_rfl))
                simp only [List.getElem?_toArray, List.getElem?_cons_zero, List.getElem?_cons_succ, Option.getD_some] at e70
                have e71 := hbaseF 71 (not_dst (by kernel_rfl))
                simp only [List.getElem?_toArray, List.getElem?_cons_zero, List.getElem?_cons_succ, Option.getD_some] at e71
                have e72 := hbaseF 72 (not_dst (by kernel_rfl))
                simp only [List.getElem?_toArray, List.getElem?_cons_zero, List.getElem?_cons_succ, Option.getD_some] at e72
                have e73 := hbaseF 73 (not_dst (by kernel_rfl))
                simp only [List.getElem?_toArray, List.getElem?_cons_zero, List.getElem?_cons_succ, Option.getD_some] at e73
                have e74 := hbaseF 74 (not_dst (by kernel_rfl))
                simp only [List.getElem?_toArray, List.getElem?_cons_zero, List.getElem?_cons_succ, Option.getD_some] at e74
                have e75 := hbaseF 75 (not_dst (by kernel_rfl))
                simp only [List.getElem?_toArray, List.getElem?_cons_zero, List.getElem?_cons_succ, Option.getD_some] at e75
                have e76 := hbaseF 76 (not_dst (by kernel_rfl))
                simp only [List.getElem?_toArray, List.getElem?_cons_zero, List.getElem?_cons_succ, Option.getD_some] at e76
                have e77 := hbaseF 77 (not_dst (by kernel_rfl))
                simp only [List.getElem?_toArray, List.getElem?_cons_zero, List.getElem?_cons_succ, Option.getD_some] at e77
                have e78 := hbaseF 78 (not_dst (by kernel_rfl))
                simp only [List.getElem?_toArray, List.getElem?_cons_zero, List.getElem?_cons_succ, Option.getD_some] at e78
                have e79 := hbaseF 79 (not_dst (by kernel_rfl))
                simp only [List.getElem?_toArray, List.getElem?_cons_zero, List.getElem?_cons_succ, Option.getD_some] at e79
                have e80 := hbaseF 80 (not_dst (by kernel_rfl))
                simp only [List.getElem?_toArray, List.getElem?_cons_zero, List.getElem?_cons_succ, Option.getD_some] at e80
                have e81 := hbaseF 81 (not_dst (by kernel_rfl))
                simp only [List.getElem?_toArray, List.getElem?_cons_zero, List.getElem?_cons_succ, Option.getD_some] at e81
                have e82 := hbaseF 82 (not_dst (by kernel_rfl))
                simp only [List.getElem?_toArray, List.getElem?_cons_zero, List.getElem?_cons_succ, Option.getD_some] at e82
                have e83 := hbaseF 83 (not_dst (by kernel_rfl))
                simp only [List.getElem?_toArray, List.getElem?_cons_zero, List.getElem?_cons_succ, Option.getD_some] at e83
                have e84 := hbaseF 84 (not_dst (by kernel_rfl))
                simp only [List.getElem?_toArray, List.getElem?_cons_zero, List.getElem?_cons_succ, Option.getD_some] at e84
                have e85 := hbaseF 85 (not_dst (by kernel_rfl))
                simp only [List.getElem?_toArray, List.getElem?_cons_zero, List.getElem?_cons_succ, Option.getD_some] at e85
                have e86 := hbaseF 86 (not_dst (by kernel_rfl))
                simp only [List.getElem?_toArray, List.getElem?_cons_zero, List.getElem?_cons_succ, Option.getD_some] at e86
                have e87 := hbaseF 87 (not_dst (by kernel_rfl))
                simp only [List.getElem?_toArray, List.getElem?_cons_zero, List.getElem?_cons_succ, Option.getD_some] at e87
                have e88 := hbaseF 88 (not_dst (by kernel_rfl))
                simp only [List.getElem?_toArray, List.getElem?_cons_zero, List.getElem?_cons_succ, Option.getD_some] at e88
                have e89 := hbaseF 89 (not_dst (by kernel_rfl))
                simp only [List.getElem?_toArray, List.getElem?_cons_zero, List.getElem?_cons_succ, Option.getD_some] at e89
                have e90 := hbaseF 90 (not_dst (by kernel_rfl))
                simp only [List.getElem?_toArray, List.getElem?_cons_zero, List.getElem?_cons_succ, Option.getD_some] at e90
                have e91 := hbaseF 91 (not_dst (by kernel_rfl))
                simp only [List.getElem?_toArray, List.getElem?_cons_zero, List.getElem?_cons_succ, Option.getD_some] at e91
                have e92 := hbaseF 92 (not_dst (by kernel_rfl))
                simp only [List.getElem?_toArray, List.getElem?_cons_zero, List.getElem?_cons_succ, Option.getD_some] at e92
                have e93 := hbaseF 93 (not_dst (by kernel_rfl))
                simp only [List.getElem?_toArray, List.getElem?_cons_zero, List.getElem?_cons_succ, Option.getD_some] at e93
                have e8 := hfactF 11 8 (by decide) rfl
                replace e8 : T[8]?.getD undef = .bool true := e8
                clear hbaseF hfactF
                have hT : T = #[T[0]?.getD undef, T[1]?.getD undef, T[2]?.getD undef, T[3]?.getD undef, T[4]?.getD undef, T[5]?.getD undef, T[6]?.getD undef, T[7]?.getD undef, T[8]?.getD undef, T[9]?.getD undef, T[10]?.getD undef, T[11]?.getD undef, T[12]?.getD undef, T[13]?.getD undef, T[14]?.getD undef, T[15]?.getD undef, T[16]?.getD undef, T[17]?.getD undef, T[18]?.getD undef, T[19]?.getD undef, T[20]?.getD undef, T[21]?.getD undef, T[22]?.getD undef, T[23]?.getD undef, T[24]?.getD undef, T[25]?.getD undef, T[26]?.getD undef, T[27]?.getD undef, T[28]?.getD undef, T[29]?.getD undef, T[30]?.getD undef, T[31]?.getD undef, T[32]?.getD undef, T[33]?.getD undef, T[34]?.getD undef, T[35]?.getD undef, T[36]?.getD undef, T[37]?.getD undef, T[38]?.getD undef, T[39]?.getD undef, T[40]?.getD undef, T[41]?.getD undef, T[42]?.getD undef, T[43]?.getD undef, T[44]?.getD undef, T[45]?.getD undef, T[46]?.getD undef, T[47]?.getD undef, T[48]?.getD undef, T[49]?.getD undef, T[50]?.getD undef, T[51]?.getD undef, T[52]?.getD undef, T[53]?.getD undef, T[54]?.getD undef, T[55]?.getD undef, T[56]?.getD undef, T[57]?.getD undef, T[58]?.getD undef, T[59]?.getD undef, T[60]?.getD undef, T[61]?.getD undef, T[62]?.getD undef, T[63]?.getD undef, T[64]?.getD undef, T[65]?.getD undef, T[66]?.getD undef, T[67]?.getD undef, T[68]?.getD undef, T[69]?.getD undef, T[70]?.getD undef, T[71]?.getD undef, T[72]?.getD undef, T[73]?.getD undef, T[74]?.getD undef, T[75]?.getD undef, T[76]?.getD undef, T[77]?.getD undef, T[78]?.getD undef, T[79]?.getD undef, T[80]?.getD undef, T[81]?.getD undef, T[82]?.getD undef, T[83]?.getD undef, T[84]?.getD undef, T[85]?.getD undef, T[86]?.getD undef, T[87]?.getD undef, T[88]?.getD undef, T[89]?.getD undef, T[90]?.getD undef, T[91]?.getD undef, T[92]?.getD undef, T[93]?.getD undef, T[94]?.getD undef, T[95]?.getD undef, T[96]?.getD undef, T[97]?.getD undef, T[98]?.getD undef, T[99]?.getD undef, T[100]?.getD undef, T[101]?.getD undef, T[102]?.getD undef, T[103]?.getD undef, T[104]?.getD undef] := arr_eq T 105 hsF
                clear hsF
                rw [e0] at hT; clear e0
                rw [e1] at hT; clear e1
                rw [e2] at hT; clear e2
                rw [e3] at hT; clear e3
                rw [e4] at hT; clear e4
                rw [e5] at hT; clear e5
                rw [e6] at hT; clear e6
                rw [e7] at hT; clear e7
                rw [e8] at hT; clear e8
                rw [e9] at hT; clear e9
                rw [e10] at hT; clear e10
                rw [e11] at hT; clear e11
                rw [e12] at hT; clear e12
                rw [e13] at hT; clear e13
                rw [e14] at hT; clear e14
                rw [e15] at hT; clear e15
                rw [e16] at hT; clear e16
                rw [e17] at hT; clear e17
                rw [e18] at hT; clear e18
                rw [e19] at hT; clear e19
                rw [e20] at hT; clear e20
                rw [e21] at hT; clear e21
                rw [e22] at hT; clear e22
                rw [e23] at hT; clear e23
                rw [e24] at hT; clear e24
                rw [e25] at hT; clear e25
                rw [e26] at hT; clear e26
                rw [e27] at hT; clear e27
                rw [e28] at hT; clear e28
                rw [e29] at hT; clear e29
                rw [e30] at hT; clear e30
                rw [e31] at hT; clear e31
                rw [e32] at hT; clear e32
                rw [e33] at hT; clear e33
                rw [e34] at hT; clear e34
                rw [e35] at hT; clear e35
                rw [e36] at hT; clear e36
                rw [e37] at hT; clear e37
                rw [e38] at hT; clear e38
                rw [e39] at hT; clear e39
                rw [e40] at hT; clear e40
                rw [e41] at hT; clear e41
                rw [e42] at hT; clear e42
                rw [e43] at hT; clear e43
                rw [e44] at hT; clear e44
                rw [e45] at hT; clear e45
                rw [e46] at hT; clear e46
                rw [e47] at hT; clear e47
                rw [e48] at hT; clear e48
                rw [e49] at hT; clear e49
                rw [e50] at hT; clear e50
                rw [e51] at hT; clear e51
                rw [e52] at hT; clear e52
                rw [e53] at hT; clear e53
                rw [e54] at hT; clear e54
                rw [e55] at hT; clear e55
                rw [e56] at hT; clear e56
                rw [e57] at hT; clear e57
                rw [e58] at hT; clear e58
                rw [e59] at hT; clear e59
                rw [e60] at hT; clear e60
                rw [e61] at hT; clear e61
                rw [e62] at hT; clear e62
                rw [e63] at hT; clear e63
                rw [e64] at hT; clear e64
                rw [e65] at hT; clear e65
                rw [e66] at hT; clear e66
                rw [e67] at hT; clear e67
                rw [e68] at hT; clear e68
                rw [e69] at hT; clear e69
                rw [e70] at hT; clear e70
                rw [e71] at hT; clear e71
                rw [e72] at hT; clear e72
                rw [e73] at hT; clear e73
                rw [e74] at hT; clear e74
                rw [e75] at hT; clear e75
                rw [e76] at hT; clear e76
                rw [e77] at hT; clear e77
                rw [e78] at hT; clear e78
                rw [e79] at hT; clear e79
                rw [e80] at hT; clear e80
                rw [e81] at hT; clear e81
                rw [e82] at hT; clear e82
                rw [e83] at hT; clear e83
                rw [e84] at hT; clear e84
                rw [e85] at hT; clear e85
                rw [e86] at hT; clear e86
                rw [e87] at hT; clear e87
                rw [e88] at hT; clear e88
                rw [e89] at hT; clear e89
                rw [e90] at hT; clear e90
                rw [e91] at hT; clear e91
                rw [e92] at hT; clear e92
                rw [e93] at hT; clear e93
                generalize T[94]?.getD undef = u94 at hT
                generalize T[95]?.getD undef = u95 at hT
                generalize T[96]?.getD undef = u96 at hT
                generalize T[97]?.getD undef = u97 at hT
                generalize T[98]?.getD undef = u98 at hT
                generalize T[99]?.getD undef = u99 at hT
                generalize T[100]?.getD undef = u100 at hT
                generalize T[101]?.getD undef = u101 at hT
                generalize T[102]?.getD undef = u102 at hT
                generalize T[103]?.getD undef = u103 at hT
                generalize T[104]?.getD undef = u104 at hT
                subst hT
                go_wp2_with fail
                go_ret
                exact ⟨rfl, (by (have q_hbF := Below.size hbF; (try simp at q_hbF); have q_bK := Below.size bK; (try simp at q_bK); repeat (first | exact Below.refl _ _ | (refine Below.trans ?_ (Below.mono hbF (by first | omega | (simp; omega) | simp))) | (refine Below.trans ?_ (Below.mono bK (by first | omega | (simp; omega) | simp))) | (refine Below.setCell ?_ (by first | omega | (simp; omega) | simp) _) | (refine Below.alloc ?_ (by first | omega | (simp; omega) | simp) _) | apply Below.drew | apply below_drewN)))⟩
end Go.Proofs.Ythepgnankelmeaa
