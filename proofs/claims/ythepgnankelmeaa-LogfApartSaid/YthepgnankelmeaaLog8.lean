/- The walk of the statement LogfSame. -/
import Derived.Test.YthepgnankelmeaaLog7
namespace Go.Proofs.Ythepgnankelmeaa
open Go.RowKit

theorem gs_typed {w : World} {ga gb : Nat} {TL T : TypeId} {ca cb : Array Value} (h1 : Blk w ga TL ca) (h2 : Blk w gb TL cb) (hT : T ≠ TL) : ∀ x ∈ [ga, gb], ∃ cs t fr, w.heap[x]? = some (.cells cs t fr) ∧ T ≠ t := by
  intro x hx
  simp at hx
  rcases hx with rfl | rfl
  · exact ⟨ca, TL, _, h1, hT⟩
  · exact ⟨cb, TL, _, h2, hT⟩

set_option maxRecDepth 100000 in
set_option maxHeartbeats 8000000 in
theorem law_logfsame (x y : Int) (Aa Ab : Option Addr) (na ca nb cb : Nat) (a b : List Ent) (w : World) (ha : RdR entK w.heap.size 5 w Aa na a) (hb : RdR entK w.heap.size 5 w Ab nb b) :
    Calls Try.prog 10 #[.agg #[.int .u64 x, .slice Aa na ca], .agg #[.int .u64 y, .slice Ab nb cb]] w fun e w' => e = .returned (.bool true) ∧ Below w.heap.size w w' := by
  obtain ⟨w1, hw1⟩ : ∃ w1, w1 = (w.alloc (.cells #[.int .u64 x, .slice Aa na ca] 49)).alloc (.cells #[.int .u64 y, .slice Ab nb cb] 49) := ⟨_, rfl⟩
  have P0 : Blk w1 w.heap.size 49 #[.int .u64 x, .slice Aa na ca] := by rw [hw1]; exact (Blk.new _ _ _).alloc _
  have Q0 : Blk w1 (w.heap.size + 1) 49 #[.int .u64 y, .slice Ab nb cb] := by
    rw [hw1]
    simpa using Blk.new (w.alloc (.cells #[.int .u64 x, .slice Aa na ca] 49)) 49 #[.int .u64 y, .slice Ab nb cb]
  have b1 : Below w.heap.size w w1 := by rw [hw1]; exact (by (repeat (first | exact Below.refl _ _ | (refine Below.setCell ?_ (by first | omega | (simp; omega) | simp) _) | (refine Below.alloc ?_ (by first | omega | (simp; omega) | simp) _) | apply Below.drew | apply below_drewN)))
  have haN : RdRN entK [w.heap.size, w.heap.size + 1] w.heap.size 5 w1 Aa na a := RdRN.old ha (by simp) b1
  have hbN : RdRN entK [w.heap.size, w.heap.size + 1] w.heap.size 5 w1 Ab nb b := RdRN.old hb (by simp) b1
  have hgz : w1.heap.size = w.heap.size + 1 + 1 := by rw [hw1]; simp
  obtain ⟨a', ha'⟩ : ∃ a', a' = cutL false a := ⟨_, rfl⟩
  obtain ⟨b', hb'⟩ : ∃ b', b' = cutL false b := ⟨_, rfl⟩
  have HA := Lib.hid ha'
  have HB := Lib.hid hb'
  obtain ⟨ma, hma⟩ : ∃ ma, a'.length = ma := ⟨_, rfl⟩
  obtain ⟨mb, hmb⟩ : ∃ mb, b'.length = mb := ⟨_, rfl⟩
  have hma30 : ma ≤ 30 := by rw [← hma, ha', cutL_len]; omega
  have hmb30 : mb ≤ 30 := by rw [← hmb, hb', cutL_len]; omega
  have HLa := Lib.hid (show ∀ e ∈ a', e.2.length ≤ 1000000 by intro e he; rw [ha'] at he; have := cutL_le e he; omega)
  have HLb := Lib.hid (show ∀ e ∈ b', e.2.length ≤ 1000000 by intro e he; rw [hb'] at he; have := cutL_le e he; omega)
  clear ha hb ha' hb'
  go_enter Try.func10, Try.ntmps10
  go_wp2_with fail
  rw [← hw1]
  clear hw1
  refine wp_flv [(fun y_ _ => y_ = .agg #[.int .u64 x, .slice Aa na ca]), IsLog entK [w.heap.size, w.heap.size + 1] w.heap.size 5 (fun s => .agg #[.int .u64 x, s]) ma a', (fun y_ _ => y_ = .agg #[.int .u64 y, .slice Ab nb cb]), IsLog entK [w.heap.size, w.heap.size + 1] w.heap.size 5 (fun s => .agg #[.int .u64 y, s]) mb b', (fun _ _ => True), (fun _ _ => True)] [w.heap.size, w.heap.size + 1] (CutInv 49 w.heap.size (w.heap.size + 1) w.heap.size 5 x y #[.int .u64 x, .slice Aa na ca] #[.int .u64 y, .slice Ab nb cb] ma mb a' b') [4, 5] (by kernel_rfl) ⟨StabW.eq _ _, IsLog.stabW _ _ _ _ _ _ _, StabW.eq _ _, IsLog.stabW _ _ _ _ _ _ _, StabW.any _, StabW.any _, trivial⟩ (CutInv.stab) (⟨P0, Q0⟩) (by kernel_rfl) (by kernel_rfl) (by kernel_rfl) (by rfl) ?_ ?_
  · intro kq hkq
    match kq, hkq with
    | 0, _ =>
      refine StepV.plain _ rfl rfl rfl [(2, none)] (by kernel_rfl) (fun af wf hbw hz hf Kf hKf => ?_)
      obtain ⟨g2, _⟩ := hf
      have h2 : af.tmps[2]?.getD undef = .pointer (some ⟨w.heap.size, 0, none⟩) := g2
      clear g2
      obtain ⟨_, hz0, hz1⟩ := hz 4 rfl (by kernel_rfl)
      have cB9 := hz0.cell
      go_simp
      exact hKf _ _ (Below.refl _ _) rfl
    | 1, _ =>
      refine StepV.plain _ rfl rfl rfl [(5, some 0)] (by kernel_rfl) (fun af wf hbw hz hf Kf hKf => ?_)
      obtain ⟨g5, _⟩ := hf
      have h5 : af.tmps[5]?.getD undef = .agg #[.int .u64 x, .slice Aa na ca] := g5
      clear g5
      obtain ⟨_, hz0, hz1⟩ := hz 4 rfl (by kernel_rfl)
      have hzs := hbw.size
      go_simp
      refine (lcut_any x Aa na ca w.heap.size a false _ ((haN.kept ((Kept.refl _ _).drew.trans hbw)).rd) (by simp at hzs; omega)).mono ?_
      rintro e wN ⟨v6, rfl, hO6, hb6⟩
      exact hKf _ _ (hb6) (IsLog.of (mk := fun s => .agg #[.int .u64 x, s]) (by rw [HA.out]; exact hO6) hma (by intro z hz_; simp at hz_ hzs; omega) (gs_typed (hz0.on hb6) (hz1.on hb6) (by decide)))
    | 2, _ =>
      refine StepV.plain _ rfl rfl rfl [(3, none)] (by kernel_rfl) (fun af wf hbw hz hf Kf hKf => ?_)
      obtain ⟨g3, _⟩ := hf
      have h3 : af.tmps[3]?.getD undef = .pointer (some ⟨w.heap.size + 1, 0, none⟩) := g3
      clear g3
      obtain ⟨_, hz0, hz1⟩ := hz 4 rfl (by kernel_rfl)
      have cB9 := hz1.cell
      go_simp
      exact hKf _ _ (Below.refl _ _) rfl
    | 3, _ =>
      refine StepV.plain _ rfl rfl rfl [(7, some 2)] (by kernel_rfl) (fun af wf hbw hz hf Kf hKf => ?_)
      obtain ⟨g7, _⟩ := hf
      have h7 : af.tmps[7]?.getD undef = .agg #[.int .u64 y, .slice Ab nb cb] := g7
      clear g7
      obtain ⟨_, hz0, hz1⟩ := hz 4 rfl (by kernel_rfl)
      have hzs := hbw.size
      go_simp
      refine (lcut_any y Ab nb cb w.heap.size b false _ ((hbN.kept ((Kept.refl _ _).drew.trans hbw)).rd) (by simp at hzs; omega)).mono ?_
      rintro e wN ⟨v8, rfl, hO8, hb8⟩
      exact hKf _ _ (hb8) (IsLog.of (mk := fun s => .agg #[.int .u64 y, s]) (by rw [HB.out]; exact hO8) hmb (by intro z hz_; simp at hz_ hzs; omega) (gs_typed (hz0.on hb8) (hz1.on hb8) (by decide)))
    | 4, _ =>
      refine StepV.chain 0 _ rfl rfl rfl (by decide) [(2, none), (6, some 1)] (by kernel_rfl) (fun af wf hbw hiv hf Kf hKf => ?_)
      obtain ⟨uv, hiv, hlast⟩ := hiv
      obtain ⟨g2, g6, _⟩ := hf
      have h2 : af.tmps[2]?.getD undef = .pointer (some ⟨w.heap.size, 0, none⟩) := g2
      have g6 : IsLog entK [w.heap.size, w.heap.size + 1] w.heap.size 5 (fun s => .agg #[.int .u64 x, s]) ma a' (af.tmps[6]?.getD undef) wf := g6
      obtain ⟨A6, c6, h6, hL6, hn6, hm6⟩ := g6
      clear g2
      have cB9 := hiv.1.cell
      have fB9 := hiv.1.frozen
      have hk1 : Kept [w.heap.size, w.heap.size + 1] wf ((wf.setCell ⟨w.heap.size, 0, none⟩ (.int .u64 x)).setCell ⟨w.heap.size, 1, none⟩ (.slice A6 ma c6)) := Kept.setCell (Kept.setCell (.refl _ _) (by simp) _) (by simp) _
      go_simp
      exact hKf undef _ (hk1) (⟨⟨A6, c6, by simpa using (hiv.1.set_ 0 (.int .u64 x)).set_ 1 (.slice A6 ma c6), hL6.kept hk1, hn6, hm6⟩, (hiv.2.far (by simp) _).far (by simp) _⟩) (trivial)
    | 5, _ =>
      refine StepV.chain 1 _ rfl rfl rfl (by decide) [(3, none), (8, some 3)] (by kernel_rfl) (fun af wf hbw hiv hf Kf hKf => ?_)
      obtain ⟨uv, hiv, hlast⟩ := hiv
      obtain ⟨g3, g8, _⟩ := hf
      have h3 : af.tmps[3]?.getD undef = .pointer (some ⟨w.heap.size + 1, 0, none⟩) := g3
      have g8 : IsLog entK [w.heap.size, w.heap.size + 1] w.heap.size 5 (fun s => .agg #[.int .u64 y, s]) mb b' (af.tmps[8]?.getD undef) wf := g8
      obtain ⟨A8, c8, h8, hL8, hn8, hm8⟩ := g8
      clear g3
      have cB9 := hiv.2.cell
      have fB9 := hiv.2.frozen
      have hk1 : Kept [w.heap.size, w.heap.size + 1] wf ((wf.setCell ⟨w.heap.size + 1, 0, none⟩ (.int .u64 y)).setCell ⟨w.heap.size + 1, 1, none⟩ (.slice A8 mb c8)) := Kept.setCell (Kept.setCell (.refl _ _) (by simp) _) (by simp) _
      obtain ⟨⟨A7, c7, hB7, hR7, hn7, hm7⟩, hB8⟩ := hiv
      go_simp
      exact hKf undef _ (hk1) (⟨⟨A7, c7, (hB7.far (by simp) _).far (by simp) _, hR7.kept hk1, hn7, hm7⟩, ⟨A8, c8, by simpa using (hB8.set_ 0 (.int .u64 y)).set_ 1 (.slice A8 mb c8), hL8.kept hk1, hn8, hm8⟩⟩) (trivial)
    | i + 6, h => exact absurd h (by show ¬ (i + 6 < 6); omega)
  · intro af wF hbF hiF hdF hsF hbaseF hfactF
    obtain ⟨T, dsF⟩ := af
    obtain rfl : dsF = _ := hdF
    have e0 := hbaseF 0 (not_dst (by kernel_rfl))
    simp only [List.getElem?_toArray, List.getElem?_cons_zero, Option.getD_some] at e0
    have e1 := hbaseF 1 (not_dst (by kernel_rfl))
    simp only [List.getElem?_toArray, List.getElem?_cons_zero, List.getElem?_cons_succ, Option.getD_some] at e1
    have e2 := hbaseF 2 (not_dst (by kernel_rfl))
    simp only [List.getElem?_toArray, List.getElem?_cons_zero, List.getElem?_cons_succ, Option.getD_some] at e2
    have e3 := hbaseF 3 (not_dst (by kernel_rfl))
    simp only [List.getElem?_toArray, List.getElem?_cons_zero, List.getElem?_cons_succ, Option.getD_some] at e3
    have e4 := hbaseF 4 (not_dst (by kernel_rfl))
    simp only [List.getElem?_toArray, List.getElem?_cons_zero, List.getElem?_cons_succ, Option.getD_some] at e4
    have e9 := hbaseF 9 (not_dst (by kernel_rfl))
    simp only [List.getElem?_toArray, List.getElem?_cons_zero, List.getElem?_cons_succ, Option.getD_some] at e9
    have e10 := hbaseF 10 (not_dst (by kernel_rfl))
    simp only [List.getElem?_toArray, List.getElem?_cons_zero, List.getElem?_cons_succ, Option.getD_some] at e10
    have e11 := hbaseF 11 (not_dst (by kernel_rfl))
    simp only [List.getElem?_toArray, List.getElem?_cons_zero, List.getElem?_cons_succ, Option.getD_some] at e11
    have e12 := hbaseF 12 (not_dst (by kernel_rfl))
    simp only [List.getElem?_toArray, List.getElem?_cons_zero, List.getElem?_cons_succ, Option.getD_some] at e12
    have e13 := hbaseF 13 (not_dst (by kernel_rfl))
    simp only [List.getElem?_toArray, List.getElem?_cons_zero, List.getElem?_cons_succ, Option.getD_some] at e13
    have e14 := hbaseF 14 (not_dst (by kernel_rfl))
    simp only [List.getElem?_toArray, List.getElem?_cons_zero, List.getElem?_cons_succ, Option.getD_some] at e14
    have e15 := hbaseF 15 (not_dst (by kernel_rfl))
    simp only [List.getElem?_toArray, List.getElem?_cons_zero, List.getElem?_cons_succ, Option.getD_some] at e15
    have e16 := hbaseF 16 (not_dst (by kernel_rfl))
    simp only [List.getElem?_toArray, List.getElem?_cons_zero, List.getElem?_cons_succ, Option.getD_some] at e16
    have e17 := hbaseF 17 (not_dst (by kernel_rfl))
    simp only [List.getElem?_toArray, List.getElem?_cons_zero, List.getElem?_cons_succ, Option.getD_some] at e17
    have e18 := hbaseF 18 (not_dst (by kernel_rfl))
    simp only [List.getElem?_toArray, List.getElem?_cons_zero, List.getElem?_cons_succ, Option.getD_some] at e18
    have e19 := hbaseF 19 (not_dst (by kernel_rfl))
    simp only [List.getElem?_toArray, List.getElem?_cons_zero, List.getElem?_cons_succ, Option.getD_some] at e19
    have e20 := hbaseF 20 (not_dst (by kernel_rfl))
    simp only [List.getElem?_toArray, List.getElem?_cons_zero, List.getElem?_cons_succ, Option.getD_some] at e20
    have e21 := hbaseF 21 (not_dst (by kernel_rfl))
    simp only [List.getElem?_toArray, List.getElem?_cons_zero, List.getElem?_cons_succ, Option.getD_some] at e21
    have e22 := hbaseF 22 (not_dst (by kernel_rfl))
    simp only [List.getElem?_toArray, List.getElem?_cons_zero, List.getElem?_cons_succ, Option.getD_some] at e22
    have e23 := hbaseF 23 (not_dst (by kernel_rfl))
    simp only [List.getElem?_toArray, List.getElem?_cons_zero, List.getElem?_cons_succ, Option.getD_some] at e23
    have e24 := hbaseF 24 (not_dst (by kernel_rfl))
    simp only [List.getElem?_toArray, List.getElem?_cons_zero, List.getElem?_cons_succ, Option.getD_some] at e24
    have e25 := hbaseF 25 (not_dst (by kernel_rfl))
    simp only [List.getElem?_toArray, List.getElem?_cons_zero, List.getElem?_cons_succ, Option.getD_some] at e25
    have e26 := hbaseF 26 (not_dst (by kernel_rfl))
    simp only [List.getElem?_toArray, List.getElem?_cons_zero, List.getElem?_cons_succ, Option.getD_some] at e26
    have e27 := hbaseF 27 (not_dst (by kernel_rfl))
    simp only [List.getElem?_toArray, List.getElem?_cons_zero, List.getElem?_cons_succ, Option.getD_some] at e27
    clear hbaseF hfactF
    have hT : T = #[T[0]?.getD undef, T[1]?.getD undef, T[2]?.getD undef, T[3]?.getD undef, T[4]?.getD undef, T[5]?.getD undef, T[6]?.getD undef, T[7]?.getD undef, T[8]?.getD undef, T[9]?.getD undef, T[10]?.getD undef, T[11]?.getD undef, T[12]?.getD undef, T[13]?.getD undef, T[14]?.getD undef, T[15]?.getD undef, T[16]?.getD undef, T[17]?.getD undef, T[18]?.getD undef, T[19]?.getD undef, T[20]?.getD undef, T[21]?.getD undef, T[22]?.getD undef, T[23]?.getD undef, T[24]?.getD undef, T[25]?.getD undef, T[26]?.getD undef, T[27]?.getD undef] := arr_eq T 28 hsF
    clear hsF
    rw [e0] at hT; clear e0
    rw [e1] at hT; clear e1
    rw [e2] at hT; clear e2
    rw [e3] at hT; clear e3
    rw [e4] at hT; clear e4
    generalize T[5]?.getD undef = u5 at hT
    generalize T[6]?.getD undef = u6 at hT
    generalize T[7]?.getD undef = u7 at hT
    generalize T[8]?.getD undef = u8 at hT
    rw [e9] at hT; clear e9
    rw [e10] at hT; clear e10
    rw [e11] at hT; clear e11
    rw [e12] at hT; clear e12
    rw [e13] at hT; clear e13
    rw [e14] at hT; clear e14
    rw [e15] at hT; clear e15
    rw [e16] at hT; clear e16
    rw [e17] at hT; clear e17
    rw [e18] at hT; clear e18
    rw [e19] at hT; clear e19
    rw [e20] at hT; clear e20
    rw [e21] at hT; clear e21
    rw [e22] at hT; clear e22
    rw [e23] at hT; clear e23
    rw [e24] at hT; clear e24
    rw [e25] at hT; clear e25
    rw [e26] at hT; clear e26
    rw [e27] at hT; clear e27
    subst hT
    obtain ⟨_, ⟨Ax, cx, BX, RX, hx1, hx2⟩, ⟨Ay, cy, BY, RY, hy1, hy2⟩⟩ := hiF
    have RXr := RX.rd
    have RYr := RY.rd
    have bF : Below w.heap.size w wF := b1.trans (hbF.below (by omega) (by simp))
    have hzF := hbF.size
    obtain ⟨Z, hZ⟩ : ∃ Z, Z = sameLog x y a' b' := ⟨_, rfl⟩
    have HZ := Lib.hid hZ
    have HS := Lib.hid (show sameLog x x a' a' = true by simp [sameLog])
    clear hZ RX RY haN hbN P0 Q0 hbF b1
    go_wp2_with fail
    refine wp_flows [(fun y_ _ => y_ = .agg #[.int .u64 x, .slice Ax ma cx]), IsLg 5 x ma a', (fun y_ _ => y_ = .agg #[.int .u64 y, .slice Ay mb cy]), IsLg 5 y mb b', (fun y_ _ => y_ = .bool Z), (fun y_ _ => y_ = .agg #[.int .u64 x, .slice Ax ma cx]), (fun y_ _ => y_ = .agg #[.int .u64 y, .slice Ay mb cy]), (fun y_ _ => y_ = .bool Z), (fun y_ _ => y_ = .bool true), (fun y_ _ => y_ = .bool true), (fun y_ _ => y_ = .agg #[.int .u64 x, .slice Ax ma cx]), IsLg 5 x ma a', (fun y_ _ => y_ = .agg #[.int .u64 x, .slice Ax ma cx]), IsLg 5 x ma a', (fun y_ _ => y_ = .bool true), (fun y_ _ => y_ = .bool true), (fun y_ _ => y_ = .bool true), (fun y_ _ => y_ = .bool true), (fun y_ _ => y_ = .bool true), (fun y_ _ => y_ = .bool true)] (by kernel_rfl) ⟨Stab.eq _, IsLg.stab _ _ _ _, Stab.eq _, IsLg.stab _ _ _ _, Stab.eq _, Stab.eq _, Stab.eq _, Stab.eq _, Stab.eq _, Stab.eq _, Stab.eq _, IsLg.stab _ _ _ _, Stab.eq _, IsLg.stab _ _ _ _, Stab.eq _, Stab.eq _, Stab.eq _, Stab.eq _, Stab.eq _, Stab.eq _, trivial⟩ (by kernel_rfl) (by rfl) ?_ ?_
    · intro kq hkq
      match kq, hkq with
      | 0, _ =>
        refine StepOk.plain _ 9 rfl rfl rfl [(2, none)] (by kernel_rfl) (fun af wf hbw hf Kf hKf => ?_)
        obtain ⟨g2, _⟩ := hf
        have h2 : af.tmps[2]?.getD undef = .pointer (some ⟨w.heap.size, 0, none⟩) := g2
        clear g2
        have cB0 := (Blk.on (Blk.drew (BX)) hbw).cell
        have cB1 := (Blk.on (Blk.drew (BY)) hbw).cell
        go_simp
        exact hKf _ _ (Below.refl _ _) rfl
      | 1, _ =>
        refine StepOk.plain _ 10 rfl rfl rfl [(9, some 0)] (by kernel_rfl) (fun af wf hbw hf Kf hKf => ?_)
        obtain ⟨g9, _⟩ := hf
        have h9 : af.tmps[9]?.getD undef = .agg #[.int .u64 x, .slice Ax ma cx] := g9
        clear g9
        go_simp
        refine (lours_any x Ax ma cx w.heap.size a' _ (RdR.below RXr.drew hbw) (by have := hbw.size; simp at this; omega) (by omega) HLa.out).mono ?_
        rintro e wN ⟨v, rfl, hO, hb⟩
        exact hKf _ _ (hb) (IsLg.of hO hma)
      | 2, _ =>
        refine StepOk.plain _ 11 rfl rfl rfl [(3, none)] (by kernel_rfl) (fun af wf hbw hf Kf hKf => ?_)
        obtain ⟨g3, _⟩ := hf
        have h3 : af.tmps[3]?.getD undef = .pointer (some ⟨w.heap.size + 1, 0, none⟩) := g3
        clear g3
        have cB0 := (Blk.on (Blk.drew (BX)) hbw).cell
        have cB1 := (Blk.on (Blk.drew (BY)) hbw).cell
        go_simp
        exact hKf _ _ (Below.refl _ _) rfl
      | 3, _ =>
        refine StepOk.plain _ 12 rfl rfl rfl [(11, some 2)] (by kernel_rfl) (fun af wf hbw hf Kf hKf => ?_)
        obtain ⟨g11, _⟩ := hf
        have h11 : af.tmps[11]?.getD undef = .agg #[.int .u64 y, .slice Ay mb cy] := g11
        clear g11
        go_simp
        refine (lours_any y Ay mb cy w.heap.size b' _ (RdR.below RYr.drew hbw) (by have := hbw.size; simp at this; omega) (by omega) HLb.out).mono ?_
        rintro e wN ⟨v, rfl, hO, hb⟩
        exact hKf _ _ (hb) (IsLg.of hO hmb)
      | 4, _ =>
        refine StepOk.plain _ 13 rfl rfl rfl [(10, some 1), (12, some 3)] (by kernel_rfl) (fun af wf hbw hf Kf hKf => ?_)
        obtain ⟨g10, g12, _⟩ := hf
        have g10 : IsLg 5 x ma a' (af.tmps[10]?.getD undef) wf := g10
        obtain ⟨A10, c10, B10, h10, hR10, hn10, hm10⟩ := g10
        have g12 : IsLg 5 y mb b' (af.tmps[12]?.getD undef) wf := g12
        obtain ⟨A12, c12, B12, h12, hR12, hn12, hm12⟩ := g12
        go_simp
        refine (logsame_any x y _ _ ma mb _ _ _ _ _ _ a' b' _ hR10 hR12 (by omega)).mono ?_
        rintro e wN ⟨rfl, hb⟩
        exact hKf _ _ (hb) (congrArg Value.bool HZ.out.symm)
      | 5, _ =>
        refine StepOk.plain _ 14 rfl rfl rfl [(2, none)] (by kernel_rfl) (fun af wf hbw hf Kf hKf => ?_)
        obtain ⟨g2, _⟩ := hf
        have h2 : af.tmps[2]?.getD undef = .pointer (some ⟨w.heap.size, 0, none⟩) := g2
        clear g2
        have cB0 := (Blk.on (Blk.drew (BX)) hbw).cell
        have cB1 := (Blk.on (Blk.drew (BY)) hbw).cell
        go_simp
        exact hKf _ _ (Below.refl _ _) rfl
      | 6, _ =>
        refine StepOk.plain _ 15 rfl rfl rfl [(3, none)] (by kernel_rfl) (fun af wf hbw hf Kf hKf => ?_)
        obtain ⟨g3, _⟩ := hf
        have h3 : af.tmps[3]?.getD undef = .pointer (some ⟨w.heap.size + 1, 0, none⟩) := g3
        clear g3
        have cB0 := (Blk.on (Blk.drew (BX)) hbw).cell
        have cB1 := (Blk.on (Blk.drew (BY)) hbw).cell
        go_simp
        exact hKf _ _ (Below.refl _ _) rfl
      | 7, _ =>
        refine StepOk.plain _ 16 rfl rfl rfl [(14, some 5), (15, some 6)] (by kernel_rfl) (fun af wf hbw hf Kf hKf => ?_)
        obtain ⟨g14, g15, _⟩ := hf
        have h14 : af.tmps[14]?.getD undef = .agg #[.int .u64 x, .slice Ax ma cx] := g14
        have h15 : af.tmps[15]?.getD undef = .agg #[.int .u64 y, .slice Ay mb cy] := g15
        clear g14 g15
        go_simp
        refine (rlogsame_any x y _ _ ma mb _ _ _ _ _ _ a' b' _ (RdR.below RXr.drew hbw) (RdR.below RYr.drew hbw) (by omega)).mono ?_
        rintro e wN ⟨rfl, hb⟩
        exact hKf _ _ (hb) (congrArg Value.bool HZ.out.symm)
      | 8, _ =>
        refine StepOk.plain _ 17 rfl rfl rfl [(13, some 4), (16, some 7)] (by kernel_rfl) (fun af wf hbw hf Kf hKf => ?_)
        obtain ⟨g13, g16, _⟩ := hf
        have h13 : af.tmps[13]?.getD undef = .bool Z := g13
        have h16 : af.tmps[16]?.getD undef = .bool Z := g16
        clear g13 g16
        go_simp
        exact hKf _ _ (Below.refl _ _) rfl
      | 9, _ =>
        refine StepOk.plain _ 18 rfl rfl rfl [(17, some 8)] (by kernel_rfl) (fun af wf hbw hf Kf hKf => ?_)
        obtain ⟨g17, _⟩ := hf
        have h17 : af.tmps[17]?.getD undef = .bool true := g17
        clear g17
        go_simp
        exact hKf _ _ (Below.refl _ _) rfl
      | 10, _ =>
        refine StepOk.yes _ 19 rfl rfl rfl rfl (fun _ _ h => h) [(2, none)] (by kernel_rfl) (fun af wf hbw hf Kf hKf => ?_)
        obtain ⟨g2, _⟩ := hf
        have h2 : af.tmps[2]?.getD undef = .pointer (some ⟨w.heap.size, 0, none⟩) := g2
        clear g2
        have cB0 := (Blk.on (Blk.drew (BX)) hbw).cell
        have cB1 := (Blk.on (Blk.drew (BY)) hbw).cell
        go_simp
        exact hKf _ _ (Below.refl _ _) rfl
      | 11, _ =>
        refine StepOk.yes _ 20 rfl rfl rfl rfl (fun _ _ h => h) [(19, some 10)] (by kernel_rfl) (fun af wf hbw hf Kf hKf => ?_)
        obtain ⟨g19, _⟩ := hf
        have h19 : af.tmps[19]?.getD undef = .agg #[.int .u64 x, .slice Ax ma cx] := g19
        clear g19
        go_simp
        refine (lours_any x Ax ma cx w.heap.size a' _ (RdR.below RXr.drew hbw) (by have := hbw.size; simp at this; omega) (by omega) HLa.out).mono ?_
        rintro e wN ⟨v, rfl, hO, hb⟩
        exact hKf _ _ (hb) (IsLg.of hO hma)
      | 12, _ =>
        refine StepOk.yes _ 21 rfl rfl rfl rfl (fun _ _ h => h) [(2, none)] (by kernel_rfl) (fun af wf hbw hf Kf hKf => ?_)
        obtain ⟨g2, _⟩ := hf
        have h2 : af.tmps[2]?.getD undef = .pointer (some ⟨w.heap.size, 0, none⟩) := g2
        clear g2
        have cB0 := (Blk.on (Blk.drew (BX)) hbw).cell
        have cB1 := (Blk.on (Blk.drew (BY)) hbw).cell
        go_simp
        exact hKf _ _ (Below.refl _ _) rfl
      | 13, _ =>
        refine StepOk.yes _ 22 rfl rfl rfl rfl (fun _ _ h => h) [(21, some 12)] (by kernel_rfl) (fun af wf hbw hf Kf hKf => ?_)
        obtain ⟨g21, _⟩ := hf
        have h21 : af.tmps[21]?.getD undef = .agg #[.int .u64 x, .slice Ax ma cx] := g21
        clear g21
        go_simp
        refine (lours_any x Ax ma cx w.heap.size a' _ (RdR.below RXr.drew hbw) (by have := hbw.size; simp at this; omega) (by omega) HLa.out).mono ?_
        rintro e wN ⟨v, rfl, hO, hb⟩
        exact hKf _ _ (hb) (IsLg.of hO hma)
      | 14, _ =>
        refine StepOk.yes _ 23 rfl rfl rfl rfl (fun _ _ h => h) [(20, some 11), (22, some 13)] (by kernel_rfl) (fun af wf hbw hf Kf hKf => ?_)
        obtain ⟨g20, g22, _⟩ := hf
        have g20 : IsLg 5 x ma a' (af.tmps[20]?.getD undef) wf := g20
        obtain ⟨A20, c20, B20, h20, hR20, hn20, hm20⟩ := g20
        have g22 : IsLg 5 x ma a' (af.tmps[22]?.getD undef) wf := g22
        obtain ⟨A22, c22, B22, h22, hR22, hn22, hm22⟩ := g22
        go_simp
        refine (logsame_any x x _ _ ma ma _ _ _ _ _ _ a' a' _ hR20 hR22 (by omega)).mono ?_
        rintro e wN ⟨rfl, hb⟩
        exact hKf _ _ (hb) (congrArg Value.bool HS.out)
      | 15, _ =>
        refine StepOk.plain _ 24 rfl rfl rfl [(18, some 9), (23, some 14)] (by kernel_rfl) (fun af wf hbw hf Kf hKf => ?_)
        obtain ⟨g18, g23, _⟩ := hf
        have h18 : af.tmps[18]?.getD undef = .bool true := g18
        have h23 : af.tmps[23]?.getD undef = .bool true := g23
        clear g18 g23
        go_simp
        exact hKf _ _ (Below.refl _ _) rfl
      | 16, _ =>
        refine StepOk.plain _ 25 rfl rfl rfl [(24, some 15)] (by kernel_rfl) (fun af wf hbw hf Kf hKf => ?_)
        obtain ⟨g24, _⟩ := hf
        have h24 : af.tmps[24]?.getD undef = .bool true := g24
        clear g24
        go_simp
        exact hKf _ _ (Below.refl _ _) rfl
      | 17, _ =>
        refine StepOk.yes _ 26 rfl rfl rfl rfl (fun _ _ h => h) [] (by kernel_rfl) (fun af wf hbw hf Kf hKf => ?_)
        go_simp
        refine (lawake_any _).mono ?_
        rintro e wN ⟨rfl, hb⟩
        exact hKf _ _ (hb) (rfl)
      | 18, _ =>
        refine StepOk.plain _ 27 rfl rfl rfl [(25, some 16), (26, some 17)] (by kernel_rfl) (fun af wf hbw hf Kf hKf => ?_)
        obtain ⟨g25, g26, _⟩ := hf
        have h25 : af.tmps[25]?.getD undef = .bool true := g25
        have h26 : af.tmps[26]?.getD undef = .bool true := g26
        clear g25 g26
        go_simp
        exact hKf _ _ (Below.refl _ _) rfl
      | 19, _ =>
        refine StepOk.plain _ 4 rfl rfl rfl [(27, some 18)] (by kernel_rfl) (fun af wf hbw hf Kf hKf => ?_)
        obtain ⟨g27, _⟩ := hf
        have h27 : af.tmps[27]?.getD undef = .bool true := g27
        clear g27
        go_simp
        exact hKf _ _ (Below.refl _ _) rfl
      | i + 20, h => exact absurd h (by show ¬ (i + 20 < 20); omega)
    · intro af wF hbF hdF hsF hbaseF hfactF
      obtain ⟨T, dsF⟩ := af
      obtain rfl : dsF = _ := hdF
      have e0 := hbaseF 0 (not_dst (by kernel_rfl))
      simp only [List.getElem?_toArray, List.getElem?_cons_zero, Option.getD_some] at e0
      have e1 := hbaseF 1 (not_dst (by kernel_rfl))
      simp only [List.getElem?_toArray, List.getElem?_cons_zero, List.getElem?_cons_succ, Option.getD_some] at e1
      have e2 := hbaseF 2 (not_dst (by kernel_rfl))
      simp only [List.getElem?_toArray, List.getElem?_cons_zero, List.getElem?_cons_succ, Option.getD_some] at e2
      have e3 := hbaseF 3 (not_dst (by kernel_rfl))
      simp only [List.getElem?_toArray, List.getElem?_cons_zero, List.getElem?_cons_succ, Option.getD_some] at e3
      have e5 := hbaseF 5 (not_dst (by kernel_rfl))
      simp only [List.getElem?_toArray, List.getElem?_cons_zero, List.getElem?_cons_succ, Option.getD_some] at e5
      have e6 := hbaseF 6 (not_dst (by kernel_rfl))
      simp only [List.getElem?_toArray, List.getElem?_cons_zero, List.getElem?_cons_succ, Option.getD_some] at e6
      have e7 := hbaseF 7 (not_dst (by kernel_rfl))
      simp only [List.getElem?_toArray, List.getElem?_cons_zero, List.getElem?_cons_succ, Option.getD_some] at e7
      have e8 := hbaseF 8 (not_dst (by kernel_rfl))
      simp only [List.getElem?_toArray, List.getElem?_cons_zero, List.getElem?_cons_succ, Option.getD_some] at e8
      have e4 := hfactF 19 4 (by decide) rfl
      replace e4 : T[4]?.getD undef = .bool true := e4
      clear hbaseF hfactF
      have hT : T = #[T[0]?.getD undef, T[1]?.getD undef, T[2]?.getD undef, T[3]?.getD undef, T[4]?.getD undef, T[5]?.getD undef, T[6]?.getD undef, T[7]?.getD undef, T[8]?.getD undef, T[9]?.getD undef, T[10]?.getD undef, T[11]?.getD undef, T[12]?.getD undef, T[13]?.getD undef, T[14]?.getD undef, T[15]?.getD undef, T[16]?.getD undef, T[17]?.getD undef, T[18]?.getD undef, T[19]?.getD undef, T[20]?.getD undef, T[21]?.getD undef, T[22]?.getD undef, T[23]?.getD undef, T[24]?.getD undef, T[25]?.getD undef, T[26]?.getD undef, T[27]?.getD undef] := arr_eq T 28 hsF
      clear hsF
      rw [e0] at hT; clear e0
      rw [e1] at hT; clear e1
      rw [e2] at hT; clear e2
      rw [e3] at hT; clear e3
      rw [e4] at hT; clear e4
      rw [e5] at hT; clear e5
      rw [e6] at hT; clear e6
      rw [e7] at hT; clear e7
      rw [e8] at hT; clear e8
      generalize T[9]?.getD undef = u9 at hT
      generalize T[10]?.getD undef = u10 at hT
      generalize T[11]?.getD undef = u11 at hT
      generalize T[12]?.getD undef = u12 at hT
      generalize T[13]?.getD undef = u13 at hT
      generalize T[14]?.getD undef = u14 at hT
      generalize T[15]?.getD undef = u15 at hT
      generalize T[16]?.getD undef = u16 at hT
      generalize T[17]?.getD undef = u17 at hT
      generalize T[18]?.getD undef = u18 at hT
      generalize T[19]?.getD undef = u19 at hT
      generalize T[20]?.getD undef = u20 at hT
      generalize T[21]?.getD undef = u21 at hT
      generalize T[22]?.getD undef = u22 at hT
      generalize T[23]?.getD undef = u23 at hT
      generalize T[24]?.getD undef = u24 at hT
      generalize T[25]?.getD undef = u25 at hT
      generalize T[26]?.getD undef = u26 at hT
      generalize T[27]?.getD undef = u27 at hT
      subst hT
      go_wp2_with fail
      go_ret
      exact ⟨rfl, (by (have q_hbF := Below.size hbF; (try simp at q_hbF); have q_bF := Below.size bF; (try simp at q_bF); repeat (first | exact Below.refl _ _ | (refine Below.trans ?_ (Below.mono hbF (by first | omega | (simp; omega) | simp))) | (refine Below.trans ?_ (Below.mono bF (by first | omega | (simp; omega) | simp))) | (refine Below.setCell ?_ (by first | omega | (simp; omega) | simp) _) | (refine Below.alloc ?_ (by first | omega | (simp; omega) | simp) _) | apply Below.drew | apply below_drewN)))⟩
end Go.Proofs.Ythepgnankelmeaa
