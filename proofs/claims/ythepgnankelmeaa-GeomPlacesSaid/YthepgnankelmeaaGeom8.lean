/- The walk of the statement GeomPlaces. -/
import Derived.Test.YthepgnankelmeaaGeom6
import Derived.Test.YthepgnankelmeaaGeom7
namespace Go.Proofs.Ythepgnankelmeaa
open Go.RowKit

set_option maxRecDepth 100000 in
set_option maxHeartbeats 8000000 in
theorem law_places (p t k : Int) (w : World) :
    Calls Try.prog 4 #[.agg #[.int .i64 p, .int .i64 t], .int .i64 k] w fun e w' => e = .returned (.bool true) ∧ Below w.heap.size w w' := by
  obtain ⟨q2, q3, q4⟩ := at_spots p t k
  obtain ⟨E, dE⟩ : ∃ E : Int, E = eAt p t k := ⟨_, rfl⟩
  obtain ⟨S, dS⟩ : ∃ S : Int, S = sAt p t k := ⟨_, rfl⟩
  obtain ⟨L, dL⟩ : ∃ L : Int, L = lAt p t k := ⟨_, rfl⟩
  obtain ⟨P, dP⟩ : ∃ P : Int, P = pageV p t k := ⟨_, rfl⟩
  obtain ⟨B, dB⟩ : ∃ B : Int, B = bytesV k := ⟨_, rfl⟩
  rw [← dE] at q2
  rw [← dS] at q3
  rw [← dL] at q4
  have HE := Lib.hid dE
  have HS := Lib.hid dS
  have HL := Lib.hid dL
  have HP := Lib.hid dP
  have HB := Lib.hid dB
  have H2 := Lib.hid q2
  have H3 := Lib.hid q3
  have H4 := Lib.hid q4
  clear dE dS dL dP dB q2 q3 q4
  go_enter Try.func4, Try.ntmps4
  go_upto_region 2 with fail
  go_cut [18] (fun s wx => s = .bool (decide (gmay p t = true ∧ 0 ≤ k ∧ k < p)) ∧ Blk wx w.heap.size 23 #[.int .i64 p, .int .i64 t] ∧ Below w.heap.size w wx)
  case first =>
    go_wp2_with fail
    refine (grmay_any _ _ _).mono ?_
    rintro e wa ⟨rfl, hba⟩
    have B1 := (Blk.new w _ _).on hba
    have c1 := B1.cell
    cases hm : gmay p t
    · go_wp2_with fail
      go_meet
      exact ⟨by simp [hm], B1, (by (have q_hba := Below.size hba; (try simp at q_hba); repeat (first | exact Below.refl _ _ | (refine Below.trans ?_ (Below.mono hba (by first | omega | (simp; omega) | simp))) | (refine Below.setCell ?_ (by first | omega | (simp; omega) | simp) _) | (refine Below.alloc ?_ (by first | omega | (simp; omega) | simp) _) | apply Below.drew | apply below_drewN)))⟩
    · rcases Int.lt_or_le k 0 with h0 | h0
      · go_wp2_with fail
        go_meet
        exact ⟨by congr 1; symm; simp [hm]; omega, B1, (by (have q_hba := Below.size hba; (try simp at q_hba); repeat (first | exact Below.refl _ _ | (refine Below.trans ?_ (Below.mono hba (by first | omega | (simp; omega) | simp))) | (refine Below.setCell ?_ (by first | omega | (simp; omega) | simp) _) | (refine Below.alloc ?_ (by first | omega | (simp; omega) | simp) _) | apply Below.drew | apply below_drewN)))⟩
      · rcases Int.lt_or_le k p with h1 | h1
        · go_wp2_with fail
          go_meet
          exact ⟨by congr 1; symm; simp [hm]; omega, B1, (by (have q_hba := Below.size hba; (try simp at q_hba); repeat (first | exact Below.refl _ _ | (refine Below.trans ?_ (Below.mono hba (by first | omega | (simp; omega) | simp))) | (refine Below.setCell ?_ (by first | omega | (simp; omega) | simp) _) | (refine Below.alloc ?_ (by first | omega | (simp; omega) | simp) _) | apply Below.drew | apply below_drewN)))⟩
        · go_wp2_with fail
          go_meet
          exact ⟨by congr 1; symm; simp [hm]; omega, B1, (by (have q_hba := Below.size hba; (try simp at q_hba); repeat (first | exact Below.refl _ _ | (refine Below.trans ?_ (Below.mono hba (by first | omega | (simp; omega) | simp))) | (refine Below.setCell ?_ (by first | omega | (simp; omega) | simp) _) | (refine Below.alloc ?_ (by first | omega | (simp; omega) | simp) _) | apply Below.drew | apply below_drewN)))⟩
  case rest =>
    obtain ⟨rfl, hB1, hb1⟩ := hcut
    go_upto_if 18 with fail
    go_cut [5] (fun s wx => s = .int .i64 P ∧ Blk wx w.heap.size 23 #[.int .i64 p, .int .i64 t] ∧ Below w.heap.size w wx)
    case first =>
      have c1 := hB1.cell
      by_cases hc : gmay p t = true ∧ 0 ≤ k ∧ k < p
      · have hP := Lib.hid (show P = 1 + mapsI p + k by rw [HP.out]; unfold pageV; rw [if_pos hc])
        rw [decide_eq_true hc]
        obtain ⟨hm, h0, h1⟩ := hc
        obtain ⟨p1, p2, p3, p4⟩ := gmay_true hm
        obtain ⟨m0, m1, s0, s1, e0, e1⟩ := geo_range p1 p2
        go_wp2_with fail
        refine (rmaps_any p t _ p1 p2).mono ?_
        rintro e wb ⟨rfl, hbb⟩
        go_wp2_with fail
        go_meet
        exact ⟨int_eq hP.out.symm, hB1.on hbb, (by (have q_hbb := Below.size hbb; (try simp at q_hbb); have q_hb1 := Below.size hb1; (try simp at q_hb1); repeat (first | exact Below.refl _ _ | (refine Below.trans ?_ (Below.mono hbb (by first | omega | (simp; omega) | simp))) | (refine Below.trans ?_ (Below.mono hb1 (by first | omega | (simp; omega) | simp))) | (refine Below.setCell ?_ (by first | omega | (simp; omega) | simp) _) | (refine Below.alloc ?_ (by first | omega | (simp; omega) | simp) _) | apply Below.drew | apply below_drewN)))⟩
      · have hP := Lib.hid (show P = -1 by rw [HP.out]; unfold pageV; rw [if_neg hc])
        rw [decide_eq_false hc]
        clear hc
        go_wp2_with fail
        go_meet
        exact ⟨int_eq hP.out.symm, hB1, (by (have q_hb1 := Below.size hb1; (try simp at q_hb1); repeat (first | exact Below.refl _ _ | (refine Below.trans ?_ (Below.mono hb1 (by first | omega | (simp; omega) | simp))) | (refine Below.setCell ?_ (by first | omega | (simp; omega) | simp) _) | (refine Below.alloc ?_ (by first | omega | (simp; omega) | simp) _) | apply Below.drew | apply below_drewN)))⟩
    case rest =>
      obtain ⟨rfl, hB2, hb2⟩ := hcut
      go_upto_region 5 with fail
      go_cut [29] (fun s wx => s = .bool (decide (0 ≤ k ∧ k < 65536)) ∧ Blk wx w.heap.size 23 #[.int .i64 p, .int .i64 t] ∧ Below w.heap.size w wx)
      case first =>
        rcases Int.lt_or_le k 0 with h0 | h0
        · go_wp2_with fail
          go_meet
          exact ⟨by congr 1; symm; simp; omega, hB2, (by (have q_hb2 := Below.size hb2; (try simp at q_hb2); repeat (first | exact Below.refl _ _ | (refine Below.trans ?_ (Below.mono hb2 (by first | omega | (simp; omega) | simp))) | (refine Below.setCell ?_ (by first | omega | (simp; omega) | simp) _) | (refine Below.alloc ?_ (by first | omega | (simp; omega) | simp) _) | apply Below.drew | apply below_drewN)))⟩
        · rcases Int.lt_or_le k 65536 with h1 | h1
          · go_wp2_with fail
            go_meet
            exact ⟨by congr 1; symm; simp; omega, hB2, (by (have q_hb2 := Below.size hb2; (try simp at q_hb2); repeat (first | exact Below.refl _ _ | (refine Below.trans ?_ (Below.mono hb2 (by first | omega | (simp; omega) | simp))) | (refine Below.setCell ?_ (by first | omega | (simp; omega) | simp) _) | (refine Below.alloc ?_ (by first | omega | (simp; omega) | simp) _) | apply Below.drew | apply below_drewN)))⟩
          · go_wp2_with fail
            go_meet
            exact ⟨by congr 1; symm; simp; omega, hB2, (by (have q_hb2 := Below.size hb2; (try simp at q_hb2); repeat (first | exact Below.refl _ _ | (refine Below.trans ?_ (Below.mono hb2 (by first | omega | (simp; omega) | simp))) | (refine Below.setCell ?_ (by first | omega | (simp; omega) | simp) _) | (refine Below.alloc ?_ (by first | omega | (simp; omega) | simp) _) | apply Below.drew | apply below_drewN)))⟩
      case rest =>
        obtain ⟨rfl, hB3, hb3⟩ := hcut
        go_upto_if 29 with fail
        go_cut [6] (fun s wx => s = .int .i64 B ∧ Blk wx w.heap.size 23 #[.int .i64 p, .int .i64 t] ∧ Below w.heap.size w wx)
        case first =>
          by_cases hc : 0 ≤ k ∧ k < 65536
          · have hP := Lib.hid (show B = 256 * k by rw [HB.out]; unfold bytesV; rw [if_pos hc])
            rw [decide_eq_true hc]
            obtain ⟨h0, h1⟩ := hc
            go_wp2_with fail
            go_meet
            exact ⟨int_eq hP.out.symm, hB3, (by (have q_hb3 := Below.size hb3; (try simp at q_hb3); repeat (first | exact Below.refl _ _ | (refine Below.trans ?_ (Below.mono hb3 (by first | omega | (simp; omega) | simp))) | (refine Below.setCell ?_ (by first | omega | (simp; omega) | simp) _) | (refine Below.alloc ?_ (by first | omega | (simp; omega) | simp) _) | apply Below.drew | apply below_drewN)))⟩
          · have hP := Lib.hid (show B = 0 by rw [HB.out]; unfold bytesV; rw [if_neg hc])
            rw [decide_eq_false hc]
            clear hc
            go_wp2_with fail
            go_meet
            exact ⟨int_eq hP.out.symm, hB3, (by (have q_hb3 := Below.size hb3; (try simp at q_hb3); repeat (first | exact Below.refl _ _ | (refine Below.trans ?_ (Below.mono hb3 (by first | omega | (simp; omega) | simp))) | (refine Below.setCell ?_ (by first | omega | (simp; omega) | simp) _) | (refine Below.alloc ?_ (by first | omega | (simp; omega) | simp) _) | apply Below.drew | apply below_drewN)))⟩
        case rest =>
          obtain ⟨rfl, hB4, hb4⟩ := hcut
          go_upto_region 7 with fail
          refine wp_flows [(fun y_ _ => y_ = .agg #[.int .i64 p, .int .i64 t]), (fun y_ _ => y_ = .int .i64 k), (fun y_ _ => y_ = .int .i64 E), (fun y_ _ => y_ = .agg #[.int .i64 p, .int .i64 t]), (fun y_ _ => y_ = .int .i64 k), (fun y_ _ => y_ = .int .i64 E), (fun y_ _ => y_ = .bool true), (fun y_ _ => y_ = .bool true), (fun y_ _ => y_ = .agg #[.int .i64 p, .int .i64 t]), (fun y_ _ => y_ = .int .i64 k), (fun y_ _ => y_ = .int .i64 S), (fun y_ _ => y_ = .agg #[.int .i64 p, .int .i64 t]), (fun y_ _ => y_ = .int .i64 k), (fun y_ _ => y_ = .int .i64 S), (fun y_ _ => y_ = .bool true), (fun y_ _ => y_ = .bool true), (fun y_ _ => y_ = .bool true), (fun y_ _ => y_ = .agg #[.int .i64 p, .int .i64 t]), (fun y_ _ => y_ = .int .i64 k), (fun y_ _ => y_ = .int .i64 L), (fun y_ _ => y_ = .agg #[.int .i64 p, .int .i64 t]), (fun y_ _ => y_ = .int .i64 k), (fun y_ _ => y_ = .int .i64 L), (fun y_ _ => y_ = .bool true), (fun y_ _ => y_ = .bool true), (fun y_ _ => y_ = .bool true), (fun y_ _ => y_ = .agg #[.int .i64 p, .int .i64 t]), (fun y_ _ => y_ = .int .i64 k), (fun y_ _ => y_ = .int .i64 P), (fun y_ _ => y_ = .int .i64 P), (fun y_ _ => y_ = .bool true), (fun y_ _ => y_ = .bool true), (fun y_ _ => y_ = .bool true), (fun y_ _ => y_ = .int .i64 k), (fun y_ _ => y_ = .int .i64 B), (fun y_ _ => y_ = .int .i64 B), (fun y_ _ => y_ = .bool true), (fun y_ _ => y_ = .bool true), (fun y_ _ => y_ = .bool true), (fun y_ _ => y_ = .bool true), (fun y_ _ => y_ = .bool true), (fun y_ _ => y_ = .bool true)] (by kernel_rfl) ⟨Stab.eq _, Stab.eq _, Stab.eq _, Stab.eq _, Stab.eq _, Stab.eq _, Stab.eq _, Stab.eq _, Stab.eq _, Stab.eq _, Stab.eq _, Stab.eq _, Stab.eq _, Stab.eq _, Stab.eq _, Stab.eq _, Stab.eq _, Stab.eq _, Stab.eq _, Stab.eq _, Stab.eq _, Stab.eq _, Stab.eq _, Stab.eq _, Stab.eq _, Stab.eq _, Stab.eq _, Stab.eq _, Stab.eq _, Stab.eq _, Stab.eq _, Stab.eq _, Stab.eq _, Stab.eq _, Stab.eq _, Stab.eq _, Stab.eq _, Stab.eq _, Stab.eq _, Stab.eq _, Stab.eq _, Stab.eq _, trivial⟩ (by kernel_rfl) (by rfl) ?_ ?_
          · intro kq hkq
            match kq, hkq with
            | 0, _ =>
              refine StepOk.plain _ 32 rfl rfl rfl [(2, none)] (by kernel_rfl) (fun af wf hbw hf Kf hKf => ?_)
              obtain ⟨g2, _⟩ := hf
              have h2 : af.tmps[2]?.getD undef = .pointer (some ⟨w.heap.size, 0, none⟩) := g2
              clear g2
              have cB0 := (Blk.on (Blk.drew (hB4)) hbw).cell
              go_simp
              exact hKf _ _ (Below.refl _ _) rfl
            | 1, _ =>
              refine StepOk.plain _ 33 rfl rfl rfl [(1, none)] (by kernel_rfl) (fun af wf hbw hf Kf hKf => ?_)
              obtain ⟨g1, _⟩ := hf
              have h1 : af.tmps[1]?.getD undef = .int .i64 k := g1
              clear g1
              go_simp
              exact hKf _ _ (Below.refl _ _) rfl
            | 2, _ =>
              refine StepOk.plain _ 34 rfl rfl rfl [(32, some 0), (33, some 1)] (by kernel_rfl) (fun af wf hbw hf Kf hKf => ?_)
              obtain ⟨g32, g33, _⟩ := hf
              have h32 : af.tmps[32]?.getD undef = .agg #[.int .i64 p, .int .i64 t] := g32
              have h33 : af.tmps[33]?.getD undef = .int .i64 k := g33
              clear g32 g33
              go_simp
              refine (eAt_any p t k _).mono ?_
              rintro e wN ⟨rfl, hb1⟩
              exact hKf _ _ (hb1) (int_eq HE.out.symm)
            | 3, _ =>
              refine StepOk.plain _ 35 rfl rfl rfl [(2, none)] (by kernel_rfl) (fun af wf hbw hf Kf hKf => ?_)
              obtain ⟨g2, _⟩ := hf
              have h2 : af.tmps[2]?.getD undef = .pointer (some ⟨w.heap.size, 0, none⟩) := g2
              clear g2
              have cB0 := (Blk.on (Blk.drew (hB4)) hbw).cell
              go_simp
              exact hKf _ _ (Below.refl _ _) rfl
            | 4, _ =>
              refine StepOk.plain _ 36 rfl rfl rfl [(1, none)] (by kernel_rfl) (fun af wf hbw hf Kf hKf => ?_)
              obtain ⟨g1, _⟩ := hf
              have h1 : af.tmps[1]?.getD undef = .int .i64 k := g1
              clear g1
              go_simp
              exact hKf _ _ (Below.refl _ _) rfl
            | 5, _ =>
              refine StepOk.plain _ 37 rfl rfl rfl [(35, some 3), (36, some 4)] (by kernel_rfl) (fun af wf hbw hf Kf hKf => ?_)
              obtain ⟨g35, g36, _⟩ := hf
              have h35 : af.tmps[35]?.getD undef = .agg #[.int .i64 p, .int .i64 t] := g35
              have h36 : af.tmps[36]?.getD undef = .int .i64 k := g36
              clear g35 g36
              go_simp
              refine (rat_any p t 2 k _).mono ?_
              rintro e wN ⟨rfl, hb1⟩
              exact hKf _ _ (hb1) (int_eq H2.out)
            | 6, _ =>
              refine StepOk.plain _ 38 rfl rfl rfl [(34, some 2), (37, some 5)] (by kernel_rfl) (fun af wf hbw hf Kf hKf => ?_)
              obtain ⟨g34, g37, _⟩ := hf
              have h34 : af.tmps[34]?.getD undef = .int .i64 E := g34
              have h37 : af.tmps[37]?.getD undef = .int .i64 E := g37
              clear g34 g37
              go_simp
              exact hKf _ _ (Below.refl _ _) rfl
            | 7, _ =>
              refine StepOk.plain _ 39 rfl rfl rfl [(38, some 6)] (by kernel_rfl) (fun af wf hbw hf Kf hKf => ?_)
              obtain ⟨g38, _⟩ := hf
              have h38 : af.tmps[38]?.getD undef = .bool true := g38
              clear g38
              go_simp
              exact hKf _ _ (Below.refl _ _) rfl
            | 8, _ =>
              refine StepOk.yes _ 40 rfl rfl rfl rfl (fun _ _ h => h) [(2, none)] (by kernel_rfl) (fun af wf hbw hf Kf hKf => ?_)
              obtain ⟨g2, _⟩ := hf
              have h2 : af.tmps[2]?.getD undef = .pointer (some ⟨w.heap.size, 0, none⟩) := g2
              clear g2
              have cB0 := (Blk.on (Blk.drew (hB4)) hbw).cell
              go_simp
              exact hKf _ _ (Below.refl _ _) rfl
            | 9, _ =>
              refine StepOk.yes _ 41 rfl rfl rfl rfl (fun _ _ h => h) [(1, none)] (by kernel_rfl) (fun af wf hbw hf Kf hKf => ?_)
              obtain ⟨g1, _⟩ := hf
              have h1 : af.tmps[1]?.getD undef = .int .i64 k := g1
              clear g1
              go_simp
              exact hKf _ _ (Below.refl _ _) rfl
            | 10, _ =>
              refine StepOk.yes _ 42 rfl rfl rfl rfl (fun _ _ h => h) [(40, some 8), (41, some 9)] (by kernel_rfl) (fun af wf hbw hf Kf hKf => ?_)
              obtain ⟨g40, g41, _⟩ := hf
              have h40 : af.tmps[40]?.getD undef = .agg #[.int .i64 p, .int .i64 t] := g40
              have h41 : af.tmps[41]?.getD undef = .int .i64 k := g41
              clear g40 g41
              go_simp
              refine (sAt_any p t k _).mono ?_
              rintro e wN ⟨rfl, hb1⟩
              exact hKf _ _ (hb1) (int_eq HS.out.symm)
            | 11, _ =>
              refine StepOk.yes _ 43 rfl rfl rfl rfl (fun _ _ h => h) [(2, none)] (by kernel_rfl) (fun af wf hbw hf Kf hKf => ?_)
              obtain ⟨g2, _⟩ := hf
              have h2 : af.tmps[2]?.getD undef = .pointer (some ⟨w.heap.size, 0, none⟩) := g2
              clear g2
              have cB0 := (Blk.on (Blk.drew (hB4)) hbw).cell
              go_simp
              exact hKf _ _ (Below.refl _ _) rfl
            | 12, _ =>
              refine StepOk.yes _ 44 rfl rfl rfl rfl (fun _ _ h => h) [(1, none)] (by kernel_rfl) (fun af wf hbw hf Kf hKf => ?_)
              obtain ⟨g1, _⟩ := hf
              have h1 : af.tmps[1]?.getD undef = .int .i64 k := g1
              clear g1
              go_simp
              exact hKf _ _ (Below.refl _ _) rfl
            | 13, _ =>
              refine StepOk.yes _ 45 rfl rfl rfl rfl (fun _ _ h => h) [(43, some 11), (44, some 12)] (by kernel_rfl) (fun af wf hbw hf Kf hKf => ?_)
              obtain ⟨g43, g44, _⟩ := hf
              have h43 : af.tmps[43]?.getD undef = .agg #[.int .i64 p, .int .i64 t] := g43
              have h44 : af.tmps[44]?.getD undef = .int .i64 k := g44
              clear g43 g44
              go_simp
              refine (rat_any p t 3 k _).mono ?_
              rintro e wN ⟨rfl, hb1⟩
              exact hKf _ _ (hb1) (int_eq H3.out)
            | 14, _ =>
              refine StepOk.yes _ 46 rfl rfl rfl rfl (fun _ _ h => h) [(42, some 10), (45, some 13)] (by kernel_rfl) (fun af wf hbw hf Kf hKf => ?_)
              obtain ⟨g42, g45, _⟩ := hf
              have h42 : af.tmps[42]?.getD undef = .int .i64 S := g42
              have h45 : af.tmps[45]?.getD undef = .int .i64 S := g45
              clear g42 g45
              go_simp
              exact hKf _ _ (Below.refl _ _) rfl
            | 15, _ =>
              refine StepOk.plain _ 47 rfl rfl rfl [(39, some 7), (46, some 14)] (by kernel_rfl) (fun af wf hbw hf Kf hKf => ?_)
              obtain ⟨g39, g46, _⟩ := hf
              have h39 : af.tmps[39]?.getD undef = .bool true := g39
              have h46 : af.tmps[46]?.getD undef = .bool true := g46
              clear g39 g46
              go_simp
              exact hKf _ _ (Below.refl _ _) rfl
            | 16, _ =>
              refine StepOk.plain _ 48 rfl rfl rfl [(47, some 15)] (by kernel_rfl) (fun af wf hbw hf Kf hKf => ?_)
              obtain ⟨g47, _⟩ := hf
              have h47 : af.tmps[47]?.getD undef = .bool true := g47
              clear g47
              go_simp
              exact hKf _ _ (Below.refl _ _) rfl
            | 17, _ =>
              refine StepOk.yes _ 49 rfl rfl rfl rfl (fun _ _ h => h) [(2, none)] (by kernel_rfl) (fun af wf hbw hf Kf hKf => ?_)
              obtain ⟨g2, _⟩ := hf
              have h2 : af.tmps[2]?.getD undef = .pointer (some ⟨w.heap.size, 0, none⟩) := g2
              clear g2
              have cB0 := (Blk.on (Blk.drew (hB4)) hbw).cell
              go_simp
              exact hKf _ _ (Below.refl _ _) rfl
            | 18, _ =>
              refine StepOk.yes _ 50 rfl rfl rfl rfl (fun _ _ h => h) [(1, none)] (by kernel_rfl) (fun af wf hbw hf Kf hKf => ?_)
              obtain ⟨g1, _⟩ := hf
              have h1 : af.tmps[1]?.getD undef = .int .i64 k := g1
              clear g1
              go_simp
              exact hKf _ _ (Below.refl _ _) rfl
            | 19, _ =>
              refine StepOk.yes _ 51 rfl rfl rfl rfl (fun _ _ h => h) [(49, some 17), (50, some 18)] (by kernel_rfl) (fun af wf hbw hf Kf hKf => ?_)
              obtain ⟨g49, g50, _⟩ := hf
              have h49 : af.tmps[49]?.getD undef = .agg #[.int .i64 p, .int .i64 t] := g49
              have h50 : af.tmps[50]?.getD undef = .int .i64 k := g50
              clear g49 g50
              go_simp
              refine (lAt_any p t k _).mono ?_
              rintro e wN ⟨rfl, hb1⟩
              exact hKf _ _ (hb1) (int_eq HL.out.symm)
            | 20, _ =>
              refine StepOk.yes _ 52 rfl rfl rfl rfl (fun _ _ h => h) [(2, none)] (by kernel_rfl) (fun af wf hbw hf Kf hKf => ?_)
              obtain ⟨g2, _⟩ := hf
              have h2 : af.tmps[2]?.getD undef = .pointer (some ⟨w.heap.size, 0, none⟩) := g2
              clear g2
              have cB0 := (Blk.on (Blk.drew (hB4)) hbw).cell
              go_simp
              exact hKf _ _ (Below.refl _ _) rfl
            | 21, _ =>
              refine StepOk.yes _ 53 rfl rfl rfl rfl (fun _ _ h => h) [(1, none)] (by kernel_rfl) (fun af wf hbw hf Kf hKf => ?_)
              obtain ⟨g1, _⟩ := hf
              have h1 : af.tmps[1]?.getD undef = .int .i64 k := g1
              clear g1
              go_simp
              exact hKf _ _ (Below.refl _ _) rfl
            | 22, _ =>
              refine StepOk.yes _ 54 rfl rfl rfl rfl (fun _ _ h => h) [(52, some 20), (53, some 21)] (by kernel_rfl) (fun af wf hbw hf Kf hKf => ?_)
              obtain ⟨g52, g53, _⟩ := hf
              have h52 : af.tmps[52]?.getD undef = .agg #[.int .i64 p, .int .i64 t] := g52
              have h53 : af.tmps[53]?.getD undef = .int .i64 k := g53
              clear g52 g53
              go_simp
              refine (rat_any p t 4 k _).mono ?_
              rintro e wN ⟨rfl, hb1⟩
              exact hKf _ _ (hb1) (int_eq H4.out)
            | 23, _ =>
              refine StepOk.yes _ 55 rfl rfl rfl rfl (fun _ _ h => h) [(51, some 19), (54, some 22)] (by kernel_rfl) (fun af wf hbw hf Kf hKf => ?_)
              obtain ⟨g51, g54, _⟩ := hf
              have h51 : af.tmps[51]?.getD undef = .int .i64 L := g51
              have h54 : af.tmps[54]?.getD undef = .int .i64 L := g54
              clear g51 g54
              go_simp
              exact hKf _ _ (Below.refl _ _) rfl
            | 24, _ =>
              refine StepOk.plain _ 56 rfl rfl rfl [(48, some 16), (55, some 23)] (by kernel_rfl) (fun af wf hbw hf Kf hKf => ?_)
              obtain ⟨g48, g55, _⟩ := hf
              have h48 : af.tmps[48]?.getD undef = .bool true := g48
              have h55 : af.tmps[55]?.getD undef = .bool true := g55
              clear g48 g55
              go_simp
              exact hKf _ _ (Below.refl _ _) rfl
            | 25, _ =>
              refine StepOk.plain _ 57 rfl rfl rfl [(56, some 24)] (by kernel_rfl) (fun af wf hbw hf Kf hKf => ?_)
              obtain ⟨g56, _⟩ := hf
              have h56 : af.tmps[56]?.getD undef = .bool true := g56
              clear g56
              go_simp
              exact hKf _ _ (Below.refl _ _) rfl
            | 26, _ =>
              refine StepOk.yes _ 58 rfl rfl rfl rfl (fun _ _ h => h) [(2, none)] (by kernel_rfl) (fun af wf hbw hf Kf hKf => ?_)
              obtain ⟨g2, _⟩ := hf
              have h2 : af.tmps[2]?.getD undef = .pointer (some ⟨w.heap.size, 0, none⟩) := g2
              clear g2
              have cB0 := (Blk.on (Blk.drew (hB4)) hbw).cell
              go_simp
              exact hKf _ _ (Below.refl _ _) rfl
            | 27, _ =>
              refine StepOk.yes _ 59 rfl rfl rfl rfl (fun _ _ h => h) [(1, none)] (by kernel_rfl) (fun af wf hbw hf Kf hKf => ?_)
              obtain ⟨g1, _⟩ := hf
              have h1 : af.tmps[1]?.getD undef = .int .i64 k := g1
              clear g1
              go_simp
              exact hKf _ _ (Below.refl _ _) rfl
            | 28, _ =>
              refine StepOk.yes _ 60 rfl rfl rfl rfl (fun _ _ h => h) [(58, some 26), (59, some 27)] (by kernel_rfl) (fun af wf hbw hf Kf hKf => ?_)
              obtain ⟨g58, g59, _⟩ := hf
              have h58 : af.tmps[58]?.getD undef = .agg #[.int .i64 p, .int .i64 t] := g58
              have h59 : af.tmps[59]?.getD undef = .int .i64 k := g59
              clear g58 g59
              go_simp
              refine (page_any p t k _).mono ?_
              rintro e wN ⟨rfl, hb1⟩
              exact hKf _ _ (hb1) (int_eq HP.out.symm)
            | 29, _ =>
              refine StepOk.yes _ 61 rfl rfl rfl rfl (fun _ _ h => h) [(5, none)] (by kernel_rfl) (fun af wf hbw hf Kf hKf => ?_)
              obtain ⟨g5, _⟩ := hf
              have h5 : af.tmps[5]?.getD undef = .int .i64 P := g5
              clear g5
              go_simp
              exact hKf _ _ (Below.refl _ _) rfl
            | 30, _ =>
              refine StepOk.yes _ 62 rfl rfl rfl rfl (fun _ _ h => h) [(60, some 28), (61, some 29)] (by kernel_rfl) (fun af wf hbw hf Kf hKf => ?_)
              obtain ⟨g60, g61, _⟩ := hf
              have h60 : af.tmps[60]?.getD undef = .int .i64 P := g60
              have h61 : af.tmps[61]?.getD undef = .int .i64 P := g61
              clear g60 g61
              go_simp
              exact hKf _ _ (Below.refl _ _) rfl
            | 31, _ =>
              refine StepOk.plain _ 63 rfl rfl rfl [(57, some 25), (62, some 30)] (by kernel_rfl) (fun af wf hbw hf Kf hKf => ?_)
              obtain ⟨g57, g62, _⟩ := hf
              have h57 : af.tmps[57]?.getD undef = .bool true := g57
              have h62 : af.tmps[62]?.getD undef = .bool true := g62
              clear g57 g62
              go_simp
              exact hKf _ _ (Below.refl _ _) rfl
            | 32, _ =>
              refine StepOk.plain _ 64 rfl rfl rfl [(63, some 31)] (by kernel_rfl) (fun af wf hbw hf Kf hKf => ?_)
              obtain ⟨g63, _⟩ := hf
              have h63 : af.tmps[63]?.getD undef = .bool true := g63
              clear g63
              go_simp
              exact hKf _ _ (Below.refl _ _) rfl
            | 33, _ =>
              refine StepOk.yes _ 65 rfl rfl rfl rfl (fun _ _ h => h) [(1, none)] (by kernel_rfl) (fun af wf hbw hf Kf hKf => ?_)
              obtain ⟨g1, _⟩ := hf
              have h1 : af.tmps[1]?.getD undef = .int .i64 k := g1
              clear g1
              go_simp
              exact hKf _ _ (Below.refl _ _) rfl
            | 34, _ =>
              refine StepOk.yes _ 66 rfl rfl rfl rfl (fun _ _ h => h) [(65, some 33)] (by kernel_rfl) (fun af wf hbw hf Kf hKf => ?_)
              obtain ⟨g65, _⟩ := hf
              have h65 : af.tmps[65]?.getD undef = .int .i64 k := g65
              clear g65
              go_simp
              refine (bytes_any k _).mono ?_
              rintro e wN ⟨rfl, rfl⟩
              exact hKf _ _ (Below.refl _ _) (int_eq HB.out.symm)
            | 35, _ =>
              refine StepOk.yes _ 67 rfl rfl rfl rfl (fun _ _ h => h) [(6, none)] (by kernel_rfl) (fun af wf hbw hf Kf hKf => ?_)
              obtain ⟨g6, _⟩ := hf
              have h6 : af.tmps[6]?.getD undef = .int .i64 B := g6
              clear g6
              go_simp
              exact hKf _ _ (Below.refl _ _) rfl
            | 36, _ =>
              refine StepOk.yes _ 68 rfl rfl rfl rfl (fun _ _ h => h) [(66, some 34), (67, some 35)] (by kernel_rfl) (fun af wf hbw hf Kf hKf => ?_)
              obtain ⟨g66, g67, _⟩ := hf
              have h66 : af.tmps[66]?.getD undef = .int .i64 B := g66
              have h67 : af.tmps[67]?.getD undef = .int .i64 B := g67
              clear g66 g67
              go_simp
              exact hKf _ _ (Below.refl _ _) rfl
            | 37, _ =>
              refine StepOk.plain _ 69 rfl rfl rfl [(64, some 32), (68, some 36)] (by kernel_rfl) (fun af wf hbw hf Kf hKf => ?_)
              obtain ⟨g64, g68, _⟩ := hf
              have h64 : af.tmps[64]?.getD undef = .bool true := g64
              have h68 : af.tmps[68]?.getD undef = .bool true := g68
              clear g64 g68
              go_simp
              exact hKf _ _ (Below.refl _ _) rfl
            | 38, _ =>
              refine StepOk.plain _ 70 rfl rfl rfl [(69, some 37)] (by kernel_rfl) (fun af wf hbw hf Kf hKf => ?_)
              obtain ⟨g69, _⟩ := hf
              have h69 : af.tmps[69]?.getD undef = .bool true := g69
              clear g69
              go_simp
              exact hKf _ _ (Below.refl _ _) rfl
            | 39, _ =>
              refine StepOk.yes _ 71 rfl rfl rfl rfl (fun _ _ h => h) [] (by kernel_rfl) (fun af wf hbw hf Kf hKf => ?_)
              go_simp
              refine (gawake_any _).mono ?_
              rintro e wN ⟨rfl, hb1⟩
              exact hKf _ _ (hb1) (rfl)
            | 40, _ =>
              refine StepOk.plain _ 72 rfl rfl rfl [(70, some 38), (71, some 39)] (by kernel_rfl) (fun af wf hbw hf Kf hKf => ?_)
              obtain ⟨g70, g71, _⟩ := hf
              have h70 : af.tmps[70]?.getD undef = .bool true := g70
              have h71 : af.tmps[71]?.getD undef = .bool true := g71
              clear g70 g71
              go_simp
              exact hKf _ _ (Below.refl _ _) rfl
            | 41, _ =>
              refine StepOk.plain _ 4 rfl rfl rfl [(72, some 40)] (by kernel_rfl) (fun af wf hbw hf Kf hKf => ?_)
              obtain ⟨g72, _⟩ := hf
              have h72 : af.tmps[72]?.getD undef = .bool true := g72
              clear g72
              go_simp
              exact hKf _ _ (Below.refl _ _) rfl
            | i + 42, h => exact absurd h (by show ¬ (i + 42 < 42); omega)
          · intro af wF hbF hdF hsF hbaseF hfactF
            obtain ⟨T, dsF⟩ := af
            obtain rfl : dsF = _ := hdF
            have e0 := hbaseF 0 (not_dst (by kernel_rfl))
            simp only [List.getElem?_toArray, List.getElem?_cons_zero, Option.getD_some] at e0
            have e1 := hbaseF 1 (not_dst (by kernel_rfl))
            simp only [List.getElem?_toArray, List.getElem?_cons_zero, List.getElem?_cons_succ, Option.getD_some] at e1
            have e2 := hbaseF 2 (not_dst (by kernel_rfl))
            simp only [List.getElem?_toArray, List.getElem?_cons_zero, List.getElem?_cons_succ, Option.getD_some] at e2
            have e3 := hbaseF 3 (not_dst (by kernel_rfl))
            simp only [List.getElem?_toArray, List.getElem?_cons_zero, List.getElem?_cons_succ, Option.getD_some] at e3
            have e5 := hbaseF 5 (not_dst (by kernel_rfl))
            simp only [List.getElem?_toArray, List.getElem?_cons_zero, List.getElem?_cons_succ, Option.getD_some] at e5
            have e6 := hbaseF 6 (not_dst (by kernel_rfl))
            simp only [List.getElem?_toArray, List.getElem?_cons_zero, List.getElem?_cons_succ, Option.getD_some] at e6
            have e7 := hbaseF 7 (not_dst (by kernel_rfl))
            simp only [List.getElem?_toArray, List.getElem?_cons_zero, List.getElem?_cons_succ, Option.getD_some] at e7
            have e8 := hbaseF 8 (not_dst (by kernel_rfl))
            simp only [List.getElem?_toArray, List.getElem?_cons_zero, List.getElem?_cons_succ, Option.getD_some] at e8
            have e9 := hbaseF 9 (not_dst (by kernel_rfl))
            simp only [List.getElem?_toArray, List.getElem?_cons_zero, List.getElem?_cons_succ, Option.getD_some] at e9
            have e10 := hbaseF 10 (not_dst (by kernel_rfl))
            simp only [List.getElem?_toArray, List.getElem?_cons_zero, List.getElem?_cons_succ, Option.getD_some] at e10
            have e11 := hbaseF 11 (not_dst (by kernel_rfl))
            simp only [List.getElem?_toArray, List.getElem?_cons_zero, List.getElem?_cons_succ, Option.getD_some] at e11
            have e12 := hbaseF 12 (not_dst (by kernel_rfl))
            simp only [List.getElem?_toArray, List.getElem?_cons_zero, List.getElem?_cons_succ, Option.getD_some] at e12
            have e13 := hbaseF 13 (not_dst (by kernel_rfl))
            simp only [List.getElem?_toArray, List.getElem?_cons_zero, List.getElem?_cons_succ, Option.getD_some] at e13
            have e14 := hbaseF 14 (not_dst (by kernel_rfl))
            simp only [List.getElem?_toArray, List.getElem?_cons_zero, List.getElem?_cons_succ, Option.getD_some] at e14
            have e15 := hbaseF 15 (not_dst (by kernel_rfl))
            simp only [List.getElem?_toArray, List.getElem?_cons_zero, List.getElem?_cons_succ, Option.getD_some] at e15
            have e16 := hbaseF 16 (not_dst (by kernel_rfl))
            simp only [List.getElem?_toArray, List.getElem?_cons_zero, List.getElem?_cons_succ, Option.getD_some] at e16
            have e17 := hbaseF 17 (not_dst (by kernel_rfl))
            simp only [List.getElem?_toArray, List.getElem?_cons_zero, List.getElem?_cons_succ, Option.getD_some] at e17
            have e18 := hbaseF 18 (not_dst (by kernel_rfl))
            simp only [List.getElem?_toArray, List.getElem?_cons_zero, List.getElem?_cons_succ, Option.getD_some] at e18
            have e19 := hbaseF 19 (not_dst (by kernel_rfl))
            simp only [List.getElem?_toArray, List.getElem?_cons_zero, List.getElem?_cons_succ, Option.getD_some] at e19
            have e20 := hbaseF 20 (not_dst (by kernel_rfl))
            simp only [List.getElem?_toArray, List.getElem?_cons_zero, List.getElem?_cons_succ, Option.getD_some] at e20
            have e21 := hbaseF 21 (not_dst (by kernel_rfl))
            simp only [List.getElem?_toArray, List.getElem?_cons_zero, List.getElem?_cons_succ, Option.getD_some] at e21
            have e22 := hbaseF 22 (not_dst (by kernel_rfl))
            simp only [List.getElem?_toArray, List.getElem?_cons_zero, List.getElem?_cons_succ, Option.getD_some] at e22
            have e23 := hbaseF 23 (not_dst (by kernel_rfl))
            simp only [List.getElem?_toArray, List.getElem?_cons_zero, List.getElem?_cons_succ, Option.getD_some] at e23
            have e24 := hbaseF 24 (not_dst (by kernel_rfl))
            simp only [List.getElem?_toArray, List.getElem?_cons_zero, List.getElem?_cons_succ, Option.getD_some] at e24
            have e25 := hbaseF 25 (not_dst (by kernel_rfl))
            simp only [List.getElem?_toArray, List.getElem?_cons_zero, List.getElem?_cons_succ, Option.getD_some] at e25
            have e26 := hbaseF 26 (not_dst (by kernel_rfl))
            simp only [List.getElem?_toArray, List.getElem?_cons_zero, List.getElem?_cons_succ, Option.getD_some] at e26
            have e27 := hbaseF 27 (not_dst (by kernel_rfl))
            simp only [List.getElem?_toArray, List.getElem?_cons_zero, List.getElem?_cons_succ, Option.getD_some] at e27
            have e28 := hbaseF 28 (not_dst (by kernel_rfl))
            simp only [List.getElem?_toArray, List.getElem?_cons_zero, List.getElem?_cons_succ, Option.getD_some] at e28
            have e29 := hbaseF 29 (not_dst (by kernel_rfl))
            simp only [List.getElem?_toArray, List.getElem?_cons_zero, List.getElem?_cons_succ, Option.getD_some] at e29
            have e30 := hbaseF 30 (not_dst (by kernel_rfl))
            simp only [List.getElem?_toArray, List.getElem?_cons_zero, List.getElem?_cons_succ, Option.getD_some] at e30
            have e31 := hbaseF 31 (not_dst (by kernel_rfl))
            simp only [List.getElem?_toArray, List.getElem?_cons_zero, List.getElem?_cons_succ, Option.getD_some] at e31
            have e4 := hfactF 41 4 (by decide) rfl
            replace e4 : T[4]?.getD undef = .bool true := e4
            clear hbaseF hfactF
            have hT : T = #[T[0]?.getD undef, T[1]?.getD undef, T[2]?.getD undef, T[3]?.getD undef, T[4]?.getD undef, T[5]?.getD undef, T[6]?.getD undef, T[7]?.getD undef, T[8]?.getD undef, T[9]?.getD undef, T[10]?.getD undef, T[11]?.getD undef, T[12]?.getD undef, T[13]?.getD undef, T[14]?.getD undef, T[15]?.getD undef, T[16]?.getD undef, T[17]?.getD undef, T[18]?.getD undef, T[19]?.getD undef, T[20]?.getD undef, T[21]?.getD undef, T[22]?.getD undef, T[23]?.getD undef, T[24]?.getD undef, T[25]?.getD undef, T[26]?.getD undef, T[27]?.getD undef, T[28]?.getD undef, T[29]?.getD undef, T[30]?.getD undef, T[31]?.getD undef, T[32]?.getD undef, T[33]?.getD undef, T[34]?.getD undef, T[35]?.getD undef, T[36]?.getD undef, T[37]?.getD undef, T[38]?.getD undef, T[39]?.getD undef, T[40]?.getD undef, T[41]?.getD undef, T[42]?.getD undef, T[43]?.getD undef, T[44]?.getD undef, T[45]?.getD undef, T[46]?.getD undef, T[47]?.getD undef, T[48]?.getD undef, T[49]?.getD undef, T[50]?.getD undef, T[51]?.getD undef, T[52]?.getD undef, T[53]?.getD undef, T[54]?.getD undef, T[55]?.getD undef, T[56]?.getD undef, T[57]?.getD undef, T[58]?.getD undef, T[59]?.getD undef, T[60]?.getD undef, T[61]?.getD undef, T[62]?.getD undef, T[63]?.getD undef, T[64]?.getD undef, T[65]?.getD undef, T[66]?.getD undef, T[67]?.getD undef, T[68]?.getD undef, T[69]?.getD undef, T[70]?.getD undef, T[71]?.getD undef, T[72]?.getD undef] := arr_eq T 73 hsF
            clear hsF
            rw [e0] at hT; clear e0
            rw [e1] at hT; clear e1
            rw [e2] at hT; clear e2
            rw [e3] at hT; clear e3
            rw [e4] at hT; clear e4
            rw [e5] at hT; clear e5
            rw [e6] at hT; clear e6
            rw [e7] at hT; clear e7
            rw [e8] at hT; clear e8
            rw [e9] at hT; clear e9
            rw [e10] at hT; clear e10
            rw [e11] at hT; clear e11
            rw [e12] at hT; clear e12
            rw [e13] at hT; clear e13
            rw [e14] at hT; clear e14
            rw [e15] at hT; clear e15
            rw [e16] at hT; clear e16
            rw [e17] at hT; clear e17
            rw [e18] at hT; clear e18
            rw [e19] at hT; clear e19
            rw [e20] at hT; clear e20
            rw [e21] at hT; clear e21
            rw [e22] at hT; clear e22
            rw [e23] at hT; clear e23
            rw [e24] at hT; clear e24
            rw [e25] at hT; clear e25
            rw [e26] at hT; clear e26
            rw [e27] at hT; clear e27
            rw [e28] at hT; clear e28
            rw [e29] at hT; clear e29
            rw [e30] at hT; clear e30
            rw [e31] at hT; clear e31
            generalize T[32]?.getD undef = u32 at hT
            generalize T[33]?.getD undef = u33 at hT
            generalize T[34]?.getD undef = u34 at hT
            generalize T[35]?.getD undef = u35 at hT
            generalize T[36]?.getD undef = u36 at hT
            generalize T[37]?.getD undef = u37 at hT
            generalize T[38]?.getD undef = u38 at hT
            generalize T[39]?.getD undef = u39 at hT
            generalize T[40]?.getD undef = u40 at hT
            generalize T[41]?.getD undef = u41 at hT
            generalize T[42]?.getD undef = u42 at hT
            generalize T[43]?.getD undef = u43 at hT
            generalize T[44]?.getD undef = u44 at hT
            generalize T[45]?.getD undef = u45 at hT
            generalize T[46]?.getD undef = u46 at hT
            generalize T[47]?.getD undef = u47 at hT
            generalize T[48]?.getD undef = u48 at hT
            generalize T[49]?.getD undef = u49 at hT
            generalize T[50]?.getD undef = u50 at hT
            generalize T[51]?.getD undef = u51 at hT
            generalize T[52]?.getD undef = u52 at hT
            generalize T[53]?.getD undef = u53 at hT
            generalize T[54]?.getD undef = u54 at hT
            generalize T[55]?.getD undef = u55 at hT
            generalize T[56]?.getD undef = u56 at hT
            generalize T[57]?.getD undef = u57 at hT
            generalize T[58]?.getD undef = u58 at hT
            generalize T[59]?.getD undef = u59 at hT
            generalize T[60]?.getD undef = u60 at hT
            generalize T[61]?.getD undef = u61 at hT
            generalize T[62]?.getD undef = u62 at hT
            generalize T[63]?.getD undef = u63 at hT
            generalize T[64]?.getD undef = u64 at hT
            generalize T[65]?.getD undef = u65 at hT
            generalize T[66]?.getD undef = u66 at hT
            generalize T[67]?.getD undef = u67 at hT
            generalize T[68]?.getD undef = u68 at hT
            generalize T[69]?.getD undef = u69 at hT
            generalize T[70]?.getD undef = u70 at hT
            generalize T[71]?.getD undef = u71 at hT
            generalize T[72]?.getD undef = u72 at hT
            subst hT
            go_wp2_with fail
            go_ret
            exact ⟨rfl, (by (have q_hbF := Below.size hbF; (try simp at q_hbF); have q_hb4 := Below.size hb4; (try simp at q_hb4); repeat (first | exact Below.refl _ _ | (refine Below.trans ?_ (Below.mono hbF (by first | omega | (simp; omega) | simp))) | (refine Below.trans ?_ (Below.mono hb4 (by first | omega | (simp; omega) | simp))) | (refine Below.setCell ?_ (by first | omega | (simp; omega) | simp) _) | (refine Below.alloc ?_ (by first | omega | (simp; omega) | simp) _) | apply Below.drew | apply below_drewN)))⟩
end Go.Proofs.Ythepgnankelmeaa
