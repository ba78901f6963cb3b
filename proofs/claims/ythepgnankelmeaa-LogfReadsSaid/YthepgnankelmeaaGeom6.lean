/- The walks of the statements GeomCounts and GeomPlaces. -/
import Derived.Test.YthepgnankelmeaaGeom5
namespace Go.Proofs.Ythepgnankelmeaa
open Go.RowKit

theorem countL_run (kind k : Int) (n : Nat) : countL kind (run_ k n) = if k = kind then n else 0 := by
  induction n with
  | zero => simp [countL, run_]
  | succ n ih =>
    rw [run_snoc, countL_snoc, ih]
    by_cases h : k = kind <;> simp [h]
theorem countL_app (kind : Int) (a b : List (Int × Int)) : countL kind (a ++ b) = countL kind a + countL kind b := List.countP_append
theorem counts_all (p t : Int) : countL 2 (allL p t) = (epochsI p).toNat ∧ countL 3 (allL p t) = (sealedI p).toNat ∧ countL 4 (allL p t) = (t + 1).toNat := by
  have e : ∀ kind : Int, kind ≠ 1 → countL kind (allL p t) = countL kind (run_ 2 (epochsI p).toNat ++ run_ 3 (sealedI p).toNat ++ run_ 4 (t + 1).toNat) := by
    intro kind h
    unfold allL
    rw [show ∀ l : List (Int × Int), ((1 : Int), (0 : Int)) :: l = [(1, 0)] ++ l from fun _ => rfl, countL_app]
    have : countL kind [((1 : Int), (0 : Int))] = 0 := by simp [countL, Ne.symm h]
    rw [this, Nat.zero_add]
  refine ⟨?_, ?_, ?_⟩ <;> rw [e _ (by decide), countL_app, countL_app, countL_run, countL_run, countL_run] <;> simp
theorem all_len (p t : Int) : (allL p t).length = 1 + (epochsI p).toNat + (sealedI p).toNat + (t + 1).toNat := by
  unfold allL
  simp only [List.length_cons, List.length_append, run_len]
  omega

set_option maxHeartbeats 1000000 in
theorem gawake_any (w : World) :
    Calls Try.prog 24 #[] w fun e w' => e = .returned (.bool true) ∧ Below w.heap.size w w' := by
  go_enter Try.func24, Try.ntmps24
  go_wp2_with fail
  refine (check_yes 20 4 _ (by decide)).mono ?_
  rintro e w1 ⟨rfl, hb1⟩
  have B1 := (Blk.new w _ _).on hb1
  have c1 := B1.cell
  go_wp2_with fail
  refine (gmaps 20 4 _ (by decide)).mono ?_
  rintro e w2 ⟨rfl, hb2⟩
  have B2 := B1.on hb2
  have c2 := B2.cell
  rw [show mapsI 20 = 2 from rfl]
  go_wp2_with fail
  refine (gsealed 20 4 _ (by decide)).mono ?_
  rintro e w3 ⟨rfl, hb3⟩
  have B3 := B2.on hb3
  have c3 := B3.cell
  rw [show sealedI 20 = 23 from rfl]
  go_wp2_with fail
  refine (gepochs 20 4 _ (by decide)).mono ?_
  rintro e w4 ⟨rfl, hb4⟩
  have B4 := B3.on hb4
  have c4 := B4.cell
  rw [show epochsI 20 = 1 from rfl]
  go_wp2_with fail
  refine (gleaves 20 4 _ (by decide)).mono ?_
  rintro e w5 ⟨rfl, hb5⟩
  have B5 := B4.on hb5
  have c5 := B5.cell
  rw [show aheadI 20 3 = 25 from rfl]
  go_wp2_with fail
  refine (gtotal 20 4 _ (by decide)).mono ?_
  rintro e w6 ⟨rfl, hb6⟩
  have B6 := B5.on hb6
  have c6 := B6.cell
  rw [show totalI 20 4 = 30 from rfl]
  go_wp2_with fail
  go_ret
  exact ⟨rfl, (by (have q_hb6 := Below.size hb6; (try simp at q_hb6); have q_hb5 := Below.size hb5; (try simp at q_hb5); have q_hb4 := Below.size hb4; (try simp at q_hb4); have q_hb3 := Below.size hb3; (try simp at q_hb3); have q_hb2 := Below.size hb2; (try simp at q_hb2); have q_hb1 := Below.size hb1; (try simp at q_hb1); repeat (first | exact Below.refl _ _ | (refine Below.trans ?_ (Below.mono hb6 (by first | omega | (simp; omega) | simp))) | (refine Below.trans ?_ (Below.mono hb5 (by first | omega | (simp; omega) | simp))) | (refine Below.trans ?_ (Below.mono hb4 (by first | omega | (simp; omega) | simp))) | (refine Below.trans ?_ (Below.mono hb3 (by first | omega | (simp; omega) | simp))) | (refine Below.trans ?_ (Below.mono hb2 (by first | omega | (simp; omega) | simp))) | (refine Below.trans ?_ (Below.mono hb1 (by first | omega | (simp; omega) | simp))) | (refine Below.setCell ?_ (by first | omega | (simp; omega) | simp) _) | (refine Below.alloc ?_ (by first | omega | (simp; omega) | simp) _) | apply Below.drew | apply below_drewN)))⟩

set_option maxRecDepth 100000 in
set_option maxHeartbeats 4000000 in
theorem law_counts_yes (p t : Int) (w : World) (h : gmay p t = true) :
    Calls Try.prog 3 #[.agg #[.int .i64 p, .int .i64 t]] w fun e w' => e = .returned (.bool true) ∧ Below w.heap.size w w' := by
  obtain ⟨h1, h2, h3, h4⟩ := gmay_true h
  obtain ⟨m0, m1, s0, s1, e0, e1⟩ := geo_range h1 h2
  obtain ⟨q2, q3, q4⟩ := counts_all p t
  have hbl : blocksL p t = allL p t := by unfold blocksL; rw [if_pos h]
  have hlenN : ((blocksL p t).length : Int) = totalI p t := by rw [hbl, all_len]; unfold totalI; omega
  have hc3 : (countL 3 (blocksL p t) : Int) = sealedI p := by rw [hbl, q3]; omega
  have hc2 : (countL 2 (blocksL p t) : Int) = epochsI p := by rw [hbl, q2]; omega
  have hc4 : (countL 4 (blocksL p t) : Int) = 1 + t := by rw [hbl, q4]; omega
  have hAN : totalI p t - (1 + t) = aheadI p 3 := by unfold totalI; simp only [aheadI]; omega
  have hN0 : 0 ≤ totalI p t ∧ totalI p t ≤ 200 := by unfold totalI; omega
  have hC0 : 0 ≤ 1 + t ∧ 1 + t ≤ 25 := by omega
  obtain ⟨M, dM⟩ : ∃ M : Int, M = mapsI p := ⟨_, rfl⟩
  obtain ⟨S, dS⟩ : ∃ S : Int, S = sealedI p := ⟨_, rfl⟩
  obtain ⟨E, dE⟩ : ∃ E : Int, E = epochsI p := ⟨_, rfl⟩
  obtain ⟨A, dA⟩ : ∃ A : Int, A = aheadI p 3 := ⟨_, rfl⟩
  obtain ⟨N, dN⟩ : ∃ N : Int, N = totalI p t := ⟨_, rfl⟩
  obtain ⟨C, dC⟩ : ∃ C : Int, C = 1 + t := ⟨_, rfl⟩
  rw [← dN, ← dC, ← dA] at hAN
  rw [← dN] at hlenN hN0
  rw [← dS] at hc3
  rw [← dE] at hc2
  rw [← dC] at hc4 hC0
  have HM := Lib.hid dM
  have HS := Lib.hid dS
  have HE := Lib.hid dE
  have HA := Lib.hid dA
  have HN := Lib.hid dN
  have HC := Lib.hid dC
  have HC3 := Lib.hid hc3
  have HC2 := Lib.hid hc2
  have HC4 := Lib.hid hc4
  have HL := Lib.hid hlenN
  have hAN1 : N - C ≤ A := by omega
  have hAN2 : A ≤ N - C := by omega
  obtain ⟨hN1, hN2⟩ := hN0
  obtain ⟨hC1, hC2⟩ := hC0
  clear hc3 hc2 hc4 hlenN hAN dM dS dE dA dN dC q2 q3 q4 hbl m0 m1 s0 s1 e0 e1
  go_enter Try.func3, Try.ntmps3
  go_wp2_with fail
  refine (grmay_any _ _ _).mono ?_
  rintro e wa ⟨rfl, hba⟩
  have B1 := (Blk.new w _ _).on hba
  have c1 := B1.cell
  rw [h]
  go_wp2_with fail
  refine (rmaps_any p t _ h1 h2).mono ?_
  rintro e wb ⟨rfl, hbb⟩
  have B2 := B1.on hbb
  have c2 := B2.cell
  rw [← HM.out]
  go_wp2_with fail
  refine (all_any p t _).mono ?_
  rintro e wc ⟨r, rfl, hF, hbc⟩
  obtain ⟨nl, hnl⟩ : ∃ nl, nl = (blocksL p t).length := ⟨_, rfl⟩
  obtain ⟨AL, cL, rfl, hRL, _, hnc, hcm⟩ := hF.rdn nl hnl.symm
  have HNL := Lib.hid hnl
  have hnN : (nl : Int) = N := by rw [hnl]; exact HL.out
  have HnN := Lib.hid hnN
  clear hF hnl hnN hRL
  have hBx := B2.on hbc
  go_wp2_with fail
  rw [HnN.out]
  refine wp_flows [(fun y_ _ => y_ = .agg #[.int .i64 p, .int .i64 t]), (fun y_ _ => y_ = .int .i64 0), (fun y_ _ => y_ = .int .i64 0), (fun y_ _ => y_ = .bool true), (fun y_ _ => y_ = .bool true), (fun y_ _ => y_ = .agg #[.int .i64 p, .int .i64 t]), (fun y_ _ => y_ = .int .i64 M), (fun y_ _ => y_ = .int .i64 M), (fun y_ _ => y_ = .bool true), (fun y_ _ => y_ = .bool true), (fun y_ _ => y_ = .bool true), (fun y_ _ => y_ = .agg #[.int .i64 p, .int .i64 t]), (fun y_ _ => y_ = .int .i64 S), (fun y_ _ => y_ = .agg #[.int .i64 p, .int .i64 t]), (fun y_ _ => y_ = .int .i64 S), (fun y_ _ => y_ = .bool true), (fun y_ _ => y_ = .bool true), (fun y_ _ => y_ = .bool true), (fun y_ _ => y_ = .agg #[.int .i64 p, .int .i64 t]), (fun y_ _ => y_ = .int .i64 E), (fun y_ _ => y_ = .agg #[.int .i64 p, .int .i64 t]), (fun y_ _ => y_ = .int .i64 E), (fun y_ _ => y_ = .bool true), (fun y_ _ => y_ = .bool true), (fun y_ _ => y_ = .bool true), (fun y_ _ => y_ = .agg #[.int .i64 p, .int .i64 t]), (fun y_ _ => y_ = .int .i64 A), (fun y_ _ => y_ = .int .i64 N), (fun y_ _ => y_ = .agg #[.int .i64 p, .int .i64 t]), (fun y_ _ => y_ = .int .i64 C), (fun y_ _ => y_ = .int .i64 A), (fun y_ _ => y_ = .bool true), (fun y_ _ => y_ = .bool true), (fun y_ _ => y_ = .bool true), (fun y_ _ => y_ = .agg #[.int .i64 p, .int .i64 t]), (fun y_ _ => y_ = .int .i64 N), (fun y_ _ => y_ = .int .i64 N), (fun y_ _ => y_ = .bool true), (fun y_ _ => y_ = .bool true), (fun y_ _ => y_ = .bool true), (fun y_ _ => y_ = .bool true), (fun y_ _ => y_ = .bool true), (fun y_ _ => y_ = .bool true)] (by kernel_rfl) ⟨Stab.eq _, Stab.eq _, Stab.eq _, Stab.eq _, Stab.eq _, Stab.eq _, Stab.eq _, Stab.eq _, Stab.eq _, Stab.eq _, Stab.eq _, Stab.eq _, Stab.eq _, Stab.eq _, Stab.eq _, Stab.eq _, Stab.eq _, Stab.eq _, Stab.eq _, Stab.eq _, Stab.eq _, Stab.eq _, Stab.eq _, Stab.eq _, Stab.eq _, Stab.eq _, Stab.eq _, Stab.eq _, Stab.eq _, Stab.eq _, Stab.eq _, Stab.eq _, Stab.eq _, Stab.eq _, Stab.eq _, Stab.eq _, Stab.eq _, Stab.eq _, Stab.eq _, Stab.eq _, Stab.eq _, Stab.eq _, Stab.eq _, trivial⟩ (by kernel_rfl) (by rfl) ?_ ?_
  · intro kq hkq
    match kq, hkq with
    | 0, _ =>
      refine StepOk.plain _ 13 rfl rfl rfl [(1, none)] (by kernel_rfl) (fun af wf hbw hf Kf hKf => ?_)
      obtain ⟨g1, _⟩ := hf
      have h1 : af.tmps[1]?.getD undef = .pointer (some ⟨w.heap.size, 0, none⟩) := g1
      clear g1
      have cB0 := (Blk.on (Blk.drew (hBx)) hbw).cell
      go_simp
      exact hKf _ _ (Below.refl _ _) rfl
    | 1, _ =>
      refine StepOk.plain _ 14 rfl rfl rfl [(13, some 0)] (by kernel_rfl) (fun af wf hbw hf Kf hKf => ?_)
      obtain ⟨g13, _⟩ := hf
      have h13 : af.tmps[13]?.getD undef = .agg #[.int .i64 p, .int .i64 t] := g13
      clear g13
      go_simp
      refine (check_yes p t _ h).mono ?_
      rintro e wN ⟨rfl, hb1⟩
      exact hKf _ _ (hb1) (rfl)
    | 2, _ =>
      refine StepOk.plain _ 15 rfl rfl rfl [(3, none)] (by kernel_rfl) (fun af wf hbw hf Kf hKf => ?_)
      obtain ⟨g3, _⟩ := hf
      have h3 : af.tmps[3]?.getD undef = .int .i64 0 := g3
      clear g3
      go_simp
      exact hKf _ _ (Below.refl _ _) rfl
    | 3, _ =>
      refine StepOk.plain _ 16 rfl rfl rfl [(14, some 1), (15, some 2)] (by kernel_rfl) (fun af wf hbw hf Kf hKf => ?_)
      obtain ⟨g14, g15, _⟩ := hf
      have h14 : af.tmps[14]?.getD undef = .int .i64 0 := g14
      have h15 : af.tmps[15]?.getD undef = .int .i64 0 := g15
      clear g14 g15
      go_simp
      exact hKf _ _ (Below.refl _ _) rfl
    | 4, _ =>
      refine StepOk.plain _ 17 rfl rfl rfl [(16, some 3)] (by kernel_rfl) (fun af wf hbw hf Kf hKf => ?_)
      obtain ⟨g16, _⟩ := hf
      have h16 : af.tmps[16]?.getD undef = .bool true := g16
      clear g16
      go_simp
      exact hKf _ _ (Below.refl _ _) rfl
    | 5, _ =>
      refine StepOk.yes _ 18 rfl rfl rfl rfl (fun _ _ h => h) [(1, none)] (by kernel_rfl) (fun af wf hbw hf Kf hKf => ?_)
      obtain ⟨g1, _⟩ := hf
      have h1 : af.tmps[1]?.getD undef = .pointer (some ⟨w.heap.size, 0, none⟩) := g1
      clear g1
      have cB0 := (Blk.on (Blk.drew (hBx)) hbw).cell
      go_simp
      exact hKf _ _ (Below.refl _ _) rfl
    | 6, _ =>
      refine StepOk.yes _ 19 rfl rfl rfl rfl (fun _ _ h => h) [(18, some 5)] (by kernel_rfl) (fun af wf hbw hf Kf hKf => ?_)
      obtain ⟨g18, _⟩ := hf
      have h18 : af.tmps[18]?.getD undef = .agg #[.int .i64 p, .int .i64 t] := g18
      clear g18
      go_simp
      refine (gmaps p t _ h).mono ?_
      rintro e wN ⟨rfl, hb1⟩
      exact hKf _ _ (hb1) (int_eq HM.out.symm)
    | 7, _ =>
      refine StepOk.yes _ 20 rfl rfl rfl rfl (fun _ _ h => h) [(4, none)] (by kernel_rfl) (fun af wf hbw hf Kf hKf => ?_)
      obtain ⟨g4, _⟩ := hf
      have h4 : af.tmps[4]?.getD undef = .int .i64 M := g4
      clear g4
      go_simp
      exact hKf _ _ (Below.refl _ _) rfl
    | 8, _ =>
      refine StepOk.yes _ 21 rfl rfl rfl rfl (fun _ _ h => h) [(19, some 6), (20, some 7)] (by kernel_rfl) (fun af wf hbw hf Kf hKf => ?_)
      obtain ⟨g19, g20, _⟩ := hf
      have h19 : af.tmps[19]?.getD undef = .int .i64 M := g19
      have h20 : af.tmps[20]?.getD undef = .int .i64 M := g20
      clear g19 g20
      go_simp
      exact hKf _ _ (Below.refl _ _) rfl
    | 9, _ =>
      refine StepOk.plain _ 22 rfl rfl rfl [(17, some 4), (21, some 8)] (by kernel_rfl) (fun af wf hbw hf Kf hKf => ?_)
      obtain ⟨g17, g21, _⟩ := hf
      have h17 : af.tmps[17]?.getD undef = .bool true := g17
      have h21 : af.tmps[21]?.getD undef = .bool true := g21
      clear g17 g21
      go_simp
      exact hKf _ _ (Below.refl _ _) rfl
    | 10, _ =>
      refine StepOk.plain _ 23 rfl rfl rfl [(22, some 9)] (by kernel_rfl) (fun af wf hbw hf Kf hKf => ?_)
      obtain ⟨g22, _⟩ := hf
      have h22 : af.tmps[22]?.getD undef = .bool true := g22
      clear g22
      go_simp
      exact hKf _ _ (Below.refl _ _) rfl
    | 11, _ =>
      refine StepOk.yes _ 24 rfl rfl rfl rfl (fun _ _ h => h) [(1, none)] (by kernel_rfl) (fun af wf hbw hf Kf hKf => ?_)
      obtain ⟨g1, _⟩ := hf
      have h1 : af.tmps[1]?.getD undef = .pointer (some ⟨w.heap.size, 0, none⟩) := g1
      clear g1
      have cB0 := (Blk.on (Blk.drew (hBx)) hbw).cell
      go_simp
      exact hKf _ _ (Below.refl _ _) rfl
    | 12, _ =>
      refine StepOk.yes _ 25 rfl rfl rfl rfl (fun _ _ h => h) [(24, some 11)] (by kernel_rfl) (fun af wf hbw hf Kf hKf => ?_)
      obtain ⟨g24, _⟩ := hf
      have h24 : af.tmps[24]?.getD undef = .agg #[.int .i64 p, .int .i64 t] := g24
      clear g24
      go_simp
      refine (gsealed p t _ h).mono ?_
      rintro e wN ⟨rfl, hb1⟩
      exact hKf _ _ (hb1) (int_eq HS.out.symm)
    | 13, _ =>
      refine StepOk.yes _ 26 rfl rfl rfl rfl (fun _ _ h => h) [(1, none)] (by kernel_rfl) (fun af wf hbw hf Kf hKf => ?_)
      obtain ⟨g1, _⟩ := hf
      have h1 : af.tmps[1]?.getD undef = .pointer (some ⟨w.heap.size, 0, none⟩) := g1
      clear g1
      have cB0 := (Blk.on (Blk.drew (hBx)) hbw).cell
      go_simp
      exact hKf _ _ (Below.refl _ _) rfl
    | 14, _ =>
      refine StepOk.yes _ 27 rfl rfl rfl rfl (fun _ _ h => h) [(26, some 13)] (by kernel_rfl) (fun af wf hbw hf Kf hKf => ?_)
      obtain ⟨g26, _⟩ := hf
      have h26 : af.tmps[26]?.getD undef = .agg #[.int .i64 p, .int .i64 t] := g26
      clear g26
      go_simp
      refine (count_any p t 3 _).mono ?_
      rintro e wN ⟨rfl, hb1⟩
      exact hKf _ _ (hb1) (int_eq HC3.out)
    | 15, _ =>
      refine StepOk.yes _ 28 rfl rfl rfl rfl (fun _ _ h => h) [(25, some 12), (27, some 14)] (by kernel_rfl) (fun af wf hbw hf Kf hKf => ?_)
      obtain ⟨g25, g27, _⟩ := hf
      have h25 : af.tmps[25]?.getD undef = .int .i64 S := g25
      have h27 : af.tmps[27]?.getD undef = .int .i64 S := g27
      clear g25 g27
      go_simp
      exact hKf _ _ (Below.refl _ _) rfl
    | 16, _ =>
      refine StepOk.plain _ 29 rfl rfl rfl [(23, some 10), (28, some 15)] (by kernel_rfl) (fun af wf hbw hf Kf hKf => ?_)
      obtain ⟨g23, g28, _⟩ := hf
      have h23 : af.tmps[23]?.getD undef = .bool true := g23
      have h28 : af.tmps[28]?.getD undef = .bool true := g28
      clear g23 g28
      go_simp
      exact hKf _ _ (Below.refl _ _) rfl
    | 17, _ =>
      refine StepOk.plain _ 30 rfl rfl rfl [(29, some 16)] (by kernel_rfl) (fun af wf hbw hf Kf hKf => ?_)
      obtain ⟨g29, _⟩ := hf
      have h29 : af.tmps[29]?.getD undef = .bool true := g29
      clear g29
      go_simp
      exact hKf _ _ (Below.refl _ _) rfl
    | 18, _ =>
      refine StepOk.yes _ 31 rfl rfl rfl rfl (fun _ _ h => h) [(1, none)] (by kernel_rfl) (fun af wf hbw hf Kf hKf => ?_)
      obtain ⟨g1, _⟩ := hf
      have h1 : af.tmps[1]?.getD undef = .pointer (some ⟨w.heap.size, 0, none⟩) := g1
      clear g1
      have cB0 := (Blk.on (Blk.drew (hBx)) hbw).cell
      go_simp
      exact hKf _ _ (Below.refl _ _) rfl
    | 19, _ =>
      refine StepOk.yes _ 32 rfl rfl rfl rfl (fun _ _ h => h) [(31, some 18)] (by kernel_rfl) (fun af wf hbw hf Kf hKf => ?_)
      obtain ⟨g31, _⟩ := hf
      have h31 : af.tmps[31]?.getD undef = .agg #[.int .i64 p, .int .i64 t] := g31
      clear g31
      go_simp
      refine (gepochs p t _ h).mono ?_
      rintro e wN ⟨rfl, hb1⟩
      exact hKf _ _ (hb1) (int_eq HE.out.symm)
    | 20, _ =>
      refine StepOk.yes _ 33 rfl rfl rfl rfl (fun _ _ h => h) [(1, none)] (by kernel_rfl) (fun af wf hbw hf Kf hKf => ?_)
      obtain ⟨g1, _⟩ := hf
      have h1 : af.tmps[1]?.getD undef = .pointer (some ⟨w.heap.size, 0, none⟩) := g1
      clear g1
      have cB0 := (Blk.on (Blk.drew (hBx)) hbw).cell
      go_simp
      exact hKf _ _ (Below.refl _ _) rfl
    | 21, _ =>
      refine StepOk.yes _ 34 rfl rfl rfl rfl (fun _ _ h => h) [(33, some 20)] (by kernel_rfl) (fun af wf hbw hf Kf hKf => ?_)
      obtain ⟨g33, _⟩ := hf
      have h33 : af.tmps[33]?.getD undef = .agg #[.int .i64 p, .int .i64 t] := g33
      clear g33
      go_simp
      refine (count_any p t 2 _).mono ?_
      rintro e wN ⟨rfl, hb1⟩
      exact hKf _ _ (hb1) (int_eq HC2.out)
    | 22, _ =>
      refine StepOk.yes _ 35 rfl rfl rfl rfl (fun _ _ h => h) [(32, some 19), (34, some 21)] (by kernel_rfl) (fun af wf hbw hf Kf hKf => ?_)
      obtain ⟨g32, g34, _⟩ := hf
      have h32 : af.tmps[32]?.getD undef = .int .i64 E := g32
      have h34 : af.tmps[34]?.getD undef = .int .i64 E := g34
      clear g32 g34
      go_simp
      exact hKf _ _ (Below.refl _ _) rfl
    | 23, _ =>
      refine StepOk.plain _ 36 rfl rfl rfl [(30, some 17), (35, some 22)] (by kernel_rfl) (fun af wf hbw hf Kf hKf => ?_)
      obtain ⟨g30, g35, _⟩ := hf
      have h30 : af.tmps[30]?.getD undef = .bool true := g30
      have h35 : af.tmps[35]?.getD undef = .bool true := g35
      clear g30 g35
      go_simp
      exact hKf _ _ (Below.refl _ _) rfl
    | 24, _ =>
      refine StepOk.plain _ 37 rfl rfl rfl [(36, some 23)] (by kernel_rfl) (fun af wf hbw hf Kf hKf => ?_)
      obtain ⟨g36, _⟩ := hf
      have h36 : af.tmps[36]?.getD undef = .bool true := g36
      clear g36
      go_simp
      exact hKf _ _ (Below.refl _ _) rfl
    | 25, _ =>
      refine StepOk.yes _ 38 rfl rfl rfl rfl (fun _ _ h => h) [(1, none)] (by kernel_rfl) (fun af wf hbw hf Kf hKf => ?_)
      obtain ⟨g1, _⟩ := hf
      have h1 : af.tmps[1]?.getD undef = .pointer (some ⟨w.heap.size, 0, none⟩) := g1
      clear g1
      have cB0 := (Blk.on (Blk.drew (hBx)) hbw).cell
      go_simp
      exact hKf _ _ (Below.refl _ _) rfl
    | 26, _ =>
      refine StepOk.yes _ 39 rfl rfl rfl rfl (fun _ _ h => h) [(38, some 25)] (by kernel_rfl) (fun af wf hbw hf Kf hKf => ?_)
      obtain ⟨g38, _⟩ := hf
      have h38 : af.tmps[38]?.getD undef = .agg #[.int .i64 p, .int .i64 t] := g38
      clear g38
      go_simp
      refine (gleaves p t _ h).mono ?_
      rintro e wN ⟨rfl, hb1⟩
      exact hKf _ _ (hb1) (int_eq HA.out.symm)
    | 27, _ =>
      refine StepOk.yes _ 40 rfl rfl rfl rfl (fun _ _ h => h) [(5, none)] (by kernel_rfl) (fun af wf hbw hf Kf hKf => ?_)
      obtain ⟨g5, _⟩ := hf
      have h5 : af.tmps[5]?.getD undef = .int .i64 N := g5
      clear g5
      go_simp
      exact hKf _ _ (Below.refl _ _) rfl
    | 28, _ =>
      refine StepOk.yes _ 41 rfl rfl rfl rfl (fun _ _ h => h) [(1, none)] (by kernel_rfl) (fun af wf hbw hf Kf hKf => ?_)
      obtain ⟨g1, _⟩ := hf
      have h1 : af.tmps[1]?.getD undef = .pointer (some ⟨w.heap.size, 0, none⟩) := g1
      clear g1
      have cB0 := (Blk.on (Blk.drew (hBx)) hbw).cell
      go_simp
      exact hKf _ _ (Below.refl _ _) rfl
    | 29, _ =>
      refine StepOk.yes _ 42 rfl rfl rfl rfl (fun _ _ h => h) [(41, some 28)] (by kernel_rfl) (fun af wf hbw hf Kf hKf => ?_)
      obtain ⟨g41, _⟩ := hf
      have h41 : af.tmps[41]?.getD undef = .agg #[.int .i64 p, .int .i64 t] := g41
      clear g41
      go_simp
      refine (count_any p t 4 _).mono ?_
      rintro e wN ⟨rfl, hb1⟩
      exact hKf _ _ (hb1) (int_eq HC4.out)
    | 30, _ =>
      refine StepOk.yes _ 43 rfl rfl rfl rfl (fun _ _ h => h) [(40, some 27), (42, some 29)] (by kernel_rfl) (fun af wf hbw hf Kf hKf => ?_)
      obtain ⟨g40, g42, _⟩ := hf
      have h40 : af.tmps[40]?.getD undef = .int .i64 N := g40
      have h42 : af.tmps[42]?.getD undef = .int .i64 C := g42
      clear g40 g42
      have hww : IntKind.i64.wrap (N - C) = A := by rw [IntWalk.i64_in _ (by omega)]; omega
      have hwr : IntKind.i64.wrap (N - C) = N - C := IntWalk.i64_in _ (by omega)
      go_simp
      exact hKf _ _ (Below.refl _ _) rfl
    | 31, _ =>
      refine StepOk.yes _ 44 rfl rfl rfl rfl (fun _ _ h => h) [(39, some 26), (43, some 30)] (by kernel_rfl) (fun af wf hbw hf Kf hKf => ?_)
      obtain ⟨g39, g43, _⟩ := hf
      have h39 : af.tmps[39]?.getD undef = .int .i64 A := g39
      have h43 : af.tmps[43]?.getD undef = .int .i64 A := g43
      clear g39 g43
      go_simp
      exact hKf _ _ (Below.refl _ _) rfl
    | 32, _ =>
      refine StepOk.plain _ 45 rfl rfl rfl [(37, some 24), (44, some 31)] (by kernel_rfl) (fun af wf hbw hf Kf hKf => ?_)
      obtain ⟨g37, g44, _⟩ := hf
      have h37 : af.tmps[37]?.getD undef = .bool true := g37
      have h44 : af.tmps[44]?.getD undef = .bool true := g44
      clear g37 g44
      go_simp
      exact hKf _ _ (Below.refl _ _) rfl
    | 33, _ =>
      refine StepOk.plain _ 46 rfl rfl rfl [(45, some 32)] (by kernel_rfl) (fun af wf hbw hf Kf hKf => ?_)
      obtain ⟨g45, _⟩ := hf
      have h45 : af.tmps[45]?.getD undef = .bool true := g45
      clear g45
      go_simp
      exact hKf _ _ (Below.refl _ _) rfl
    | 34, _ =>
      refine StepOk.yes _ 47 rfl rfl rfl rfl (fun _ _ h => h) [(1, none)] (by kernel_rfl) (fun af wf hbw hf Kf hKf => ?_)
      obtain ⟨g1, _⟩ := hf
      have h1 : af.tmps[1]?.getD undef = .pointer (some ⟨w.heap.size, 0, none⟩) := g1
      clear g1
      have cB0 := (Blk.on (Blk.drew (hBx)) hbw).cell
      go_simp
      exact hKf _ _ (Below.refl _ _) rfl
    | 35, _ =>
      refine StepOk.yes _ 48 rfl rfl rfl rfl (fun _ _ h => h) [(47, some 34)] (by kernel_rfl) (fun af wf hbw hf Kf hKf => ?_)
      obtain ⟨g47, _⟩ := hf
      have h47 : af.tmps[47]?.getD undef = .agg #[.int .i64 p, .int .i64 t] := g47
      clear g47
      go_simp
      refine (gtotal p t _ h).mono ?_
      rintro e wN ⟨rfl, hb1⟩
      exact hKf _ _ (hb1) (int_eq HN.out.symm)
    | 36, _ =>
      refine StepOk.yes _ 49 rfl rfl rfl rfl (fun _ _ h => h) [(5, none)] (by kernel_rfl) (fun af wf hbw hf Kf hKf => ?_)
      obtain ⟨g5, _⟩ := hf
      have h5 : af.tmps[5]?.getD undef = .int .i64 N := g5
      clear g5
      go_simp
      exact hKf _ _ (Below.refl _ _) rfl
    | 37, _ =>
      refine StepOk.yes _ 50 rfl rfl rfl rfl (fun _ _ h => h) [(48, some 35), (49, some 36)] (by kernel_rfl) (fun af wf hbw hf Kf hKf => ?_)
      obtain ⟨g48, g49, _⟩ := hf
      have h48 : af.tmps[48]?.getD undef = .int .i64 N := g48
      have h49 : af.tmps[49]?.getD undef = .int .i64 N := g49
      clear g48 g49
      go_simp
      exact hKf _ _ (Below.refl _ _) rfl
    | 38, _ =>
      refine StepOk.plain _ 51 rfl rfl rfl [(46, some 33), (50, some 37)] (by kernel_rfl) (fun af wf hbw hf Kf hKf => ?_)
      obtain ⟨g46, g50, _⟩ := hf
      have h46 : af.tmps[46]?.getD undef = .bool true := g46
      have h50 : af.tmps[50]?.getD undef = .bool true := g50
      clear g46 g50
      go_simp
      exact hKf _ _ (Below.refl _ _) rfl
    | 39, _ =>
      refine StepOk.plain _ 52 rfl rfl rfl [(51, some 38)] (by kernel_rfl) (fun af wf hbw hf Kf hKf => ?_)
      obtain ⟨g51, _⟩ := hf
      have h51 : af.tmps[51]?.getD undef = .bool true := g51
      clear g51
      go_simp
      exact hKf _ _ (Below.refl _ _) rfl
    | 40, _ =>
      refine StepOk.yes _ 53 rfl rfl rfl rfl (fun _ _ h => h) [] (by kernel_rfl) (fun af wf hbw hf Kf hKf => ?_)
      go_simp
      refine (gawake_any _).mono ?_
      rintro e wN ⟨rfl, hb1⟩
      exact hKf _ _ (hb1) (rfl)
    | 41, _ =>
      refine StepOk.plain _ 54 rfl rfl rfl [(52, some 39), (53, some 40)] (by kernel_rfl) (fun af wf hbw hf Kf hKf => ?_)
      obtain ⟨g52, g53, _⟩ := hf
      have h52 : af.tmps[52]?.getD undef = .bool true := g52
      have h53 : af.tmps[53]?.getD undef = .bool true := g53
      clear g52 g53
      go_simp
      exact hKf _ _ (Below.refl _ _) rfl
    | 42, _ =>
      refine StepOk.plain _ 2 rfl rfl rfl [(54, some 41)] (by kernel_rfl) (fun af wf hbw hf Kf hKf => ?_)
      obtain ⟨g54, _⟩ := hf
      have h54 : af.tmps[54]?.getD undef = .bool true := g54
      clear g54
      go_simp
      exact hKf _ _ (Below.refl _ _) rfl
    | i + 43, h => exact absurd h (by show ¬ (i + 43 < 43); omega)
  · intro af wF hbF hdF hsF hbaseF hfactF
    obtain ⟨T, dsF⟩ := af
    obtain rfl : dsF = _ := hdF
    have e0 := hbaseF 0 (not_dst (by kernel_rfl))
    simp only [List.getElem?_toArray, List.getElem?_cons_zero, Option.getD_some] at e0
    have e1 := hbaseF 1 (not_dst (by kernel_rfl))
    simp only [List.getElem?_toArray, List.getElem?_cons_zero, List.getElem?_cons_succ, Option.getD_some] at e1
    have e3 := hbaseF 3 (not_dst (by kernel_rfl))
    simp only [List.getElem?_toArray, List.getElem?_cons_zero, List.getElem?_cons_succ, Option.getD_some] at e3
    have e4 := hbaseF 4 (not_dst (by kernel_rfl))
    simp only [List.getElem?_toArray, List.getElem?_cons_zero, List.getElem?_cons_succ, Option.getD_some] at e4
    have e5 := hbaseF 5 (not_dst (by kernel_rfl))
    simp only [List.getElem?_toArray, List.getElem?_cons_zero, List.getElem?_cons_succ, Option.getD_some] at e5
    have e6 := hbaseF 6 (not_dst (by kernel_rfl))
    simp only [List.getElem?_toArray, List.getElem?_cons_zero, List.getElem?_cons_succ, Option.getD_some] at e6
    have e7 := hbaseF 7 (not_dst (by kernel_rfl))
    simp only [List.getElem?_toArray, List.getElem?_cons_zero, List.getElem?_cons_succ, Option.getD_some] at e7
    have e8 := hbaseF 8 (not_dst (by kernel_rfl))
    simp only [List.getElem?_toArray, List.getElem?_cons_zero, List.getElem?_cons_succ, Option.getD_some] at e8
    have e9 := hbaseF 9 (not_dst (by kernel_rfl))
    simp only [List.getElem?_toArray, List.getElem?_cons_zero, List.getElem?_cons_succ, Option.getD_some] at e9
    have e10 := hbaseF 10 (not_dst (by kernel_rfl))
    simp only [List.getElem?_toArray, List.getElem?_cons_zero, List.getElem?_cons_succ, Option.getD_some] at e10
    have e11 := hbaseF 11 (not_dst (by kernel_rfl))
    simp only [List.getElem?_toArray, List.getElem?_cons_zero, List.getElem?_cons_succ, Option.getD_some] at e11
    have e12 := hbaseF 12 (not_dst (by kernel_rfl))
    simp only [List.getElem?_toArray, List.getElem?_cons_zero, List.getElem?_cons_succ, Option.getD_some] at e12
    have e2 := hfactF 42 2 (by decide) rfl
    replace e2 : T[2]?.getD undef = .bool true := e2
    clear hbaseF hfactF
    have hT : T = #[T[0]?.getD undef, T[1]?.getD undef, T[2]?.getD undef, T[3]?.getD undef, T[4]?.getD undef, T[5]?.getD undef, T[6]?.getD undef, T[7]?.getD undef, T[8]?.getD undef, T[9]?.getD undef, T[10]?.getD undef, T[11]?.getD undef, T[12]?.getD undef, T[13]?.getD undef, T[14]?.getD undef, T[15]?.getD undef, T[16]?.getD undef, T[17]?.getD undef, T[18]?.getD undef, T[19]?.getD undef, T[20]?.getD undef, T[21]?.getD undef, T[22]?.getD undef, T[23]?.getD undef, T[24]?.getD undef, T[25]?.getD undef, T[26]?.getD undef, T[27]?.getD undef, T[28]?.getD undef, T[29]?.getD undef, T[30]?.getD undef, T[31]?.getD undef, T[32]?.getD undef, T[33]?.getD undef, T[34]?.getD undef, T[35]?.getD undef, T[36]?.getD undef, T[37]?.getD undef, T[38]?.getD undef, T[39]?.getD undef, T[40]?.getD undef, T[41]?.getD undef, T[42]?.getD undef, T[43]?.getD undef, T[44]?.getD undef, T[45]?.getD undef, T[46]?.getD undef, T[47]?.getD undef, T[48]?.getD undef, T[49]?.getD undef, T[50]?.getD undef, T[51]?.getD undef, T[52]?.getD undef, T[53]?.getD undef, T[54]?.getD undef] := arr_eq T 55 hsF
    clear hsF
    rw [e0] at hT; clear e0
    rw [e1] at hT; clear e1
    rw [e2] at hT; clear e2
    rw [e3] at hT; clear e3
    rw [e4] at hT; clear e4
    rw [e5] at hT; clear e5
    rw [e6] at hT; clear e6
    rw [e7] at hT; clear e7
    rw [e8] at hT; clear e8
    rw [e9] at hT; clear e9
    rw [e10] at hT; clear e10
    rw [e11] at hT; clear e11
    rw [e12] at hT; clear e12
    generalize T[13]?.getD undef = u13 at hT
    generalize T[14]?.getD undef = u14 at hT
    generalize T[15]?.getD undef = u15 at hT
    generalize T[16]?.getD undef = u16 at hT
    generalize T[17]?.getD undef = u17 at hT
    generalize T[18]?.getD undef = u18 at hT
    generalize T[19]?.getD undef = u19 at hT
    generalize T[20]?.getD undef = u20 at hT
    generalize T[21]?.getD undef = u21 at hT
    generalize T[22]?.getD undef = u22 at hT
    generalize T[23]?.getD undef = u23 at hT
    generalize T[24]?.getD undef = u24 at hT
    generalize T[25]?.getD undef = u25 at hT
    generalize T[26]?.getD undef = u26 at hT
    generalize T[27]?.getD undef = u27 at hT
    generalize T[28]?.getD undef = u28 at hT
    generalize T[29]?.getD undef = u29 at hT
    generalize T[30]?.getD undef = u30 at hT
    generalize T[31]?.getD undef = u31 at hT
    generalize T[32]?.getD undef = u32 at hT
    generalize T[33]?.getD undef = u33 at hT
    generalize T[34]?.getD undef = u34 at hT
    generalize T[35]?.getD undef = u35 at hT
    generalize T[36]?.getD undef = u36 at hT
    generalize T[37]?.getD undef = u37 at hT
    generalize T[38]?.getD undef = u38 at hT
    generalize T[39]?.getD undef = u39 at hT
    generalize T[40]?.getD undef = u40 at hT
    generalize T[41]?.getD undef = u41 at hT
    generalize T[42]?.getD undef = u42 at hT
    generalize T[43]?.getD undef = u43 at hT
    generalize T[44]?.getD undef = u44 at hT
    generalize T[45]?.getD undef = u45 at hT
    generalize T[46]?.getD undef = u46 at hT
    generalize T[47]?.getD undef = u47 at hT
    generalize T[48]?.getD undef = u48 at hT
    generalize T[49]?.getD undef = u49 at hT
    generalize T[50]?.getD undef = u50 at hT
    generalize T[51]?.getD undef = u51 at hT
    generalize T[52]?.getD undef = u52 at hT
    generalize T[53]?.getD undef = u53 at hT
    generalize T[54]?.getD undef = u54 at hT
    subst hT
    go_wp2_with fail
    go_ret
    exact ⟨rfl, (by (have q_hbF := Below.size hbF; (try simp at q_hbF); have q_hbc := Below.size hbc; (try simp at q_hbc); have q_hbb := Below.size hbb; (try simp at q_hbb); have q_hba := Below.size hba; (try simp at q_hba); repeat (first | exact Below.refl _ _ | (refine Below.trans ?_ (Below.mono hbF (by first | omega | (simp; omega) | simp))) | (refine Below.trans ?_ (Below.mono hbc (by first | omega | (simp; omega) | simp))) | (refine Below.trans ?_ (Below.mono hbb (by first | omega | (simp; omega) | simp))) | (refine Below.trans ?_ (Below.mono hba (by first | omega | (simp; omega) | simp))) | (refine Below.setCell ?_ (by first | omega | (simp; omega) | simp) _) | (refine Below.alloc ?_ (by first | omega | (simp; omega) | simp) _) | apply Below.drew | apply below_drewN)))⟩

set_option maxRecDepth 100000 in
set_option maxHeartbeats 4000000 in
theorem law_counts_no (p t : Int) (w : World) (h : gmay p t = false) :
    Calls Try.prog 3 #[.agg #[.int .i64 p, .int .i64 t]] w fun e w' => e = .returned (.bool true) ∧ Below w.heap.size w w' := by
  have hbl : blocksL p t = [] := by unfold blocksL; rw [if_neg (by rw [h]; decide)]
  have hlenN : ((blocksL p t).length : Int) = 0 := by rw [hbl]; rfl
  have hc3 : (countL 3 (blocksL p t) : Int) = 0 := by rw [hbl]; rfl
  have hc2 : (countL 2 (blocksL p t) : Int) = 0 := by rw [hbl]; rfl
  have hc4 : (countL 4 (blocksL p t) : Int) = 0 := by rw [hbl]; rfl
  have hAN : (0 : Int) - 0 = 0 := rfl
  have hN0 : (0 : Int) ≤ 0 ∧ (0 : Int) ≤ 200 := by omega
  have hC0 : (0 : Int) ≤ 0 ∧ (0 : Int) ≤ 25 := by omega
  obtain ⟨M, dM⟩ : ∃ M : Int, M = 0 := ⟨_, rfl⟩
  obtain ⟨S, dS⟩ : ∃ S : Int, S = 0 := ⟨_, rfl⟩
  obtain ⟨E, dE⟩ : ∃ E : Int, E = 0 := ⟨_, rfl⟩
  obtain ⟨A, dA⟩ : ∃ A : Int, A = 0 := ⟨_, rfl⟩
  obtain ⟨N, dN⟩ : ∃ N : Int, N = 0 := ⟨_, rfl⟩
  obtain ⟨C, dC⟩ : ∃ C : Int, C = 0 := ⟨_, rfl⟩
  have hAN : N - C = A := by rw [dN, dC, dA]; rfl
  have hlenN : ((blocksL p t).length : Int) = N := by rw [dN]; exact hlenN
  have hN0 : 0 ≤ N ∧ N ≤ 200 := by rw [dN]; omega
  have hc3 : (countL 3 (blocksL p t) : Int) = S := by rw [dS]; exact hc3
  have hc2 : (countL 2 (blocksL p t) : Int) = E := by rw [dE]; exact hc2
  have hc4 : (countL 4 (blocksL p t) : Int) = C := by rw [dC]; exact hc4
  have hC0 : 0 ≤ C ∧ C ≤ 25 := by rw [dC]; omega
  have HM := Lib.hid dM
  have HS := Lib.hid dS
  have HE := Lib.hid dE
  have HA := Lib.hid dA
  have HN := Lib.hid dN
  have HC := Lib.hid dC
  have HC3 := Lib.hid hc3
  have HC2 := Lib.hid hc2
  have HC4 := Lib.hid hc4
  have HL := Lib.hid hlenN
  have hAN1 : N - C ≤ A := by omega
  have hAN2 : A ≤ N - C := by omega
  obtain ⟨hN1, hN2⟩ := hN0
  obtain ⟨hC1, hC2⟩ := hC0
  clear hc3 hc2 hc4 hlenN hAN dM dS dE dA dN dC hbl
  go_enter Try.func3, Try.ntmps3
  go_wp2_with fail
  refine (grmay_any _ _ _).mono ?_
  rintro e wa ⟨rfl, hba⟩
  have B1 := (Blk.new w _ _).on hba
  have c1 := B1.cell
  rw [h]
  have B2 := B1
  go_wp2_with fail
  refine (all_any p t _).mono ?_
  rintro e wc ⟨r, rfl, hF, hbc⟩
  obtain ⟨nl, hnl⟩ : ∃ nl, nl = (blocksL p t).length := ⟨_, rfl⟩
  obtain ⟨AL, cL, rfl, hRL, _, hnc, hcm⟩ := hF.rdn nl hnl.symm
  have HNL := Lib.hid hnl
  have hnN : (nl : Int) = N := by rw [hnl]; exact HL.out
  have HnN := Lib.hid hnN
  clear hF hnl hnN hRL
  have hBx := B2.on hbc
  go_wp2_with fail
  rw [HnN.out]
  refine wp_flows [(fun y_ _ => y_ = .agg #[.int .i64 p, .int .i64 t]), (fun y_ _ => y_ = .int .i64 1), (fun y_ _ => y_ = .int .i64 1), (fun y_ _ => y_ = .bool true), (fun y_ _ => y_ = .bool true), (fun y_ _ => y_ = .agg #[.int .i64 p, .int .i64 t]), (fun y_ _ => y_ = .int .i64 0), (fun y_ _ => y_ = .int .i64 0), (fun y_ _ => y_ = .bool true), (fun y_ _ => y_ = .bool true), (fun y_ _ => y_ = .bool true), (fun y_ _ => y_ = .agg #[.int .i64 p, .int .i64 t]), (fun y_ _ => y_ = .int .i64 S), (fun y_ _ => y_ = .agg #[.int .i64 p, .int .i64 t]), (fun y_ _ => y_ = .int .i64 S), (fun y_ _ => y_ = .bool true), (fun y_ _ => y_ = .bool true), (fun y_ _ => y_ = .bool true), (fun y_ _ => y_ = .agg #[.int .i64 p, .int .i64 t]), (fun y_ _ => y_ = .int .i64 E), (fun y_ _ => y_ = .agg #[.int .i64 p, .int .i64 t]), (fun y_ _ => y_ = .int .i64 E), (fun y_ _ => y_ = .bool true), (fun y_ _ => y_ = .bool true), (fun y_ _ => y_ = .bool true), (fun y_ _ => y_ = .agg #[.int .i64 p, .int .i64 t]), (fun y_ _ => y_ = .int .i64 A), (fun y_ _ => y_ = .int .i64 N), (fun y_ _ => y_ = .agg #[.int .i64 p, .int .i64 t]), (fun y_ _ => y_ = .int .i64 C), (fun y_ _ => y_ = .int .i64 A), (fun y_ _ => y_ = .bool true), (fun y_ _ => y_ = .bool true), (fun y_ _ => y_ = .bool true), (fun y_ _ => y_ = .agg #[.int .i64 p, .int .i64 t]), (fun y_ _ => y_ = .int .i64 N), (fun y_ _ => y_ = .int .i64 N), (fun y_ _ => y_ = .bool true), (fun y_ _ => y_ = .bool true), (fun y_ _ => y_ = .bool true), (fun y_ _ => y_ = .bool true), (fun y_ _ => y_ = .bool true), (fun y_ _ => y_ = .bool true)] (by kernel_rfl) ⟨Stab.eq _, Stab.eq _, Stab.eq _, Stab.eq _, Stab.eq _, Stab.eq _, Stab.eq _, Stab.eq _, Stab.eq _, Stab.eq _, Stab.eq _, Stab.eq _, Stab.eq _, Stab.eq _, Stab.eq _, Stab.eq _, Stab.eq _, Stab.eq _, Stab.eq _, Stab.eq _, Stab.eq _, Stab.eq _, Stab.eq _, Stab.eq _, Stab.eq _, Stab.eq _, Stab.eq _, Stab.eq _, Stab.eq _, Stab.eq _, Stab.eq _, Stab.eq _, Stab.eq _, Stab.eq _, Stab.eq _, Stab.eq _, Stab.eq _, Stab.eq _, Stab.eq _, Stab.eq _, Stab.eq _, Stab.eq _, Stab.eq _, trivial⟩ (by kernel_rfl) (by rfl) ?_ ?_
  · intro kq hkq
    match kq, hkq with
    | 0, _ =>
      refine StepOk.plain _ 13 rfl rfl rfl [(1, none)] (by kernel_rfl) (fun af wf hbw hf Kf hKf => ?_)
      obtain ⟨g1, _⟩ := hf
      have h1 : af.tmps[1]?.getD undef = .pointer (some ⟨w.heap.size, 0, none⟩) := g1
      clear g1
      have cB0 := (Blk.on (Blk.drew (hBx)) hbw).cell
      go_simp
      exact hKf _ _ (Below.refl _ _) rfl
    | 1, _ =>
      refine StepOk.plain _ 14 rfl rfl rfl [(13, some 0)] (by kernel_rfl) (fun af wf hbw hf Kf hKf => ?_)
      obtain ⟨g13, _⟩ := hf
      have h13 : af.tmps[13]?.getD undef = .agg #[.int .i64 p, .int .i64 t] := g13
      clear g13
      go_simp
      refine (check_no p t _ h).mono ?_
      rintro e wN ⟨rfl, hb1⟩
      exact hKf _ _ (hb1) (rfl)
    | 2, _ =>
      refine StepOk.plain _ 15 rfl rfl rfl [(3, none)] (by kernel_rfl) (fun af wf hbw hf Kf hKf => ?_)
      obtain ⟨g3, _⟩ := hf
      have h3 : af.tmps[3]?.getD undef = .int .i64 1 := g3
      clear g3
      go_simp
      exact hKf _ _ (Below.refl _ _) rfl
    | 3, _ =>
      refine StepOk.plain _ 16 rfl rfl rfl [(14, some 1), (15, some 2)] (by kernel_rfl) (fun af wf hbw hf Kf hKf => ?_)
      obtain ⟨g14, g15, _⟩ := hf
      have h14 : af.tmps[14]?.getD undef = .int .i64 1 := g14
      have h15 : af.tmps[15]?.getD undef = .int .i64 1 := g15
      clear g14 g15
      go_simp
      exact hKf _ _ (Below.refl _ _) rfl
    | 4, _ =>
      refine StepOk.plain _ 17 rfl rfl rfl [(16, some 3)] (by kernel_rfl) (fun af wf hbw hf Kf hKf => ?_)
      obtain ⟨g16, _⟩ := hf
      have h16 : af.tmps[16]?.getD undef = .bool true := g16
      clear g16
      go_simp
      exact hKf _ _ (Below.refl _ _) rfl
    | 5, _ =>
      refine StepOk.yes _ 18 rfl rfl rfl rfl (fun _ _ h => h) [(1, none)] (by kernel_rfl) (fun af wf hbw hf Kf hKf => ?_)
      obtain ⟨g1, _⟩ := hf
      have h1 : af.tmps[1]?.getD undef = .pointer (some ⟨w.heap.size, 0, none⟩) := g1
      clear g1
      have cB0 := (Blk.on (Blk.drew (hBx)) hbw).cell
      go_simp
      exact hKf _ _ (Below.refl _ _) rfl
    | 6, _ =>
      refine StepOk.yes _ 19 rfl rfl rfl rfl (fun _ _ h => h) [(18, some 5)] (by kernel_rfl) (fun af wf hbw hf Kf hKf => ?_)
      obtain ⟨g18, _⟩ := hf
      have h18 : af.tmps[18]?.getD undef = .agg #[.int .i64 p, .int .i64 t] := g18
      clear g18
      go_simp
      refine (gmaps_no p t _ h).mono ?_
      rintro e wN ⟨rfl, hb1⟩
      exact hKf _ _ (hb1) (rfl)
    | 7, _ =>
      refine StepOk.yes _ 20 rfl rfl rfl rfl (fun _ _ h => h) [(4, none)] (by kernel_rfl) (fun af wf hbw hf Kf hKf => ?_)
      obtain ⟨g4, _⟩ := hf
      have h4 : af.tmps[4]?.getD undef = .int .i64 0 := g4
      clear g4
      go_simp
      exact hKf _ _ (Below.refl _ _) rfl
    | 8, _ =>
      refine StepOk.yes _ 21 rfl rfl rfl rfl (fun _ _ h => h) [(19, some 6), (20, some 7)] (by kernel_rfl) (fun af wf hbw hf Kf hKf => ?_)
      obtain ⟨g19, g20, _⟩ := hf
      have h19 : af.tmps[19]?.getD undef = .int .i64 0 := g19
      have h20 : af.tmps[20]?.getD undef = .int .i64 0 := g20
      clear g19 g20
      go_simp
      exact hKf _ _ (Below.refl _ _) rfl
    | 9, _ =>
      refine StepOk.plain _ 22 rfl rfl rfl [(17, some 4), (21, some 8)] (by kernel_rfl) (fun af wf hbw hf Kf hKf => ?_)
      obtain ⟨g17, g21, _⟩ := hf
      have h17 : af.tmps[17]?.getD undef = .bool true := g17
      have h21 : af.tmps[21]?.getD undef = .bool true := g21
      clear g17 g21
      go_simp
      exact hKf _ _ (Below.refl _ _) rfl
    | 10, _ =>
      refine StepOk.plain _ 23 rfl rfl rfl [(22, some 9)] (by kernel_rfl) (fun af wf hbw hf Kf hKf => ?_)
      obtain ⟨g22, _⟩ := hf
      have h22 : af.tmps[22]?.getD undef = .bool true := g22
      clear g22
      go_simp
      exact hKf _ _ (Below.refl _ _) rfl
    | 11, _ =>
      refine StepOk.yes _ 24 rfl rfl rfl rfl (fun _ _ h => h) [(1, none)] (by kernel_rfl) (fun af wf hbw hf Kf hKf => ?_)
      obtain ⟨g1, _⟩ := hf
      have h1 : af.tmps[1]?.getD undef = .pointer (some ⟨w.heap.size, 0, none⟩) := g1
      clear g1
      have cB0 := (Blk.on (Blk.drew (hBx)) hbw).cell
      go_simp
      exact hKf _ _ (Below.refl _ _) rfl
    | 12, _ =>
      refine StepOk.yes _ 25 rfl rfl rfl rfl (fun _ _ h => h) [(24, some 11)] (by kernel_rfl) (fun af wf hbw hf Kf hKf => ?_)
      obtain ⟨g24, _⟩ := hf
      have h24 : af.tmps[24]?.getD undef = .agg #[.int .i64 p, .int .i64 t] := g24
      clear g24
      go_simp
      refine (gsealed_no p t _ h).mono ?_
      rintro e wN ⟨rfl, hb1⟩
      exact hKf _ _ (hb1) (int_eq HS.out.symm)
    | 13, _ =>
      refine StepOk.yes _ 26 rfl rfl rfl rfl (fun _ _ h => h) [(1, none)] (by kernel_rfl) (fun af wf hbw hf Kf hKf => ?_)
      obtain ⟨g1, _⟩ := hf
      have h1 : af.tmps[1]?.getD undef = .pointer (some ⟨w.heap.size, 0, none⟩) := g1
      clear g1
      have cB0 := (Blk.on (Blk.drew (hBx)) hbw).cell
      go_simp
      exact hKf _ _ (Below.refl _ _) rfl
    | 14, _ =>
      refine StepOk.yes _ 27 rfl rfl rfl rfl (fun _ _ h => h) [(26, some 13)] (by kernel_rfl) (fun af wf hbw hf Kf hKf => ?_)
      obtain ⟨g26, _⟩ := hf
      have h26 : af.tmps[26]?.getD undef = .agg #[.int .i64 p, .int .i64 t] := g26
      clear g26
      go_simp
      refine (count_any p t 3 _).mono ?_
      rintro e wN ⟨rfl, hb1⟩
      exact hKf _ _ (hb1) (int_eq HC3.out)
    | 15, _ =>
      refine StepOk.yes _ 28 rfl rfl rfl rfl (fun _ _ h => h) [(25, some 12), (27, some 14)] (by kernel_rfl) (fun af wf hbw hf Kf hKf => ?_)
      obtain ⟨g25, g27, _⟩ := hf
      have h25 : af.tmps[25]?.getD undef = .int .i64 S := g25
      have h27 : af.tmps[27]?.getD undef = .int .i64 S := g27
      clear g25 g27
      go_simp
      exact hKf _ _ (Below.refl _ _) rfl
    | 16, _ =>
      refine StepOk.plain _ 29 rfl rfl rfl [(23, some 10), (28, some 15)] (by kernel_rfl) (fun af wf hbw hf Kf hKf => ?_)
      obtain ⟨g23, g28, _⟩ := hf
      have h23 : af.tmps[23]?.getD undef = .bool true := g23
      have h28 : af.tmps[28]?.getD undef = .bool true := g28
      clear g23 g28
      go_simp
      exact hKf _ _ (Below.refl _ _) rfl
    | 17, _ =>
      refine StepOk.plain _ 30 rfl rfl rfl [(29, some 16)] (by kernel_rfl) (fun af wf hbw hf Kf hKf => ?_)
      obtain ⟨g29, _⟩ := hf
      have h29 : af.tmps[29]?.getD undef = .bool true := g29
      clear g29
      go_simp
      exact hKf _ _ (Below.refl _ _) rfl
    | 18, _ =>
      refine StepOk.yes _ 31 rfl rfl rfl rfl (fun _ _ h => h) [(1, none)] (by kernel_rfl) (fun af wf hbw hf Kf hKf => ?_)
      obtain ⟨g1, _⟩ := hf
      have h1 : af.tmps[1]?.getD undef = .pointer (some ⟨w.heap.size, 0, none⟩) := g1
      clear g1
      have cB0 := (Blk.on (Blk.drew (hBx)) hbw).cell
      go_simp
      exact hKf _ _ (Below.refl _ _) rfl
    | 19, _ =>
      refine StepOk.yes _ 32 rfl rfl rfl rfl (fun _ _ h => h) [(31, some 18)] (by kernel_rfl) (fun af wf hbw hf Kf hKf => ?_)
      obtain ⟨g31, _⟩ := hf
      have h31 : af.tmps[31]?.getD undef = .agg #[.int .i64 p, .int .i64 t] := g31
      clear g31
      go_simp
      refine (gepochs_no p t _ h).mono ?_
      rintro e wN ⟨rfl, hb1⟩
      exact hKf _ _ (hb1) (int_eq HE.out.symm)
    | 20, _ =>
      refine StepOk.yes _ 33 rfl rfl rfl rfl (fun _ _ h => h) [(1, none)] (by kernel_rfl) (fun af wf hbw hf Kf hKf => ?_)
      obtain ⟨g1, _⟩ := hf
      have h1 : af.tmps[1]?.getD undef = .pointer (some ⟨w.heap.size, 0, none⟩) := g1
      clear g1
      have cB0 := (Blk.on (Blk.drew (hBx)) hbw).cell
      go_simp
      exact hKf _ _ (Below.refl _ _) rfl
    | 21, _ =>
      refine StepOk.yes _ 34 rfl rfl rfl rfl (fun _ _ h => h) [(33, some 20)] (by kernel_rfl) (fun af wf hbw hf Kf hKf => ?_)
      obtain ⟨g33, _⟩ := hf
      have h33 : af.tmps[33]?.getD undef = .agg #[.int .i64 p, .int .i64 t] := g33
      clear g33
      go_simp
      refine (count_any p t 2 _).mono ?_
      rintro e wN ⟨rfl, hb1⟩
      exact hKf _ _ (hb1) (int_eq HC2.out)
    | 22, _ =>
      refine StepOk.yes _ 35 rfl rfl rfl rfl (fun _ _ h => h) [(32, some 19), (34, some 21)] (by kernel_rfl) (fun af wf hbw hf Kf hKf => ?_)
      obtain ⟨g32, g34, _⟩ := hf
      have h32 : af.tmps[32]?.getD undef = .int .i64 E := g32
      have h34 : af.tmps[34]?.getD undef = .int .i64 E := g34
      clear g32 g34
      go_simp
      exact hKf _ _ (Below.refl _ _) rfl
    | 23, _ =>
      refine StepOk.plain _ 36 rfl rfl rfl [(30, some 17), (35, some 22)] (by kernel_rfl) (fun af wf hbw hf Kf hKf => ?_)
      obtain ⟨g30, g35, _⟩ := hf
      have h30 : af.tmps[30]?.getD undef = .bool true := g30
      have h35 : af.tmps[35]?.getD undef = .bool true := g35
      clear g30 g35
      go_simp
      exact hKf _ _ (Below.refl _ _) rfl
    | 24, _ =>
      refine StepOk.plain _ 37 rfl rfl rfl [(36, some 23)] (by kernel_rfl) (fun af wf hbw hf Kf hKf => ?_)
      obtain ⟨g36, _⟩ := hf
      have h36 : af.tmps[36]?.getD undef = .bool true := g36
      clear g36
      go_simp
      exact hKf _ _ (Below.refl _ _) rfl
    | 25, _ =>
      refine StepOk.yes _ 38 rfl rfl rfl rfl (fun _ _ h => h) [(1, none)] (by kernel_rfl) (fun af wf hbw hf Kf hKf => ?_)
      obtain ⟨g1, _⟩ := hf
      have h1 : af.tmps[1]?.getD undef = .pointer (some ⟨w.heap.size, 0, none⟩) := g1
      clear g1
      have cB0 := (Blk.on (Blk.drew (hBx)) hbw).cell
      go_simp
      exact hKf _ _ (Below.refl _ _) rfl
    | 26, _ =>
      refine StepOk.yes _ 39 rfl rfl rfl rfl (fun _ _ h => h) [(38, some 25)] (by kernel_rfl) (fun af wf hbw hf Kf hKf => ?_)
      obtain ⟨g38, _⟩ := hf
      have h38 : af.tmps[38]?.getD undef = .agg #[.int .i64 p, .int .i64 t] := g38
      clear g38
      go_simp
      refine (gleaves_no p t _ h).mono ?_
      rintro e wN ⟨rfl, hb1⟩
      exact hKf _ _ (hb1) (int_eq HA.out.symm)
    | 27, _ =>
      refine StepOk.yes _ 40 rfl rfl rfl rfl (fun _ _ h => h) [(5, none)] (by kernel_rfl) (fun af wf hbw hf Kf hKf => ?_)
      obtain ⟨g5, _⟩ := hf
      have h5 : af.tmps[5]?.getD undef = .int .i64 N := g5
      clear g5
      go_simp
      exact hKf _ _ (Below.refl _ _) rfl
    | 28, _ =>
      refine StepOk.yes _ 41 rfl rfl rfl rfl (fun _ _ h => h) [(1, none)] (by kernel_rfl) (fun af wf hbw hf Kf hKf => ?_)
      obtain ⟨g1, _⟩ := hf
      have h1 : af.tmps[1]?.getD undef = .pointer (some ⟨w.heap.size, 0, none⟩) := g1
      clear g1
      have cB0 := (Blk.on (Blk.drew (hBx)) hbw).cell
      go_simp
      exact hKf _ _ (Below.refl _ _) rfl
    | 29, _ =>
      refine StepOk.yes _ 42 rfl rfl rfl rfl (fun _ _ h => h) [(41, some 28)] (by kernel_rfl) (fun af wf hbw hf Kf hKf => ?_)
      obtain ⟨g41, _⟩ := hf
      have h41 : af.tmps[41]?.getD undef = .agg #[.int .i64 p, .int .i64 t] := g41
      clear g41
      go_simp
      refine (count_any p t 4 _).mono ?_
      rintro e wN ⟨rfl, hb1⟩
      exact hKf _ _ (hb1) (int_eq HC4.out)
    | 30, _ =>
      refine StepOk.yes _ 43 rfl rfl rfl rfl (fun _ _ h => h) [(40, some 27), (42, some 29)] (by kernel_rfl) (fun af wf hbw hf Kf hKf => ?_)
      obtain ⟨g40, g42, _⟩ := hf
      have h40 : af.tmps[40]?.getD undef = .int .i64 N := g40
      have h42 : af.tmps[42]?.getD undef = .int .i64 C := g42
      clear g40 g42
      have hww : IntKind.i64.wrap (N - C) = A := by rw [IntWalk.i64_in _ (by omega)]; omega
      have hwr : IntKind.i64.wrap (N - C) = N - C := IntWalk.i64_in _ (by omega)
      go_simp
      exact hKf _ _ (Below.refl _ _) rfl
    | 31, _ =>
      refine StepOk.yes _ 44 rfl rfl rfl rfl (fun _ _ h => h) [(39, some 26), (43, some 30)] (by kernel_rfl) (fun af wf hbw hf Kf hKf => ?_)
      obtain ⟨g39, g43, _⟩ := hf
      have h39 : af.tmps[39]?.getD undef = .int .i64 A := g39
      have h43 : af.tmps[43]?.getD undef = .int .i64 A := g43
      clear g39 g43
      go_simp
      exact hKf _ _ (Below.refl _ _) rfl
    | 32, _ =>
      refine StepOk.plain _ 45 rfl rfl rfl [(37, some 24), (44, some 31)] (by kernel_rfl) (fun af wf hbw hf Kf hKf => ?_)
      obtain ⟨g37, g44, _⟩ := hf
      have h37 : af.tmps[37]?.getD undef = .bool true := g37
      have h44 : af.tmps[44]?.getD undef = .bool true := g44
      clear g37 g44
      go_simp
      exact hKf _ _ (Below.refl _ _) rfl
    | 33, _ =>
      refine StepOk.plain _ 46 rfl rfl rfl [(45, some 32)] (by kernel_rfl) (fun af wf hbw hf Kf hKf => ?_)
      obtain ⟨g45, _⟩ := hf
      have h45 : af.tmps[45]?.getD undef = .bool true := g45
      clear g45
      go_simp
      exact hKf _ _ (Below.refl _ _) rfl
    | 34, _ =>
      refine StepOk.yes _ 47 rfl rfl rfl rfl (fun _ _ h => h) [(1, none)] (by kernel_rfl) (fun af wf hbw hf Kf hKf => ?_)
      obtain ⟨g1, _⟩ := hf
      have h1 : af.tmps[1]?.getD undef = .pointer (some ⟨w.heap.size, 0, none⟩) := g1
      clear g1
      have cB0 := (Blk.on (Blk.drew (hBx)) hbw).cell
      go_simp
      exact hKf _ _ (Below.refl _ _) rfl
    | 35, _ =>
      refine StepOk.yes _ 48 rfl rfl rfl rfl (fun _ _ h => h) [(47, some 34)] (by kernel_rfl) (fun af wf hbw hf Kf hKf => ?_)
      obtain ⟨g47, _⟩ := hf
      have h47 : af.tmps[47]?.getD undef = .agg #[.int .i64 p, .int .i64 t] := g47
      clear g47
      go_simp
      refine (gtotal_no p t _ h).mono ?_
      rintro e wN ⟨rfl, hb1⟩
      exact hKf _ _ (hb1) (int_eq HN.out.symm)
    | 36, _ =>
      refine StepOk.yes _ 49 rfl rfl rfl rfl (fun _ _ h => h) [(5, none)] (by kernel_rfl) (fun af wf hbw hf Kf hKf => ?_)
      obtain ⟨g5, _⟩ := hf
      have h5 : af.tmps[5]?.getD undef = .int .i64 N := g5
      clear g5
      go_simp
      exact hKf _ _ (Below.refl _ _) rfl
    | 37, _ =>
      refine StepOk.yes _ 50 rfl rfl rfl rfl (fun _ _ h => h) [(48, some 35), (49, some 36)] (by kernel_rfl) (fun af wf hbw hf Kf hKf => ?_)
      obtain ⟨g48, g49, _⟩ := hf
      have h48 : af.tmps[48]?.getD undef = .int .i64 N := g48
      have h49 : af.tmps[49]?.getD undef = .int .i64 N := g49
      clear g48 g49
      go_simp
      exact hKf _ _ (Below.refl _ _) rfl
    | 38, _ =>
      refine StepOk.plain _ 51 rfl rfl rfl [(46, some 33), (50, some 37)] (by kernel_rfl) (fun af wf hbw hf Kf hKf => ?_)
      obtain ⟨g46, g50, _⟩ := hf
      have h46 : af.tmps[46]?.getD undef = .bool true := g46
      have h50 : af.tmps[50]?.getD undef = .bool true := g50
      clear g46 g50
      go_simp
      exact hKf _ _ (Below.refl _ _) rfl
    | 39, _ =>
      refine StepOk.plain _ 52 rfl rfl rfl [(51, some 38)] (by kernel_rfl) (fun af wf hbw hf Kf hKf => ?_)
      obtain ⟨g51, _⟩ := hf
      have h51 : af.tmps[51]?.getD undef = .bool true := g51
      clear g51
      go_simp
      exact hKf _ _ (Below.refl _ _) rfl
    | 40, _ =>
      refine StepOk.yes _ 53 rfl rfl rfl rfl (fun _ _ h => h) [] (by kernel_rfl) (fun af wf hbw hf Kf hKf => ?_)
      go_simp
      refine (gawake_any _).mono ?_
      rintro e wN ⟨rfl, hb1⟩
      exact hKf _ _ (hb1) (rfl)
    | 41, _ =>
      refine StepOk.plain _ 54 rfl rfl rfl [(52, some 39), (53, some 40)] (by kernel_rfl) (fun af wf hbw hf Kf hKf => ?_)
      obtain ⟨g52, g53, _⟩ := hf
      have h52 : af.tmps[52]?.getD undef = .bool true := g52
      have h53 : af.tmps[53]?.getD undef = .bool true := g53
      clear g52 g53
      go_simp
      exact hKf _ _ (Below.refl _ _) rfl
    | 42, _ =>
      refine StepOk.plain _ 2 rfl rfl rfl [(54, some 41)] (by kernel_rfl) (fun af wf hbw hf Kf hKf => ?_)
      obtain ⟨g54, _⟩ := hf
      have h54 : af.tmps[54]?.getD undef = .bool true := g54
      clear g54
      go_simp
      exact hKf _ _ (Below.refl _ _) rfl
    | i + 43, h => exact absurd h (by show ¬ (i + 43 < 43); omega)
  · intro af wF hbF hdF hsF hbaseF hfactF
    obtain ⟨T, dsF⟩ := af
    obtain rfl : dsF = _ := hdF
    have e0 := hbaseF 0 (not_dst (by kernel_rfl))
    simp only [List.getElem?_toArray, List.getElem?_cons_zero, Option.getD_some] at e0
    have e1 := hbaseF 1 (not_dst (by kernel_rfl))
    simp only [List.getElem?_toArray, List.getElem?_cons_zero, List.getElem?_cons_succ, Option.getD_some] at e1
    have e3 := hbaseF 3 (not_dst (by kernel_rfl))
    simp only [List.getElem?_toArray, List.getElem?_cons_zero, List.getElem?_cons_succ, Option.getD_some] at e3
    have e4 := hbaseF 4 (not_dst (by kernel_rfl))
    simp only [List.getElem?_toArray, List.getElem?_cons_zero, List.getElem?_cons_succ, Option.getD_some] at e4
    have e5 := hbaseF 5 (not_dst (by kernel_rfl))
    simp only [List.getElem?_toArray, List.getElem?_cons_zero, List.getElem?_cons_succ, Option.getD_some] at e5
    have e6 := hbaseF 6 (not_dst (by kernel_rfl))
    simp only [List.getElem?_toArray, List.getElem?_cons_zero, List.getElem?_cons_succ, Option.getD_some] at e6
    have e7 := hbaseF 7 (not_dst (by kernel_rfl))
    simp only [List.getElem?_toArray, List.getElem?_cons_zero, List.getElem?_cons_succ, Option.getD_some] at e7
    have e8 := hbaseF 8 (not_dst (by kernel_rfl))
    simp only [List.getElem?_toArray, List.getElem?_cons_zero, List.getElem?_cons_succ, Option.getD_some] at e8
    have e9 := hbaseF 9 (not_dst (by kernel_rfl))
    simp only [List.getElem?_toArray, List.getElem?_cons_zero, List.getElem?_cons_succ, Option.getD_some] at e9
    have e10 := hbaseF 10 (not_dst (by kernel_rfl))
    simp only [List.getElem?_toArray, List.getElem?_cons_zero, List.getElem?_cons_succ, Option.getD_some] at e10
    have e11 := hbaseF 11 (not_dst (by kernel_rfl))
    simp only [List.getElem?_toArray, List.getElem?_cons_zero, List.getElem?_cons_succ, Option.getD_some] at e11
    have e12 := hbaseF 12 (not_dst (by kernel_rfl))
    simp only [List.getElem?_toArray, List.getElem?_cons_zero, List.getElem?_cons_succ, Option.getD_some] at e12
    have e2 := hfactF 42 2 (by decide) rfl
    replace e2 : T[2]?.getD undef = .bool true := e2
    clear hbaseF hfactF
    have hT : T = #[T[0]?.getD undef, T[1]?.getD undef, T[2]?.getD undef, T[3]?.getD undef, T[4]?.getD undef, T[5]?.getD undef, T[6]?.getD undef, T[7]?.getD undef, T[8]?.getD undef, T[9]?.getD undef, T[10]?.getD undef, T[11]?.getD undef, T[12]?.getD undef, T[13]?.getD undef, T[14]?.getD undef, T[15]?.getD undef, T[16]?.getD undef, T[17]?.getD undef, T[18]?.getD undef, T[19]?.getD undef, T[20]?.getD undef, T[21]?.getD undef, T[22]?.getD undef, T[23]?.getD undef, T[24]?.getD undef, T[25]?.getD undef, T[26]?.getD undef, T[27]?.getD undef, T[28]?.getD undef, T[29]?.getD undef, T[30]?.getD undef, T[31]?.getD undef, T[32]?.getD undef, T[33]?.getD undef, T[34]?.getD undef, T[35]?.getD undef, T[36]?.getD undef, T[37]?.getD undef, T[38]?.getD undef, T[39]?.getD undef, T[40]?.getD undef, T[41]?.getD undef, T[42]?.getD undef, T[43]?.getD undef, T[44]?.getD undef, T[45]?.getD undef, T[46]?.getD undef, T[47]?.getD undef, T[48]?.getD undef, T[49]?.getD undef, T[50]?.getD undef, T[51]?.getD undef, T[52]?.getD undef, T[53]?.getD undef, T[54]?.getD undef] := arr_eq T 55 hsF
    clear hsF
    rw [e0] at hT; clear e0
    rw [e1] at hT; clear e1
    rw [e2] at hT; clear e2
    rw [e3] at hT; clear e3
    rw [e4] at hT; clear e4
    rw [e5] at hT; clear e5
    rw [e6] at hT; clear e6
    rw [e7] at hT; clear e7
    rw [e8] at hT; clear e8
    rw [e9] at hT; clear e9
    rw [e10] at hT; clear e10
    rw [e11] at hT; clear e11
    rw [e12] at hT; clear e12
    generalize T[13]?.getD undef = u13 at hT
    generalize T[14]?.getD undef = u14 at hT
    generalize T[15]?.getD undef = u15 at hT
    generalize T[16]?.getD undef = u16 at hT
    generalize T[17]?.getD undef = u17 at hT
    generalize T[18]?.getD undef = u18 at hT
    generalize T[19]?.getD undef = u19 at hT
    generalize T[20]?.getD undef = u20 at hT
    generalize T[21]?.getD undef = u21 at hT
    generalize T[22]?.getD undef = u22 at hT
    generalize T[23]?.getD undef = u23 at hT
    generalize T[24]?.getD undef = u24 at hT
    generalize T[25]?.getD undef = u25 at hT
    generalize T[26]?.getD undef = u26 at hT
    generalize T[27]?.getD undef = u27 at hT
    generalize T[28]?.getD undef = u28 at hT
    generalize T[29]?.getD undef = u29 at hT
    generalize T[30]?.getD undef = u30 at hT
    generalize T[31]?.getD undef = u31 at hT
    generalize T[32]?.getD undef = u32 at hT
    generalize T[33]?.getD undef = u33 at hT
    generalize T[34]?.getD undef = u34 at hT
    generalize T[35]?.getD undef = u35 at hT
    generalize T[36]?.getD undef = u36 at hT
    generalize T[37]?.getD undef = u37 at hT
    generalize T[38]?.getD undef = u38 at hT
    generalize T[39]?.getD undef = u39 at hT
    generalize T[40]?.getD undef = u40 at hT
    generalize T[41]?.getD undef = u41 at hT
    generalize T[42]?.getD undef = u42 at hT
    generalize T[43]?.getD undef = u43 at hT
    generalize T[44]?.getD undef = u44 at hT
    generalize T[45]?.getD undef = u45 at hT
    generalize T[46]?.getD undef = u46 at hT
    generalize T[47]?.getD undef = u47 at hT
    generalize T[48]?.getD undef = u48 at hT
    generalize T[49]?.getD undef = u49 at hT
    generalize T[50]?.getD undef = u50 at hT
    generalize T[51]?.getD undef = u51 at hT
    generalize T[52]?.getD undef = u52 at hT
    generalize T[53]?.getD undef = u53 at hT
    generalize T[54]?.getD undef = u54 at hT
    subst hT
    go_wp2_with fail
    go_ret
    exact ⟨rfl, (by (have q_hbF := Below.size hbF; (try simp at q_hbF); have q_hbc := Below.size hbc; (try simp at q_hbc); have q_hba := Below.size hba; (try simp at q_hba); repeat (first | exact Below.refl _ _ | (refine Below.trans ?_ (Below.mono hbF (by first | omega | (simp; omega) | simp))) | (refine Below.trans ?_ (Below.mono hbc (by first | omega | (simp; omega) | simp))) | (refine Below.trans ?_ (Below.mono hba (by first | omega | (simp; omega) | simp))) | (refine Below.setCell ?_ (by first | omega | (simp; omega) | simp) _) | (refine Below.alloc ?_ (by first | omega | (simp; omega) | simp) _) | apply Below.drew | apply below_drewN)))⟩

theorem law_counts (p t : Int) (w : World) :
    Calls Try.prog 3 #[.agg #[.int .i64 p, .int .i64 t]] w fun e w' => e = .returned (.bool true) ∧ Below w.heap.size w w' := by
  cases h : gmay p t
  · exact law_counts_no p t w h
  · exact law_counts_yes p t w h
end Go.Proofs.Ythepgnankelmeaa
