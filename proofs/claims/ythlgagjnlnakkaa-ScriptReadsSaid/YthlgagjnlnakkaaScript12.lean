/- Scripts: which acts may be, by the document. -/
import Derived.Test.YthlgagjnlnakkaaScript11
namespace Go.Proofs.Ythlgagjnlnakkaa
open Go.RowKit

theorem mayA_doc {f1 : Int} {f2 : Bool} {f3 f4 f5 f6 : Int} {L : List UInt8} (c0 : 0 ≤ f1) (c1 : f1 ≤ 19) (c2 : L.length ≤ 1024) :
    mayA ((f1, f2, f3, f4, f5, f6), L) = (numH f3 (hasW f1) && (numH f4 (hasK f1) && (numH f5 (hasN f1) && (numH f6 (hasA f1) && ((!f2 || hasY f1) && (decide (L.length = 0) || hasB f1)))))) := by
  unfold mayA fieldsOk numH
  simp only [c0, c1, c2, decide_true, Bool.true_and]
  rw [Bool.or_comm (hasY f1), Bool.or_comm (hasB f1)]
  ac_rfl

set_option maxRecDepth 100000 in
set_option maxHeartbeats 16000000 in
theorem rmay_any (f1 : Int) (f2 : Bool) (f3 f4 f5 f6 : Int) (A : Option Addr) (n c : Nat) (L : List UInt8) (w : World) (hl : L.length = n) :
    Calls Try.prog 14 #[actV f1 f2 f3 f4 f5 f6 A n c] w fun e w' => e = .returned (.bool (mayA ((f1, f2, f3, f4, f5, f6), L))) ∧ Below w.heap.size w w' := by
  by_cases c0 : 0 ≤ f1
  · by_cases c1 : f1 ≤ 19
    · by_cases c2 : n ≤ 1024
      · obtain ⟨W, hW⟩ : ∃ W, W = hasW f1 := ⟨_, rfl⟩
        obtain ⟨K, hK⟩ : ∃ W, W = hasK f1 := ⟨_, rfl⟩
        obtain ⟨N, hN⟩ : ∃ W, W = hasN f1 := ⟨_, rfl⟩
        obtain ⟨Q, hQ⟩ : ∃ W, W = hasA f1 := ⟨_, rfl⟩
        obtain ⟨Y, hY⟩ : ∃ W, W = hasY f1 := ⟨_, rfl⟩
        obtain ⟨B, hB⟩ : ∃ W, W = hasB f1 := ⟨_, rfl⟩
        have hf := has_fields f1 c0 c1
        have hr := Lib.hid (mayA_doc (f2 := f2) (f3 := f3) (f4 := f4) (f5 := f5) (f6 := f6) (L := L) c0 c1 (by omega))
        rw [← hW, ← hK, ← hN, ← hQ, ← hY, ← hB] at hf hr
        rw [hl] at hr
        have HF := Lib.hid hf
        have q2 : (n : Int) ≤ 1024 := by omega
        have P0 := Blk.new w 32 #[.int .i64 f1, .bool f2, .int .i64 f3, .int .i64 f4, .int .i64 f5, .int .i64 f6, .slice A n c]
        clear hW hK hN hQ hY hB hf
        cases hg0 : numH f3 W with
        | false =>
          have g0 := Lib.hid hg0
          rw [hg0] at hr
          clear hg0
          go_enter Try.func14, Try.ntmps14
          go_wp2_with fail
          refine wp_flows [(fun y_ _ => y_ = .pointer (some ⟨w.heap.size, 2, none⟩)), (fun y_ _ => y_ = .int .i64 f3), (fun y_ _ => y_ = .pointer (some ⟨w.heap.size, 0, none⟩)), (fun y_ _ => y_ = .int .i64 f1), (fun y_ _ => y_ = .bool W), (fun y_ _ => y_ = .bool false), (fun y_ _ => y_ = .bool false), (fun y_ _ => y_ = undef), (fun y_ _ => y_ = undef), (fun y_ _ => y_ = undef), (fun y_ _ => y_ = undef), (fun y_ _ => y_ = undef), (fun y_ _ => y_ = undef), (fun y_ _ => y_ = .bool false), (fun y_ _ => y_ = .bool false), (fun y_ _ => y_ = undef), (fun y_ _ => y_ = undef), (fun y_ _ => y_ = undef), (fun y_ _ => y_ = undef), (fun y_ _ => y_ = undef), (fun y_ _ => y_ = undef), (fun y_ _ => y_ = .bool false), (fun y_ _ => y_ = .bool false), (fun y_ _ => y_ = undef), (fun y_ _ => y_ = undef), (fun y_ _ => y_ = undef), (fun y_ _ => y_ = undef), (fun y_ _ => y_ = undef), (fun y_ _ => y_ = undef), (fun y_ _ => y_ = .bool false), (fun y_ _ => y_ = .bool false), (fun y_ _ => y_ = undef), (fun y_ _ => y_ = undef), (fun y_ _ => y_ = undef), (fun y_ _ => y_ = undef), (fun y_ _ => y_ = undef), (fun y_ _ => y_ = undef), (fun y_ _ => y_ = undef), (fun y_ _ => y_ = undef), (fun y_ _ => y_ = .bool false), (fun y_ _ => y_ = .bool false), (fun y_ _ => y_ = undef), (fun y_ _ => y_ = undef), (fun y_ _ => y_ = undef), (fun y_ _ => y_ = undef), (fun y_ _ => y_ = undef), (fun y_ _ => y_ = undef), (fun y_ _ => y_ = undef), (fun y_ _ => y_ = undef), (fun y_ _ => y_ = undef), (fun y_ _ => y_ = .bool false), (fun y_ _ => y_ = .bool false)] (by kernel_rfl) ⟨Stab.eq _, Stab.eq _, Stab.eq _, Stab.eq _, Stab.eq _, Stab.eq _, Stab.eq _, Stab.eq _, Stab.eq _, Stab.eq _, Stab.eq _, Stab.eq _, Stab.eq _, Stab.eq _, Stab.eq _, Stab.eq _, Stab.eq _, Stab.eq _, Stab.eq _, Stab.eq _, Stab.eq _, Stab.eq _, Stab.eq _, Stab.eq _, Stab.eq _, Stab.eq _, Stab.eq _, Stab.eq _, Stab.eq _, Stab.eq _, Stab.eq _, Stab.eq _, Stab.eq _, Stab.eq _, Stab.eq _, Stab.eq _, Stab.eq _, Stab.eq _, Stab.eq _, Stab.eq _, Stab.eq _, Stab.eq _, Stab.eq _, Stab.eq _, Stab.eq _, Stab.eq _, Stab.eq _, Stab.eq _, Stab.eq _, Stab.eq _, Stab.eq _, Stab.eq _, trivial⟩ (by kernel_rfl) (by rfl) ?_ ?_
          · intro kq hkq
            match kq, hkq with
            | 0, _ =>
              refine StepOk.plain _ 17 rfl rfl rfl [(1, none)] (by kernel_rfl) (fun af wf hbw hf Kf hKf => ?_)
              obtain ⟨g1, _⟩ := hf
              have h1 : af.tmps[1]?.getD undef = .pointer (some ⟨w.heap.size, 0, none⟩) := g1
              clear g1
              go_simp
              exact hKf _ _ (Below.refl _ _) rfl
            | 1, _ =>
              refine StepOk.plain _ 18 rfl rfl rfl [(17, some 0)] (by kernel_rfl) (fun af wf hbw hf Kf hKf => ?_)
              obtain ⟨g17, _⟩ := hf
              have h17 : af.tmps[17]?.getD undef = .pointer (some ⟨w.heap.size, 2, none⟩) := g17
              clear g17
              have cB0 := (Blk.on (Blk.drew (P0)) hbw).cell
              go_simp
              exact hKf _ _ (Below.refl _ _) rfl
            | 2, _ =>
              refine StepOk.plain _ 19 rfl rfl rfl [(1, none)] (by kernel_rfl) (fun af wf hbw hf Kf hKf => ?_)
              obtain ⟨g1, _⟩ := hf
              have h1 : af.tmps[1]?.getD undef = .pointer (some ⟨w.heap.size, 0, none⟩) := g1
              clear g1
              go_simp
              exact hKf _ _ (Below.refl _ _) rfl
            | 3, _ =>
              refine StepOk.plain _ 20 rfl rfl rfl [(19, some 2)] (by kernel_rfl) (fun af wf hbw hf Kf hKf => ?_)
              obtain ⟨g19, _⟩ := hf
              have h19 : af.tmps[19]?.getD undef = .pointer (some ⟨w.heap.size, 0, none⟩) := g19
              clear g19
              have cB0 := (Blk.on (Blk.drew (P0)) hbw).cell
              go_simp
              exact hKf _ _ (Below.refl _ _) rfl
            | 4, _ =>
              refine StepOk.plain _ 21 rfl rfl rfl [(20, some 3)] (by kernel_rfl) (fun af wf hbw hf Kf hKf => ?_)
              obtain ⟨g20, _⟩ := hf
              have h20 : af.tmps[20]?.getD undef = .int .i64 f1 := g20
              clear g20
              go_simp
              refine (has_any f1 119 c0 c1 _).mono ?_
              rintro e wN ⟨rfl, rfl⟩
              exact hKf _ _ (Below.refl _ _) (congrArg Value.bool HF.out.1)
            | 5, _ =>
              refine StepOk.plain _ 22 rfl rfl rfl [(18, some 1), (21, some 4)] (by kernel_rfl) (fun af wf hbw hf Kf hKf => ?_)
              obtain ⟨g18, g21, _⟩ := hf
              have h18 : af.tmps[18]?.getD undef = .int .i64 f3 := g18
              have h21 : af.tmps[21]?.getD undef = .bool W := g21
              clear g18 g21
              go_simp
              refine (rnum_any f3 W _).mono ?_
              rintro e wN ⟨rfl, rfl⟩
              exact hKf _ _ (Below.refl _ _) (congrArg Value.bool g0.out)
            | 6, _ =>
              refine StepOk.plain _ 23 rfl rfl rfl [(22, some 5)] (by kernel_rfl) (fun af wf hbw hf Kf hKf => ?_)
              obtain ⟨g22, _⟩ := hf
              have h22 : af.tmps[22]?.getD undef = .bool false := g22
              clear g22
              go_simp
              exact hKf _ _ (Below.refl _ _) rfl
            | 7, _ => exact StepOk.no _ 24 rfl rfl rfl rfl (fun _ _ h => h) (by decide) (by kernel_rfl) (fun _ => rfl)
            | 8, _ => exact StepOk.no _ 25 rfl rfl rfl rfl (fun _ _ h => h) (by decide) (by kernel_rfl) (fun _ => rfl)
            | 9, _ => exact StepOk.no _ 26 rfl rfl rfl rfl (fun _ _ h => h) (by decide) (by kernel_rfl) (fun _ => rfl)
            | 10, _ => exact StepOk.no _ 27 rfl rfl rfl rfl (fun _ _ h => h) (by decide) (by kernel_rfl) (fun _ => rfl)
            | 11, _ => exact StepOk.no _ 28 rfl rfl rfl rfl (fun _ _ h => h) (by decide) (by kernel_rfl) (fun _ => rfl)
            | 12, _ => exact StepOk.no _ 29 rfl rfl rfl rfl (fun _ _ h => h) (by decide) (by kernel_rfl) (fun _ => rfl)
            | 13, _ =>
              refine StepOk.plain _ 30 rfl rfl rfl [(23, some 6), (29, some 12)] (by kernel_rfl) (fun af wf hbw hf Kf hKf => ?_)
              obtain ⟨g23, g29, _⟩ := hf
              have h23 : af.tmps[23]?.getD undef = .bool false := g23
              have h29 : af.tmps[29]?.getD undef = undef := g29
              clear g23 g29
              go_simp
              exact hKf _ _ (Below.refl _ _) rfl
            | 14, _ =>
              refine StepOk.plain _ 31 rfl rfl rfl [(30, some 13)] (by kernel_rfl) (fun af wf hbw hf Kf hKf => ?_)
              obtain ⟨g30, _⟩ := hf
              have h30 : af.tmps[30]?.getD undef = .bool false := g30
              clear g30
              go_simp
              exact hKf _ _ (Below.refl _ _) rfl
            | 15, _ => exact StepOk.no _ 32 rfl rfl rfl rfl (fun _ _ h => h) (by decide) (by kernel_rfl) (fun _ => rfl)
            | 16, _ => exact StepOk.no _ 33 rfl rfl rfl rfl (fun _ _ h => h) (by decide) (by kernel_rfl) (fun _ => rfl)
            | 17, _ => exact StepOk.no _ 34 rfl rfl rfl rfl (fun _ _ h => h) (by decide) (by kernel_rfl) (fun _ => rfl)
            | 18, _ => exact StepOk.no _ 35 rfl rfl rfl rfl (fun _ _ h => h) (by decide) (by kernel_rfl) (fun _ => rfl)
            | 19, _ => exact StepOk.no _ 36 rfl rfl rfl rfl (fun _ _ h => h) (by decide) (by kernel_rfl) (fun _ => rfl)
            | 20, _ => exact StepOk.no _ 37 rfl rfl rfl rfl (fun _ _ h => h) (by decide) (by kernel_rfl) (fun _ => rfl)
            | 21, _ =>
              refine StepOk.plain _ 38 rfl rfl rfl [(31, some 14), (37, some 20)] (by kernel_rfl) (fun af wf hbw hf Kf hKf => ?_)
              obtain ⟨g31, g37, _⟩ := hf
              have h31 : af.tmps[31]?.getD undef = .bool false := g31
              have h37 : af.tmps[37]?.getD undef = undef := g37
              clear g31 g37
              go_simp
              exact hKf _ _ (Below.refl _ _) rfl
            | 22, _ =>
              refine StepOk.plain _ 39 rfl rfl rfl [(38, some 21)] (by kernel_rfl) (fun af wf hbw hf Kf hKf => ?_)
              obtain ⟨g38, _⟩ := hf
              have h38 : af.tmps[38]?.getD undef = .bool false := g38
              clear g38
              go_simp
              exact hKf _ _ (Below.refl _ _) rfl
            | 23, _ => exact StepOk.no _ 40 rfl rfl rfl rfl (fun _ _ h => h) (by decide) (by kernel_rfl) (fun _ => rfl)
            | 24, _ => exact StepOk.no _ 41 rfl rfl rfl rfl (fun _ _ h => h) (by decide) (by kernel_rfl) (fun _ => rfl)
            | 25, _ => exact StepOk.no _ 42 rfl rfl rfl rfl (fun _ _ h => h) (by decide) (by kernel_rfl) (fun _ => rfl)
            | 26, _ => exact StepOk.no _ 43 rfl rfl rfl rfl (fun _ _ h => h) (by decide) (by kernel_rfl) (fun _ => rfl)
            | 27, _ => exact StepOk.no _ 44 rfl rfl rfl rfl (fun _ _ h => h) (by decide) (by kernel_rfl) (fun _ => rfl)
            | 28, _ => exact StepOk.no _ 45 rfl rfl rfl rfl (fun _ _ h => h) (by decide) (by kernel_rfl) (fun _ => rfl)
            | 29, _ =>
              refine StepOk.plain _ 46 rfl rfl rfl [(39, some 22), (45, some 28)] (by kernel_rfl) (fun af wf hbw hf Kf hKf => ?_)
              obtain ⟨g39, g45, _⟩ := hf
              have h39 : af.tmps[39]?.getD undef = .bool false := g39
              have h45 : af.tmps[45]?.getD undef = undef := g45
              clear g39 g45
              go_simp
              exact hKf _ _ (Below.refl _ _) rfl
            | 30, _ =>
              refine StepOk.plain _ 47 rfl rfl rfl [(46, some 29)] (by kernel_rfl) (fun af wf hbw hf Kf hKf => ?_)
              obtain ⟨g46, _⟩ := hf
              have h46 : af.tmps[46]?.getD undef = .bool false := g46
              clear g46
              go_simp
              exact hKf _ _ (Below.refl _ _) rfl
            | 31, _ => exact StepOk.no _ 48 rfl rfl rfl rfl (fun _ _ h => h) (by decide) (by kernel_rfl) (fun _ => rfl)
            | 32, _ => exact StepOk.no _ 49 rfl rfl rfl rfl (fun _ _ h => h) (by decide) (by kernel_rfl) (fun _ => rfl)
            | 33, _ => exact StepOk.no _ 50 rfl rfl rfl rfl (fun _ _ h => h) (by decide) (by kernel_rfl) (fun _ => rfl)
            | 34, _ => exact StepOk.no _ 51 rfl rfl rfl rfl (fun _ _ h => h) (by decide) (by kernel_rfl) (fun _ => rfl)
            | 35, _ => exact StepOk.nou _ 52 rfl rfl rfl rfl (fun _ _ h => h) (by kernel_rfl) (fun _ => rfl)
            | 36, _ => exact StepOk.nou _ 53 rfl rfl rfl rfl (fun _ _ h => h) (by kernel_rfl) (fun _ => rfl)
            | 37, _ => exact StepOk.nou _ 54 rfl rfl rfl rfl (fun _ _ h => h) (by kernel_rfl) (fun _ => rfl)
            | 38, _ => exact StepOk.no _ 55 rfl rfl rfl rfl (fun _ _ h => h) (by decide) (by kernel_rfl) (fun _ => rfl)
            | 39, _ =>
              refine StepOk.plain _ 56 rfl rfl rfl [(47, some 30), (55, some 38)] (by kernel_rfl) (fun af wf hbw hf Kf hKf => ?_)
              obtain ⟨g47, g55, _⟩ := hf
              have h47 : af.tmps[47]?.getD undef = .bool false := g47
              have h55 : af.tmps[55]?.getD undef = undef := g55
              clear g47 g55
              go_simp
              exact hKf _ _ (Below.refl _ _) rfl
            | 40, _ =>
              refine StepOk.plain _ 57 rfl rfl rfl [(56, some 39)] (by kernel_rfl) (fun af wf hbw hf Kf hKf => ?_)
              obtain ⟨g56, _⟩ := hf
              have h56 : af.tmps[56]?.getD undef = .bool false := g56
              clear g56
              go_simp
              exact hKf _ _ (Below.refl _ _) rfl
            | 41, _ => exact StepOk.no _ 58 rfl rfl rfl rfl (fun _ _ h => h) (by decide) (by kernel_rfl) (fun _ => rfl)
            | 42, _ => exact StepOk.no _ 59 rfl rfl rfl rfl (fun _ _ h => h) (by decide) (by kernel_rfl) (fun _ => rfl)
            | 43, _ => exact StepOk.no _ 60 rfl rfl rfl rfl (fun _ _ h => h) (by decide) (by kernel_rfl) (fun _ => rfl)
            | 44, _ => exact StepOk.no _ 61 rfl rfl rfl rfl (fun _ _ h => h) (by decide) (by kernel_rfl) (fun _ => rfl)
            | 45, _ => exact StepOk.no _ 62 rfl rfl rfl rfl (fun _ _ h => h) (by decide) (by kernel_rfl) (fun _ => rfl)
            | 46, _ => exact StepOk.nou _ 63 rfl rfl rfl rfl (fun _ _ h => h) (by kernel_rfl) (fun _ => rfl)
            | 47, _ => exact StepOk.nou _ 64 rfl rfl rfl rfl (fun _ _ h => h) (by kernel_rfl) (fun _ => rfl)
            | 48, _ => exact StepOk.nou _ 65 rfl rfl rfl rfl (fun _ _ h => h) (by kernel_rfl) (fun _ => rfl)
            | 49, _ => exact StepOk.no _ 66 rfl rfl rfl rfl (fun _ _ h => h) (by decide) (by kernel_rfl) (fun _ => rfl)
            | 50, _ =>
              refine StepOk.plain _ 67 rfl rfl rfl [(57, some 40), (66, some 49)] (by kernel_rfl) (fun af wf hbw hf Kf hKf => ?_)
              obtain ⟨g57, g66, _⟩ := hf
              have h57 : af.tmps[57]?.getD undef = .bool false := g57
              have h66 : af.tmps[66]?.getD undef = undef := g66
              clear g57 g66
              go_simp
              exact hKf _ _ (Below.refl _ _) rfl
            | 51, _ =>
              refine StepOk.plain _ 2 rfl rfl rfl [(67, some 50)] (by kernel_rfl) (fun af wf hbw hf Kf hKf => ?_)
              obtain ⟨g67, _⟩ := hf
              have h67 : af.tmps[67]?.getD undef = .bool false := g67
              clear g67
              go_simp
              exact hKf _ _ (Below.refl _ _) rfl
            | i + 52, h => exact absurd h (by show ¬ (i + 52 < 52); omega)
          · intro af wF hbF hdF hsF hbaseF hfactF
            obtain ⟨T, dsF⟩ := af
            obtain rfl : dsF = _ := hdF
            have e0 := hbaseF 0 (not_dst (by kernel_rfl))
            simp only [List.getElem?_toArray, List.getElem?_cons_zero, Option.getD_some] at e0
            have e1 := hbaseF 1 (not_dst (by kernel_rfl))
            simp only [List.getElem?_toArray, List.getElem?_cons_zero, List.getElem?_cons_succ, Option.getD_some] at e1
            have e3 := hbaseF 3 (not_dst (by kernel_rfl))
            simp only [List.getElem?_toArray, List.getElem?_cons_zero, List.getElem?_cons_succ, Option.getD_some] at e3
            have e4 := hbaseF 4 (not_dst (by kernel_rfl))
            simp only [List.getElem?_toArray, List.getElem?_cons_zero, List.getElem?_cons_succ, Option.getD_some] at e4
            have e5 := hbaseF 5 (not_dst (by kernel_rfl))
            simp only [List.getElem?_toArray, List.getElem?_cons_zero, List.getElem?_cons_succ, Option.getD_some] at e5
            have e6 := hbaseF 6 (not_dst (by kernel_rfl))
            simp only [List.getElem?_toArray, List.getElem?_cons_zero, List.getElem?_cons_succ, Option.getD_some] at e6
            have e7 := hbaseF 7 (not_dst (by kernel_rfl))
            simp only [List.getElem?_toArray, List.getElem?_cons_zero, List.getElem?_cons_succ, Option.getD_some] at e7
            have e8 := hbaseF 8 (not_dst (by kernel_rfl))
            simp only [List.getElem?_toArray, List.getElem?_cons_zero, List.getElem?_cons_succ, Option.getD_some] at e8
            have e9 := hbaseF 9 (not_dst (by kernel_rfl))
            simp only [List.getElem?_toArray, List.getElem?_cons_zero, List.getElem?_cons_succ, Option.getD_some] at e9
            have e10 := hbaseF 10 (not_dst (by kernel_rfl))
            simp only [List.getElem?_toArray, List.getElem?_cons_zero, List.getElem?_cons_succ, Option.getD_some] at e10
            have e11 := hbaseF 11 (not_dst (by kernel_rfl))
            simp only [List.getElem?_toArray, List.getElem?_cons_zero, List.getElem?_cons_succ, Option.getD_some] at e11
            have e12 := hbaseF 12 (not_dst (by kernel_rfl))
            simp only [List.getElem?_toArray, List.getElem?_cons_zero, List.getElem?_cons_succ, Option.getD_some] at e12
            have e13 := hbaseF 13 (not_dst (by kernel_rfl))
            simp only [List.getElem?_toArray, List.getElem?_cons_zero, List.getElem?_cons_succ, Option.getD_some] at e13
            have e14 := hbaseF 14 (not_dst (by kernel_rfl))
            simp only [List.getElem?_toArray, List.getElem?_cons_zero, List.getElem?_cons_succ, Option.getD_some] at e14
            have e15 := hbaseF 15 (not_dst (by kernel_rfl))
            simp only [List.getElem?_toArray, List.getElem?_cons_zero, List.getElem?_cons_succ, Option.getD_some] at e15
            have e16 := hbaseF 16 (not_dst (by kernel_rfl))
            simp only [List.getElem?_toArray, List.getElem?_cons_zero, List.getElem?_cons_succ, Option.getD_some] at e16
            have e2 := hfactF 51 2 (by decide) rfl
            replace e2 : T[2]?.getD undef = .bool false := e2
            clear hbaseF hfactF
            have hT : T = #[T[0]?.getD undef, T[1]?.getD undef, T[2]?.getD undef, T[3]?.getD undef, T[4]?.getD undef, T[5]?.getD undef, T[6]?.getD undef, T[7]?.getD undef, T[8]?.getD undef, T[9]?.getD undef, T[10]?.getD undef, T[11]?.getD undef, T[12]?.getD undef, T[13]?.getD undef, T[14]?.getD undef, T[15]?.getD undef, T[16]?.getD undef, T[17]?.getD undef, T[18]?.getD undef, T[19]?.getD undef, T[20]?.getD undef, T[21]?.getD undef, T[22]?.getD undef, T[23]?.getD undef, T[24]?.getD undef, T[25]?.getD undef, T[26]?.getD undef, T[27]?.getD undef, T[28]?.getD undef, T[29]?.getD undef, T[30]?.getD undef, T[31]?.getD undef, T[32]?.getD undef, T[33]?.getD undef, T[34]?.getD undef, T[35]?.getD undef, T[36]?.getD undef, T[37]?.getD undef, T[38]?.getD undef, T[39]?.getD undef, T[40]?.getD undef, T[41]?.getD undef, T[42]?.getD undef, T[43]?.getD undef, T[44]?.getD undef, T[45]?.getD undef, T[46]?.getD undef, T[47]?.getD undef, T[48]?.getD undef, T[49]?.getD undef, T[50]?.getD undef, T[51]?.getD undef, T[52]?.getD undef, T[53]?.getD undef, T[54]?.getD undef, T[55]?.getD undef, T[56]?.getD undef, T[57]?.getD undef, T[58]?.getD undef, T[59]?.getD undef, T[60]?.getD undef, T[61]?.getD undef, T[62]?.getD undef, T[63]?.getD undef, T[64]?.getD undef, T[65]?.getD undef, T[66]?.getD undef, T[67]?.getD undef] := arr_eq T 68 hsF
            clear hsF
            rw [e0] at hT; clear e0
            rw [e1] at hT; clear e1
            rw [e2] at hT; clear e2
            rw [e3] at hT; clear e3
            rw [e4] at hT; clear e4
            rw [e5] at hT; clear e5
            rw [e6] at hT; clear e6
            rw [e7] at hT; clear e7
            rw [e8] at hT; clear e8
            rw [e9] at hT; clear e9
            rw [e10] at hT; clear e10
            rw [e11] at hT; clear e11
            rw [e12] at hT; clear e12
            rw [e13] at hT; clear e13
            rw [e14] at hT; clear e14
            rw [e15] at hT; clear e15
            rw [e16] at hT; clear e16
            generalize T[17]?.getD undef = u17 at hT
            generalize T[18]?.getD undef = u18 at hT
            generalize T[19]?.getD undef = u19 at hT
            generalize T[20]?.getD undef = u20 at hT
            generalize T[21]?.getD undef = u21 at hT
            generalize T[22]?.getD undef = u22 at hT
            generalize T[23]?.getD undef = u23 at hT
            generalize T[24]?.getD undef = u24 at hT
            generalize T[25]?.getD undef = u25 at hT
            generalize T[26]?.getD undef = u26 at hT
            generalize T[27]?.getD undef = u27 at hT
            generalize T[28]?.getD undef = u28 at hT
            generalize T[29]?.getD undef = u29 at hT
            generalize T[30]?.getD undef = u30 at hT
            generalize T[31]?.getD undef = u31 at hT
            generalize T[32]?.getD undef = u32 at hT
            generalize T[33]?.getD undef = u33 at hT
            generalize T[34]?.getD undef = u34 at hT
            generalize T[35]?.getD undef = u35 at hT
            generalize T[36]?.getD undef = u36 at hT
            generalize T[37]?.getD undef = u37 at hT
            generalize T[38]?.getD undef = u38 at hT
            generalize T[39]?.getD undef = u39 at hT
            generalize T[40]?.getD undef = u40 at hT
            generalize T[41]?.getD undef = u41 at hT
            generalize T[42]?.getD undef = u42 at hT
            generalize T[43]?.getD undef = u43 at hT
            generalize T[44]?.getD undef = u44 at hT
            generalize T[45]?.getD undef = u45 at hT
            generalize T[46]?.getD undef = u46 at hT
            generalize T[47]?.getD undef = u47 at hT
            generalize T[48]?.getD undef = u48 at hT
            generalize T[49]?.getD undef = u49 at hT
            generalize T[50]?.getD undef = u50 at hT
            generalize T[51]?.getD undef = u51 at hT
            generalize T[52]?.getD undef = u52 at hT
            generalize T[53]?.getD undef = u53 at hT
            generalize T[54]?.getD undef = u54 at hT
            generalize T[55]?.getD undef = u55 at hT
            generalize T[56]?.getD undef = u56 at hT
            generalize T[57]?.getD undef = u57 at hT
            generalize T[58]?.getD undef = u58 at hT
            generalize T[59]?.getD undef = u59 at hT
            generalize T[60]?.getD undef = u60 at hT
            generalize T[61]?.getD undef = u61 at hT
            generalize T[62]?.getD undef = u62 at hT
            generalize T[63]?.getD undef = u63 at hT
            generalize T[64]?.getD undef = u64 at hT
            generalize T[65]?.getD undef = u65 at hT
            generalize T[66]?.getD undef = u66 at hT
            generalize T[67]?.getD undef = u67 at hT
            subst hT
            go_wp2_with fail
            go_ret
            exact ⟨by rw [hr.out]; rfl, (by (have q_hbF := Below.size hbF; (try simp at q_hbF); repeat (first | exact Below.refl _ _ | (refine Below.trans ?_ (Below.mono hbF (by first | omega | (simp; omega) | simp))) | (refine Below.setCell ?_ (by first | omega | (simp; omega) | simp) _) | (refine Below.alloc ?_ (by first | omega | (simp; omega) | simp) _) | apply Below.drew | apply below_drewN)))⟩
        | true =>
          have g0 := Lib.hid hg0
          rw [hg0] at hr
          clear hg0
          cases hg1 : numH f4 K with
          | false =>
            have g1 := Lib.hid hg1
            rw [hg1] at hr
            clear hg1
            go_enter Try.func14, Try.ntmps14
            go_wp2_with fail
            refine wp_flows [(fun y_ _ => y_ = .pointer (some ⟨w.heap.size, 2, none⟩)), (fun y_ _ => y_ = .int .i64 f3), (fun y_ _ => y_ = .pointer (some ⟨w.heap.size, 0, none⟩)), (fun y_ _ => y_ = .int .i64 f1), (fun y_ _ => y_ = .bool W), (fun y_ _ => y_ = .bool true), (fun y_ _ => y_ = .bool true), (fun y_ _ => y_ = .pointer (some ⟨w.heap.size, 3, none⟩)), (fun y_ _ => y_ = .int .i64 f4), (fun y_ _ => y_ = .pointer (some ⟨w.heap.size, 0, none⟩)), (fun y_ _ => y_ = .int .i64 f1), (fun y_ _ => y_ = .bool K), (fun y_ _ => y_ = .bool false), (fun y_ _ => y_ = .bool false), (fun y_ _ => y_ = .bool false), (fun y_ _ => y_ = undef), (fun y_ _ => y_ = undef), (fun y_ _ => y_ = undef), (fun y_ _ => y_ = undef), (fun y_ _ => y_ = undef), (fun y_ _ => y_ = undef), (fun y_ _ => y_ = .bool false), (fun y_ _ => y_ = .bool false), (fun y_ _ => y_ = undef), (fun y_ _ => y_ = undef), (fun y_ _ => y_ = undef), (fun y_ _ => y_ = undef), (fun y_ _ => y_ = undef), (fun y_ _ => y_ = undef), (fun y_ _ => y_ = .bool false), (fun y_ _ => y_ = .bool false), (fun y_ _ => y_ = undef), (fun y_ _ => y_ = undef), (fun y_ _ => y_ = undef), (fun y_ _ => y_ = undef), (fun y_ _ => y_ = undef), (fun y_ _ => y_ = undef), (fun y_ _ => y_ = undef), (fun y_ _ => y_ = undef), (fun y_ _ => y_ = .bool false), (fun y_ _ => y_ = .bool false), (fun y_ _ => y_ = undef), (fun y_ _ => y_ = undef), (fun y_ _ => y_ = undef), (fun y_ _ => y_ = undef), (fun y_ _ => y_ = undef), (fun y_ _ => y_ = undef), (fun y_ _ => y_ = undef), (fun y_ _ => y_ = undef), (fun y_ _ => y_ = undef), (fun y_ _ => y_ = .bool false), (fun y_ _ => y_ = .bool false)] (by kernel_rfl) ⟨Stab.eq _, Stab.eq _, Stab.eq _, Stab.eq _, Stab.eq _, Stab.eq _, Stab.eq _, Stab.eq _, Stab.eq _, Stab.eq _, Stab.eq _, Stab.eq _, Stab.eq _, Stab.eq _, Stab.eq _, Stab.eq _, Stab.eq _, Stab.eq _, Stab.eq _, Stab.eq _, Stab.eq _, Stab.eq _, Stab.eq _, Stab.eq _, Stab.eq _, Stab.eq _, Stab.eq _, Stab.eq _, Stab.eq _, Stab.eq _, Stab.eq _, Stab.eq _, Stab.eq _, Stab.eq _, Stab.eq _, Stab.eq _, Stab.eq _, Stab.eq _, Stab.eq _, Stab.eq _, Stab.eq _, Stab.eq _, Stab.eq _, Stab.eq _, Stab.eq _, Stab.eq _, Stab.eq _, Stab.eq _, Stab.eq _, Stab.eq _, Stab.eq _, Stab.eq _, trivial⟩ (by kernel_rfl) (by rfl) ?_ ?_
            · intro kq hkq
              match kq, hkq with
              | 0, _ =>
                refine StepOk.plain _ 17 rfl rfl rfl [(1, none)] (by kernel_rfl) (fun af wf hbw hf Kf hKf => ?_)
                obtain ⟨g1, _⟩ := hf
                have h1 : af.tmps[1]?.getD undef = .pointer (some ⟨w.heap.size, 0, none⟩) := g1
                clear g1
                go_simp
                exact hKf _ _ (Below.refl _ _) rfl
              | 1, _ =>
                refine StepOk.plain _ 18 rfl rfl rfl [(17, some 0)] (by kernel_rfl) (fun af wf hbw hf Kf hKf => ?_)
                obtain ⟨g17, _⟩ := hf
                have h17 : af.tmps[17]?.getD undef = .pointer (some ⟨w.heap.size, 2, none⟩) := g17
                clear g17
                have cB0 := (Blk.on (Blk.drew (P0)) hbw).cell
                go_simp
                exact hKf _ _ (Below.refl _ _) rfl
              | 2, _ =>
                refine StepOk.plain _ 19 rfl rfl rfl [(1, none)] (by kernel_rfl) (fun af wf hbw hf Kf hKf => ?_)
                obtain ⟨g1, _⟩ := hf
                have h1 : af.tmps[1]?.getD undef = .pointer (some ⟨w.heap.size, 0, none⟩) := g1
                clear g1
                go_simp
                exact hKf _ _ (Below.refl _ _) rfl
              | 3, _ =>
                refine StepOk.plain _ 20 rfl rfl rfl [(19, some 2)] (by kernel_rfl) (fun af wf hbw hf Kf hKf => ?_)
                obtain ⟨g19, _⟩ := hf
                have h19 : af.tmps[19]?.getD undef = .pointer (some ⟨w.heap.size, 0, none⟩) := g19
                clear g19
                have cB0 := (Blk.on (Blk.drew (P0)) hbw).cell
                go_simp
                exact hKf _ _ (Below.refl _ _) rfl
              | 4, _ =>
                refine StepOk.plain _ 21 rfl rfl rfl [(20, some 3)] (by kernel_rfl) (fun af wf hbw hf Kf hKf => ?_)
                obtain ⟨g20, _⟩ := hf
                have h20 : af.tmps[20]?.getD undef = .int .i64 f1 := g20
                clear g20
                go_simp
                refine (has_any f1 119 c0 c1 _).mono ?_
                rintro e wN ⟨rfl, rfl⟩
                exact hKf _ _ (Below.refl _ _) (congrArg Value.bool HF.out.1)
              | 5, _ =>
                refine StepOk.plain _ 22 rfl rfl rfl [(18, some 1), (21, some 4)] (by kernel_rfl) (fun af wf hbw hf Kf hKf => ?_)
                obtain ⟨g18, g21, _⟩ := hf
                have h18 : af.tmps[18]?.getD undef = .int .i64 f3 := g18
                have h21 : af.tmps[21]?.getD undef = .bool W := g21
                clear g18 g21
                go_simp
                refine (rnum_any f3 W _).mono ?_
                rintro e wN ⟨rfl, rfl⟩
                exact hKf _ _ (Below.refl _ _) (congrArg Value.bool g0.out)
              | 6, _ =>
                refine StepOk.plain _ 23 rfl rfl rfl [(22, some 5)] (by kernel_rfl) (fun af wf hbw hf Kf hKf => ?_)
                obtain ⟨g22, _⟩ := hf
                have h22 : af.tmps[22]?.getD undef = .bool true := g22
                clear g22
                go_simp
                exact hKf _ _ (Below.refl _ _) rfl
              | 7, _ =>
                refine StepOk.yes _ 24 rfl rfl rfl rfl (fun _ _ h => h) [(1, none)] (by kernel_rfl) (fun af wf hbw hf Kf hKf => ?_)
                obtain ⟨g1, _⟩ := hf
                have h1 : af.tmps[1]?.getD undef = .pointer (some ⟨w.heap.size, 0, none⟩) := g1
                clear g1
                go_simp
                exact hKf _ _ (Below.refl _ _) rfl
              | 8, _ =>
                refine StepOk.yes _ 25 rfl rfl rfl rfl (fun _ _ h => h) [(24, some 7)] (by kernel_rfl) (fun af wf hbw hf Kf hKf => ?_)
                obtain ⟨g24, _⟩ := hf
                have h24 : af.tmps[24]?.getD undef = .pointer (some ⟨w.heap.size, 3, none⟩) := g24
                clear g24
                have cB0 := (Blk.on (Blk.drew (P0)) hbw).cell
                go_simp
                exact hKf _ _ (Below.refl _ _) rfl
              | 9, _ =>
                refine StepOk.yes _ 26 rfl rfl rfl rfl (fun _ _ h => h) [(1, none)] (by kernel_rfl) (fun af wf hbw hf Kf hKf => ?_)
                obtain ⟨g1, _⟩ := hf
                have h1 : af.tmps[1]?.getD undef = .pointer (some ⟨w.heap.size, 0, none⟩) := g1
                clear g1
                go_simp
                exact hKf _ _ (Below.refl _ _) rfl
              | 10, _ =>
                refine StepOk.yes _ 27 rfl rfl rfl rfl (fun _ _ h => h) [(26, some 9)] (by kernel_rfl) (fun af wf hbw hf Kf hKf => ?_)
                obtain ⟨g26, _⟩ := hf
                have h26 : af.tmps[26]?.getD undef = .pointer (some ⟨w.heap.size, 0, none⟩) := g26
                clear g26
                have cB0 := (Blk.on (Blk.drew (P0)) hbw).cell
                go_simp
                exact hKf _ _ (Below.refl _ _) rfl
              | 11, _ =>
                refine StepOk.yes _ 28 rfl rfl rfl rfl (fun _ _ h => h) [(27, some 10)] (by kernel_rfl) (fun af wf hbw hf Kf hKf => ?_)
                obtain ⟨g27, _⟩ := hf
                have h27 : af.tmps[27]?.getD undef = .int .i64 f1 := g27
                clear g27
                go_simp
                refine (has_any f1 107 c0 c1 _).mono ?_
                rintro e wN ⟨rfl, rfl⟩
                exact hKf _ _ (Below.refl _ _) (congrArg Value.bool HF.out.2.1)
              | 12, _ =>
                refine StepOk.yes _ 29 rfl rfl rfl rfl (fun _ _ h => h) [(25, some 8), (28, some 11)] (by kernel_rfl) (fun af wf hbw hf Kf hKf => ?_)
                obtain ⟨g25, g28, _⟩ := hf
                have h25 : af.tmps[25]?.getD undef = .int .i64 f4 := g25
                have h28 : af.tmps[28]?.getD undef = .bool K := g28
                clear g25 g28
                go_simp
                refine (rnum_any f4 K _).mono ?_
                rintro e wN ⟨rfl, rfl⟩
                exact hKf _ _ (Below.refl _ _) (congrArg Value.bool g1.out)
              | 13, _ =>
                refine StepOk.plain _ 30 rfl rfl rfl [(23, some 6), (29, some 12)] (by kernel_rfl) (fun af wf hbw hf Kf hKf => ?_)
                obtain ⟨g23, g29, _⟩ := hf
                have h23 : af.tmps[23]?.getD undef = .bool true := g23
                have h29 : af.tmps[29]?.getD undef = .bool false := g29
                clear g23 g29
                go_simp
                exact hKf _ _ (Below.refl _ _) rfl
              | 14, _ =>
                refine StepOk.plain _ 31 rfl rfl rfl [(30, some 13)] (by kernel_rfl) (fun af wf hbw hf Kf hKf => ?_)
                obtain ⟨g30, _⟩ := hf
                have h30 : af.tmps[30]?.getD undef = .bool false := g30
                clear g30
                go_simp
                exact hKf _ _ (Below.refl _ _) rfl
              | 15, _ => exact StepOk.no _ 32 rfl rfl rfl rfl (fun _ _ h => h) (by decide) (by kernel_rfl) (fun _ => rfl)
              | 16, _ => exact StepOk.no _ 33 rfl rfl rfl rfl (fun _ _ h => h) (by decide) (by kernel_rfl) (fun _ => rfl)
              | 17, _ => exact StepOk.no _ 34 rfl rfl rfl rfl (fun _ _ h => h) (by decide) (by kernel_rfl) (fun _ => rfl)
              | 18, _ => exact StepOk.no _ 35 rfl rfl rfl rfl (fun _ _ h => h) (by decide) (by kernel_rfl) (fun _ => rfl)
              | 19, _ => exact StepOk.no _ 36 rfl rfl rfl rfl (fun _ _ h => h) (by decide) (by kernel_rfl) (fun _ => rfl)
              | 20, _ => exact StepOk.no _ 37 rfl rfl rfl rfl (fun _ _ h => h) (by decide) (by kernel_rfl) (fun _ => rfl)
              | 21, _ =>
                refine StepOk.plain _ 38 rfl rfl rfl [(31, some 14), (37, some 20)] (by kernel_rfl) (fun af wf hbw hf Kf hKf => ?_)
                obtain ⟨g31, g37, _⟩ := hf
                have h31 : af.tmps[31]?.getD undef = .bool false := g31
                have h37 : af.tmps[37]?.getD undef = undef := g37
                clear g31 g37
                go_simp
                exact hKf _ _ (Below.refl _ _) rfl
              | 22, _ =>
                refine StepOk.plain _ 39 rfl rfl rfl [(38, some 21)] (by kernel_rfl) (fun af wf hbw hf Kf hKf => ?_)
                obtain ⟨g38, _⟩ := hf
                have h38 : af.tmps[38]?.getD undef = .bool false := g38
                clear g38
                go_simp
                exact hKf _ _ (Below.refl _ _) rfl
              | 23, _ => exact StepOk.no _ 40 rfl rfl rfl rfl (fun _ _ h => h) (by decide) (by kernel_rfl) (fun _ => rfl)
              | 24, _ => exact StepOk.no _ 41 rfl rfl rfl rfl (fun _ _ h => h) (by decide) (by kernel_rfl) (fun _ => rfl)
              | 25, _ => exact StepOk.no _ 42 rfl rfl rfl rfl (fun _ _ h => h) (by decide) (by kernel_rfl) (fun _ => rfl)
              | 26, _ => exact StepOk.no _ 43 rfl rfl rfl rfl (fun _ _ h => h) (by decide) (by kernel_rfl) (fun _ => rfl)
              | 27, _ => exact StepOk.no _ 44 rfl rfl rfl rfl (fun _ _ h => h) (by decide) (by kernel_rfl) (fun _ => rfl)
              | 28, _ => exact StepOk.no _ 45 rfl rfl rfl rfl (fun _ _ h => h) (by decide) (by kernel_rfl) (fun _ => rfl)
              | 29, _ =>
                refine StepOk.plain _ 46 rfl rfl rfl [(39, some 22), (45, some 28)] (by kernel_rfl) (fun af wf hbw hf Kf hKf => ?_)
                obtain ⟨g39, g45, _⟩ := hf
                have h39 : af.tmps[39]?.getD undef = .bool false := g39
                have h45 : af.tmps[45]?.getD undef = undef := g45
                clear g39 g45
                go_simp
                exact hKf _ _ (Below.refl _ _) rfl
              | 30, _ =>
                refine StepOk.plain _ 47 rfl rfl rfl [(46, some 29)] (by kernel_rfl) (fun af wf hbw hf Kf hKf => ?_)
                obtain ⟨g46, _⟩ := hf
                have h46 : af.tmps[46]?.getD undef = .bool false := g46
                clear g46
                go_simp
                exact hKf _ _ (Below.refl _ _) rfl
              | 31, _ => exact StepOk.no _ 48 rfl rfl rfl rfl (fun _ _ h => h) (by decide) (by kernel_rfl) (fun _ => rfl)
              | 32, _ => exact StepOk.no _ 49 rfl rfl rfl rfl (fun _ _ h => h) (by decide) (by kernel_rfl) (fun _ => rfl)
              | 33, _ => exact StepOk.no _ 50 rfl rfl rfl rfl (fun _ _ h => h) (by decide) (by kernel_rfl) (fun _ => rfl)
              | 34, _ => exact StepOk.no _ 51 rfl rfl rfl rfl (fun _ _ h => h) (by decide) (by kernel_rfl) (fun _ => rfl)
              | 35, _ => exact StepOk.nou _ 52 rfl rfl rfl rfl (fun _ _ h => h) (by kernel_rfl) (fun _ => rfl)
              | 36, _ => exact StepOk.nou _ 53 rfl rfl rfl rfl (fun _ _ h => h) (by kernel_rfl) (fun _ => rfl)
              | 37, _ => exact StepOk.nou _ 54 rfl rfl rfl rfl (fun _ _ h => h) (by kernel_rfl) (fun _ => rfl)
              | 38, _ => exact StepOk.no _ 55 rfl rfl rfl rfl (fun _ _ h => h) (by decide) (by kernel_rfl) (fun _ => rfl)
              | 39, _ =>
                refine StepOk.plain _ 56 rfl rfl rfl [(47, some 30), (55, some 38)] (by kernel_rfl) (fun af wf hbw hf Kf hKf => ?_)
                obtain ⟨g47, g55, _⟩ := hf
                have h47 : af.tmps[47]?.getD undef = .bool false := g47
                have h55 : af.tmps[55]?.getD undef = undef := g55
                clear g47 g55
                go_simp
                exact hKf _ _ (Below.refl _ _) rfl
              | 40, _ =>
                refine StepOk.plain _ 57 rfl rfl rfl [(56, some 39)] (by kernel_rfl) (fun af wf hbw hf Kf hKf => ?_)
                obtain ⟨g56, _⟩ := hf
                have h56 : af.tmps[56]?.getD undef = .bool false := g56
                clear g56
                go_simp
                exact hKf _ _ (Below.refl _ _) rfl
              | 41, _ => exact StepOk.no _ 58 rfl rfl rfl rfl (fun _ _ h => h) (by decide) (by kernel_rfl) (fun _ => rfl)
              | 42, _ => exact StepOk.no _ 59 rfl rfl rfl rfl (fun _ _ h => h) (by decide) (by kernel_rfl) (fun _ => rfl)
              | 43, _ => exact StepOk.no _ 60 rfl rfl rfl rfl (fun _ _ h => h) (by decide) (by kernel_rfl) (fun _ => rfl)
              | 44, _ => exact StepOk.no _ 61 rfl rfl rfl rfl (fun _ _ h => h) (by decide) (by kernel_rfl) (fun _ => rfl)
              | 45, _ => exact StepOk.no _ 62 rfl rfl rfl rfl (fun _ _ h => h) (by decide) (by kernel_rfl) (fun _ => rfl)
              | 46, _ => exact StepOk.nou _ 63 rfl rfl rfl rfl (fun _ _ h => h) (by kernel_rfl) (fun _ => rfl)
              | 47, _ => exact StepOk.nou _ 64 rfl rfl rfl rfl (fun _ _ h => h) (by kernel_rfl) (fun _ => rfl)
              | 48, _ => exact StepOk.nou _ 65 rfl rfl rfl rfl (fun _ _ h => h) (by kernel_rfl) (fun _ => rfl)
              | 49, _ => exact StepOk.no _ 66 rfl rfl rfl rfl (fun _ _ h => h) (by decide) (by kernel_rfl) (fun _ => rfl)
              | 50, _ =>
                refine StepOk.plain _ 67 rfl rfl rfl [(57, some 40), (66, some 49)] (by kernel_rfl) (fun af wf hbw hf Kf hKf => ?_)
                obtain ⟨g57, g66, _⟩ := hf
                have h57 : af.tmps[57]?.getD undef = .bool false := g57
                have h66 : af.tmps[66]?.getD undef = undef := g66
                clear g57 g66
                go_simp
                exact hKf _ _ (Below.refl _ _) rfl
              | 51, _ =>
                refine StepOk.plain _ 2 rfl rfl rfl [(67, some 50)] (by kernel_rfl) (fun af wf hbw hf Kf hKf => ?_)
                obtain ⟨g67, _⟩ := hf
                have h67 : af.tmps[67]?.getD undef = .bool false := g67
                clear g67
                go_simp
                exact hKf _ _ (Below.refl _ _) rfl
              | i + 52, h => exact absurd h (by show ¬ (i + 52 < 52); omega)
            · intro af wF hbF hdF hsF hbaseF hfactF
              obtain ⟨T, dsF⟩ := af
              obtain rfl : dsF = _ := hdF
              have e0 := hbaseF 0 (not_dst (by kernel_rfl))
              simp only [List.getElem?_toArray, List.getElem?_cons_zero, Option.getD_some] at e0
              have e1 := hbaseF 1 (not_dst (by kernel_rfl))
              simp only [List.getElem?_toArray, List.getElem?_cons_zero, List.getElem?_cons_succ, Option.getD_some] at e1
              have e3 := hbaseF 3 (not_dst (by kernel_rfl))
              simp only [List.getElem?_toArray, List.getElem?_cons_zero, List.getElem?_cons_succ, Option.getD_some] at e3
              have e4 := hbaseF 4 (not_dst (by kernel_rfl))
              simp only [List.getElem?_toArray, List.getElem?_cons_zero, List.getElem?_cons_succ, Option.getD_some] at e4
              have e5 := hbaseF 5 (not_dst (by kernel_rfl))
              simp only [List.getElem?_toArray, List.getElem?_cons_zero, List.getElem?_cons_succ, Option.getD_some] at e5
              have e6 := hbaseF 6 (not_dst (by kernel_rfl))
              simp only [List.getElem?_toArray, List.getElem?_cons_zero, List.getElem?_cons_succ, Option.getD_some] at e6
              have e7 := hbaseF 7 (not_dst (by kernel_rfl))
              simp only [List.getElem?_toArray, List.getElem?_cons_zero, List.getElem?_cons_succ, Option.getD_some] at e7
              have e8 := hbaseF 8 (not_dst (by kernel_rfl))
              simp only [List.getElem?_toArray, List.getElem?_cons_zero, List.getElem?_cons_succ, Option.getD_some] at e8
              have e9 := hbaseF 9 (not_dst (by kernel_rfl))
              simp only [List.getElem?_toArray, List.getElem?_cons_zero, List.getElem?_cons_succ, Option.getD_some] at e9
              have e10 := hbaseF 10 (not_dst (by kernel_rfl))
              simp only [List.getElem?_toArray, List.getElem?_cons_zero, List.getElem?_cons_succ, Option.getD_some] at e10
              have e11 := hbaseF 11 (not_dst (by kernel_rfl))
              simp only [List.getElem?_toArray, List.getElem?_cons_zero, List.getElem?_cons_succ, Option.getD_some] at e11
              have e12 := hbaseF 12 (not_dst (by kernel_rfl))
              simp only [List.getElem?_toArray, List.getElem?_cons_zero, List.getElem?_cons_succ, Option.getD_some] at e12
              have e13 := hbaseF 13 (not_dst (by kernel_rfl))
              simp only [List.getElem?_toArray, List.getElem?_cons_zero, List.getElem?_cons_succ, Option.getD_some] at e13
              have e14 := hbaseF 14 (not_dst (by kernel_rfl))
              simp only [List.getElem?_toArray, List.getElem?_cons_zero, List.getElem?_cons_succ, Option.getD_some] at e14
              have e15 := hbaseF 15 (not_dst (by kernel_rfl))
              simp only [List.getElem?_toArray, List.getElem?_cons_zero, List.getElem?_cons_succ, Option.getD_some] at e15
              have e16 := hbaseF 16 (not_dst (by kernel_rfl))
              simp only [List.getElem?_toArray, List.getElem?_cons_zero, List.getElem?_cons_succ, Option.getD_some] at e16
              have e2 := hfactF 51 2 (by decide) rfl
              replace e2 : T[2]?.getD undef = .bool false := e2
              clear hbaseF hfactF
              have hT : T = #[T[0]?.getD undef, T[1]?.getD undef, T[2]?.getD undef, T[3]?.getD undef, T[4]?.getD undef, T[5]?.getD undef, T[6]?.getD undef, T[7]?.getD undef, T[8]?.getD undef, T[9]?.getD undef, T[10]?.getD undef, T[11]?.getD undef, T[12]?.getD undef, T[13]?.getD undef, T[14]?.getD undef, T[15]?.getD undef, T[16]?.getD undef, T[17]?.getD undef, T[18]?.getD undef, T[19]?.getD undef, T[20]?.getD undef, T[21]?.getD undef, T[22]?.getD undef, T[23]?.getD undef, T[24]?.getD undef, T[25]?.getD undef, T[26]?.getD undef, T[27]?.getD undef, T[28]?.getD undef, T[29]?.getD undef, T[30]?.getD undef, T[31]?.getD undef, T[32]?.getD undef, T[33]?.getD undef, T[34]?.getD undef, T[35]?.getD undef, T[36]?.getD undef, T[37]?.getD undef, T[38]?.getD undef, T[39]?.getD undef, T[40]?.getD undef, T[41]?.getD undef, T[42]?.getD undef, T[43]?.getD undef, T[44]?.getD undef, T[45]?.getD undef, T[46]?.getD undef, T[47]?.getD undef, T[48]?.getD undef, T[49]?.getD undef, T[50]?.getD undef, T[51]?.getD undef, T[52]?.getD undef, T[53]?.getD undef, T[54]?.getD undef, T[55]?.getD undef, T[56]?.getD undef, T[57]?.getD undef, T[58]?.getD undef, T[59]?.getD undef, T[60]?.getD undef, T[61]?.getD undef, T[62]?.getD undef, T[63]?.getD undef, T[64]?.getD undef, T[65]?.getD undef, T[66]?.getD undef, T[67]?.getD undef] := arr_eq T 68 hsF
              clear hsF
              rw [e0] at hT; clear e0
              rw [e1] at hT; clear e1
              rw [e2] at hT; clear e2
              rw [e3] at hT; clear e3
              rw [e4] at hT; clear e4
              rw [e5] at hT; clear e5
              rw [e6] at hT; clear e6
              rw [e7] at hT; clear e7
              rw [e8] at hT; clear e8
              rw [e9] at hT; clear e9
              rw [e10] at hT; clear e10
              rw [e11] at hT; clear e11
              rw [e12] at hT; clear e12
              rw [e13] at hT; clear e13
              rw [e14] at hT; clear e14
              rw [e15] at hT; clear e15
              rw [e16] at hT; clear e16
              generalize T[17]?.getD undef = u17 at hT
              generalize T[18]?.getD undef = u18 at hT
              generalize T[19]?.getD undef = u19 at hT
              generalize T[20]?.getD undef = u20 at hT
              generalize T[21]?.getD undef = u21 at hT
              generalize T[22]?.getD undef = u22 at hT
              generalize T[23]?.getD undef = u23 at hT
              generalize T[24]?.getD undef = u24 at hT
              generalize T[25]?.getD undef = u25 at hT
              generalize T[26]?.getD undef = u26 at hT
              generalize T[27]?.getD undef = u27 at hT
              generalize T[28]?.getD undef = u28 at hT
              generalize T[29]?.getD undef = u29 at hT
              generalize T[30]?.getD undef = u30 at hT
              generalize T[31]?.getD undef = u31 at hT
              generalize T[32]?.getD undef = u32 at hT
              generalize T[33]?.getD undef = u33 at hT
              generalize T[34]?.getD undef = u34 at hT
              generalize T[35]?.getD undef = u35 at hT
              generalize T[36]?.getD undef = u36 at hT
              generalize T[37]?.getD undef = u37 at hT
              generalize T[38]?.getD undef = u38 at hT
              generalize T[39]?.getD undef = u39 at hT
              generalize T[40]?.getD undef = u40 at hT
              generalize T[41]?.getD undef = u41 at hT
              generalize T[42]?.getD undef = u42 at hT
              generalize T[43]?.getD undef = u43 at hT
              generalize T[44]?.getD undef = u44 at hT
              generalize T[45]?.getD undef = u45 at hT
              generalize T[46]?.getD undef = u46 at hT
              generalize T[47]?.getD undef = u47 at hT
              generalize T[48]?.getD undef = u48 at hT
              generalize T[49]?.getD undef = u49 at hT
              generalize T[50]?.getD undef = u50 at hT
              generalize T[51]?.getD undef = u51 at hT
              generalize T[52]?.getD undef = u52 at hT
              generalize T[53]?.getD undef = u53 at hT
              generalize T[54]?.getD undef = u54 at hT
              generalize T[55]?.getD undef = u55 at hT
              generalize T[56]?.getD undef = u56 at hT
              generalize T[57]?.getD undef = u57 at hT
              generalize T[58]?.getD undef = u58 at hT
              generalize T[59]?.getD undef = u59 at hT
              generalize T[60]?.getD undef = u60 at hT
              generalize T[61]?.getD undef = u61 at hT
              generalize T[62]?.getD undef = u62 at hT
              generalize T[63]?.getD undef = u63 at hT
              generalize T[64]?.getD undef = u64 at hT
              generalize T[65]?.getD undef = u65 at hT
              generalize T[66]?.getD undef = u66 at hT
              generalize T[67]?.getD undef = u67 at hT
              subst hT
              go_wp2_with fail
              go_ret
              exact ⟨by rw [hr.out]; rfl, (by (have q_hbF := Below.size hbF; (try simp at q_hbF); repeat (first | exact Below.refl _ _ | (refine Below.trans ?_ (Below.mono hbF (by first | omega | (simp; omega) | simp))) | (refine Below.setCell ?_ (by first | omega | (simp; omega) | simp) _) | (refine Below.alloc ?_ (by first | omega | (simp; omega) | simp) _) | apply Below.drew | apply below_drewN)))⟩
          | true =>
            have g1 := Lib.hid hg1
            rw [hg1] at hr
            clear hg1
            cases hg2 : numH f5 N with
            | false =>
              have g2 := Lib.hid hg2
              rw [hg2] at hr
              clear hg2
              go_enter Try.func14, Try.ntmps14
              go_wp2_with fail
              refine wp_flows [(fun y_ _ => y_ = .pointer (some ⟨w.heap.size, 2, none⟩)), (fun y_ _ => y_ = .int .i64 f3), (fun y_ _ => y_ = .pointer (some ⟨w.heap.size, 0, none⟩)), (fun y_ _ => y_ = .int .i64 f1), (fun y_ _ => y_ = .bool W), (fun y_ _ => y_ = .bool true), (fun y_ _ => y_ = .bool true), (fun y_ _ => y_ = .pointer (some ⟨w.heap.size, 3, none⟩)), (fun y_ _ => y_ = .int .i64 f4), (fun y_ _ => y_ = .pointer (some ⟨w.heap.size, 0, none⟩)), (fun y_ _ => y_ = .int .i64 f1), (fun y_ _ => y_ = .bool K), (fun y_ _ => y_ = .bool true), (fun y_ _ => y_ = .bool true), (fun y_ _ => y_ = .bool true), (fun y_ _ => y_ = .pointer (some ⟨w.heap.size, 4, none⟩)), (fun y_ _ => y_ = .int .i64 f5), (fun y_ _ => y_ = .pointer (some ⟨w.heap.size, 0, none⟩)), (fun y_ _ => y_ = .int .i64 f1), (fun y_ _ => y_ = .bool N), (fun y_ _ => y_ = .bool false), (fun y_ _ => y_ = .bool false), (fun y_ _ => y_ = .bool false), (fun y_ _ => y_ = undef), (fun y_ _ => y_ = undef), (fun y_ _ => y_ = undef), (fun y_ _ => y_ = undef), (fun y_ _ => y_ = undef), (fun y_ _ => y_ = undef), (fun y_ _ => y_ = .bool false), (fun y_ _ => y_ = .bool false), (fun y_ _ => y_ = undef), (fun y_ _ => y_ = undef), (fun y_ _ => y_ = undef), (fun y_ _ => y_ = undef), (fun y_ _ => y_ = undef), (fun y_ _ => y_ = undef), (fun y_ _ => y_ = undef), (fun y_ _ => y_ = undef), (fun y_ _ => y_ = .bool false), (fun y_ _ => y_ = .bool false), (fun y_ _ => y_ = undef), (fun y_ _ => y_ = undef), (fun y_ _ => y_ = undef), (fun y_ _ => y_ = undef), (fun y_ _ => y_ = undef), (fun y_ _ => y_ = undef), (fun y_ _ => y_ = undef), (fun y_ _ => y_ = undef), (fun y_ _ => y_ = undef), (fun y_ _ => y_ = .bool false), (fun y_ _ => y_ = .bool false)] (by kernel_rfl) ⟨Stab.eq _, Stab.eq _, Stab.eq _, Stab.eq _, Stab.eq _, Stab.eq _, Stab.eq _, Stab.eq _, Stab.eq _, Stab.eq _, Stab.eq _, Stab.eq _, Stab.eq _, Stab.eq _, Stab.eq _, Stab.eq _, Stab.eq _, Stab.eq _, Stab.eq _, Stab.eq _, Stab.eq _, Stab.eq _, Stab.eq _, Stab.eq _, Stab.eq _, Stab.eq _, Stab.eq _, Stab.eq _, Stab.eq _, Stab.eq _, Stab.eq _, Stab.eq _, Stab.eq _, Stab.eq _, Stab.eq _, Stab.eq _, Stab.eq _, Stab.eq _, Stab.eq _, Stab.eq _, Stab.eq _, Stab.eq _, Stab.eq _, Stab.eq _, Stab.eq _, Stab.eq _, Stab.eq _, Stab.eq _, Stab.eq _, Stab.eq _, Stab.eq _, Stab.eq _, trivial⟩ (by kernel_rfl) (by rfl) ?_ ?_
              · intro kq hkq
                match kq, hkq with
                | 0, _ =>
                  refine StepOk.plain _ 17 rfl rfl rfl [(1, none)] (by kernel_rfl) (fun af wf hbw hf Kf hKf => ?_)
                  obtain ⟨g1, _⟩ := hf
                  have h1 : af.tmps[1]?.getD undef = .pointer (some ⟨w.heap.size, 0, none⟩) := g1
                  clear g1
                  go_simp
                  exact hKf _ _ (Below.refl _ _) rfl
                | 1, _ =>
                  refine StepOk.plain _ 18 rfl rfl rfl [(17, some 0)] (by kernel_rfl) (fun af wf hbw hf Kf hKf => ?_)
                  obtain ⟨g17, _⟩ := hf
                  have h17 : af.tmps[17]?.getD undef = .pointer (some ⟨w.heap.size, 2, none⟩) := g17
                  clear g17
                  have cB0 := (Blk.on (Blk.drew (P0)) hbw).cell
                  go_simp
                  exact hKf _ _ (Below.refl _ _) rfl
                | 2, _ =>
                  refine StepOk.plain _ 19 rfl rfl rfl [(1, none)] (by kernel_rfl) (fun af wf hbw hf Kf hKf => ?_)
                  obtain ⟨g1, _⟩ := hf
                  have h1 : af.tmps[1]?.getD undef = .pointer (some ⟨w.heap.size, 0, none⟩) := g1
                  clear g1
                  go_simp
                  exact hKf _ _ (Below.refl _ _) rfl
                | 3, _ =>
                  refine StepOk.plain _ 20 rfl rfl rfl [(19, some 2)] (by kernel_rfl) (fun af wf hbw hf Kf hKf => ?_)
                  obtain ⟨g19, _⟩ := hf
                  have h19 : af.tmps[19]?.getD undef = .pointer (some ⟨w.heap.size, 0, none⟩) := g19
                  clear g19
                  have cB0 := (Blk.on (Blk.drew (P0)) hbw).cell
                  go_simp
                  exact hKf _ _ (Below.refl _ _) rfl
                | 4, _ =>
                  refine StepOk.plain _ 21 rfl rfl rfl [(20, some 3)] (by kernel_rfl) (fun af wf hbw hf Kf hKf => ?_)
                  obtain ⟨g20, _⟩ := hf
                  have h20 : af.tmps[20]?.getD undef = .int .i64 f1 := g20
                  clear g20
                  go_simp
                  refine (has_any f1 119 c0 c1 _).mono ?_
                  rintro e wN ⟨rfl, rfl⟩
                  exact hKf _ _ (Below.refl _ _) (congrArg Value.bool HF.out.1)
                | 5, _ =>
                  refine StepOk.plain _ 22 rfl rfl rfl [(18, some 1), (21, some 4)] (by kernel_rfl) (fun af wf hbw hf Kf hKf => ?_)
                  obtain ⟨g18, g21, _⟩ := hf
                  have h18 : af.tmps[18]?.getD undef = .int .i64 f3 := g18
                  have h21 : af.tmps[21]?.getD undef = .bool W := g21
                  clear g18 g21
                  go_simp
                  refine (rnum_any f3 W _).mono ?_
                  rintro e wN ⟨rfl, rfl⟩
                  exact hKf _ _ (Below.refl _ _) (congrArg Value.bool g0.out)
                | 6, _ =>
                  refine StepOk.plain _ 23 rfl rfl rfl [(22, some 5)] (by kernel_rfl) (fun af wf hbw hf Kf hKf => ?_)
                  obtain ⟨g22, _⟩ := hf
                  have h22 : af.tmps[22]?.getD undef = .bool true := g22
                  clear g22
                  go_simp
                  exact hKf _ _ (Below.refl _ _) rfl
                | 7, _ =>
                  refine StepOk.yes _ 24 rfl rfl rfl rfl (fun _ _ h => h) [(1, none)] (by kernel_rfl) (fun af wf hbw hf Kf hKf => ?_)
                  obtain ⟨g1, _⟩ := hf
                  have h1 : af.tmps[1]?.getD undef = .pointer (some ⟨w.heap.size, 0, none⟩) := g1
                  clear g1
                  go_simp
                  exact hKf _ _ (Below.refl _ _) rfl
                | 8, _ =>
                  refine StepOk.yes _ 25 rfl rfl rfl rfl (fun _ _ h => h) [(24, some 7)] (by kernel_rfl) (fun af wf hbw hf Kf hKf => ?_)
                  obtain ⟨g24, _⟩ := hf
                  have h24 : af.tmps[24]?.getD undef = .pointer (some ⟨w.heap.size, 3, none⟩) := g24
                  clear g24
                  have cB0 := (Blk.on (Blk.drew (P0)) hbw).cell
                  go_simp
                  exact hKf _ _ (Below.refl _ _) rfl
                | 9, _ =>
                  refine StepOk.yes _ 26 rfl rfl rfl rfl (fun _ _ h => h) [(1, none)] (by kernel_rfl) (fun af wf hbw hf Kf hKf => ?_)
                  obtain ⟨g1, _⟩ := hf
                  have h1 : af.tmps[1]?.getD undef = .pointer (some ⟨w.heap.size, 0, none⟩) := g1
                  clear g1
                  go_simp
                  exact hKf _ _ (Below.refl _ _) rfl
                | 10, _ =>
                  refine StepOk.yes _ 27 rfl rfl rfl rfl (fun _ _ h => h) [(26, some 9)] (by kernel_rfl) (fun af wf hbw hf Kf hKf => ?_)
                  obtain ⟨g26, _⟩ := hf
                  have h26 : af.tmps[26]?.getD undef = .pointer (some ⟨w.heap.size, 0, none⟩) := g26
                  clear g26
                  have cB0 := (Blk.on (Blk.drew (P0)) hbw).cell
                  go_simp
                  exact hKf _ _ (Below.refl _ _) rfl
                | 11, _ =>
                  refine StepOk.yes _ 28 rfl rfl rfl rfl (fun _ _ h => h) [(27, some 10)] (by kernel_rfl) (fun af wf hbw hf Kf hKf => ?_)
                  obtain ⟨g27, _⟩ := hf
                  have h27 : af.tmps[27]?.getD undef = .int .i64 f1 := g27
                  clear g27
                  go_simp
                  refine (has_any f1 107 c0 c1 _).mono ?_
                  rintro e wN ⟨rfl, rfl⟩
                  exact hKf _ _ (Below.refl _ _) (congrArg Value.bool HF.out.2.1)
                | 12, _ =>
                  refine StepOk.yes _ 29 rfl rfl rfl rfl (fun _ _ h => h) [(25, some 8), (28, some 11)] (by kernel_rfl) (fun af wf hbw hf Kf hKf => ?_)
                  obtain ⟨g25, g28, _⟩ := hf
                  have h25 : af.tmps[25]?.getD undef = .int .i64 f4 := g25
                  have h28 : af.tmps[28]?.getD undef = .bool K := g28
                  clear g25 g28
                  go_simp
                  refine (rnum_any f4 K _).mono ?_
                  rintro e wN ⟨rfl, rfl⟩
                  exact hKf _ _ (Below.refl _ _) (congrArg Value.bool g1.out)
                | 13, _ =>
                  refine StepOk.plain _ 30 rfl rfl rfl [(23, some 6), (29, some 12)] (by kernel_rfl) (fun af wf hbw hf Kf hKf => ?_)
                  obtain ⟨g23, g29, _⟩ := hf
                  have h23 : af.tmps[23]?.getD undef = .bool true := g23
                  have h29 : af.tmps[29]?.getD undef = .bool true := g29
                  clear g23 g29
                  go_simp
                  exact hKf _ _ (Below.refl _ _) rfl
                | 14, _ =>
                  refine StepOk.plain _ 31 rfl rfl rfl [(30, some 13)] (by kernel_rfl) (fun af wf hbw hf Kf hKf => ?_)
                  obtain ⟨g30, _⟩ := hf
                  have h30 : af.tmps[30]?.getD undef = .bool true := g30
                  clear g30
                  go_simp
                  exact hKf _ _ (Below.refl _ _) rfl
                | 15, _ =>
                  refine StepOk.yes _ 32 rfl rfl rfl rfl (fun _ _ h => h) [(1, none)] (by kernel_rfl) (fun af wf hbw hf Kf hKf => ?_)
                  obtain ⟨g1, _⟩ := hf
                  have h1 : af.tmps[1]?.getD undef = .pointer (some ⟨w.heap.size, 0, none⟩) := g1
                  clear g1
                  go_simp
                  exact hKf _ _ (Below.refl _ _) rfl
                | 16, _ =>
                  refine StepOk.yes _ 33 rfl rfl rfl rfl (fun _ _ h => h) [(32, some 15)] (by kernel_rfl) (fun af wf hbw hf Kf hKf => ?_)
                  obtain ⟨g32, _⟩ := hf
                  have h32 : af.tmps[32]?.getD undef = .pointer (some ⟨w.heap.size, 4, none⟩) := g32
                  clear g32
                  have cB0 := (Blk.on (Blk.drew (P0)) hbw).cell
                  go_simp
                  exact hKf _ _ (Below.refl _ _) rfl
                | 17, _ =>
                  refine StepOk.yes _ 34 rfl rfl rfl rfl (fun _ _ h => h) [(1, none)] (by kernel_rfl) (fun af wf hbw hf Kf hKf => ?_)
                  obtain ⟨g1, _⟩ := hf
                  have h1 : af.tmps[1]?.getD undef = .pointer (some ⟨w.heap.size, 0, none⟩) := g1
                  clear g1
                  go_simp
                  exact hKf _ _ (Below.refl _ _) rfl
                | 18, _ =>
                  refine StepOk.yes _ 35 rfl rfl rfl rfl (fun _ _ h => h) [(34, some 17)] (by kernel_rfl) (fun af wf hbw hf Kf hKf => ?_)
                  obtain ⟨g34, _⟩ := hf
                  have h34 : af.tmps[34]?.getD undef = .pointer (some ⟨w.heap.size, 0, none⟩) := g34
                  clear g34
                  have cB0 := (Blk.on (Blk.drew (P0)) hbw).cell
                  go_simp
                  exact hKf _ _ (Below.refl _ _) rfl
                | 19, _ =>
                  refine StepOk.yes _ 36 rfl rfl rfl rfl (fun _ _ h => h) [(35, some 18)] (by kernel_rfl) (fun af wf hbw hf Kf hKf => ?_)
                  obtain ⟨g35, _⟩ := hf
                  have h35 : af.tmps[35]?.getD undef = .int .i64 f1 := g35
                  clear g35
                  go_simp
                  refine (has_any f1 110 c0 c1 _).mono ?_
                  rintro e wN ⟨rfl, rfl⟩
                  exact hKf _ _ (Below.refl _ _) (congrArg Value.bool HF.out.2.2.1)
                | 20, _ =>
                  refine StepOk.yes _ 37 rfl rfl rfl rfl (fun _ _ h => h) [(33, some 16), (36, some 19)] (by kernel_rfl) (fun af wf hbw hf Kf hKf => ?_)
                  obtain ⟨g33, g36, _⟩ := hf
                  have h33 : af.tmps[33]?.getD undef = .int .i64 f5 := g33
                  have h36 : af.tmps[36]?.getD undef = .bool N := g36
                  clear g33 g36
                  go_simp
                  refine (rnum_any f5 N _).mono ?_
                  rintro e wN ⟨rfl, rfl⟩
                  exact hKf _ _ (Below.refl _ _) (congrArg Value.bool g2.out)
                | 21, _ =>
                  refine StepOk.plain _ 38 rfl rfl rfl [(31, some 14), (37, some 20)] (by kernel_rfl) (fun af wf hbw hf Kf hKf => ?_)
                  obtain ⟨g31, g37, _⟩ := hf
                  have h31 : af.tmps[31]?.getD undef = .bool true := g31
                  have h37 : af.tmps[37]?.getD undef = .bool false := g37
                  clear g31 g37
                  go_simp
                  exact hKf _ _ (Below.refl _ _) rfl
                | 22, _ =>
                  refine StepOk.plain _ 39 rfl rfl rfl [(38, some 21)] (by kernel_rfl) (fun af wf hbw hf Kf hKf => ?_)
                  obtain ⟨g38, _⟩ := hf
                  have h38 : af.tmps[38]?.getD undef = .bool false := g38
                  clear g38
                  go_simp
                  exact hKf _ _ (Below.refl _ _) rfl
                | 23, _ => exact StepOk.no _ 40 rfl rfl rfl rfl (fun _ _ h => h) (by decide) (by kernel_rfl) (fun _ => rfl)
                | 24, _ => exact StepOk.no _ 41 rfl rfl rfl rfl (fun _ _ h => h) (by decide) (by kernel_rfl) (fun _ => rfl)
                | 25, _ => exact StepOk.no _ 42 rfl rfl rfl rfl (fun _ _ h => h) (by decide) (by kernel_rfl) (fun _ => rfl)
                | 26, _ => exact StepOk.no _ 43 rfl rfl rfl rfl (fun _ _ h => h) (by decide) (by kernel_rfl) (fun _ => rfl)
                | 27, _ => exact StepOk.no _ 44 rfl rfl rfl rfl (fun _ _ h => h) (by decide) (by kernel_rfl) (fun _ => rfl)
                | 28, _ => exact StepOk.no _ 45 rfl rfl rfl rfl (fun _ _ h => h) (by decide) (by kernel_rfl) (fun _ => rfl)
                | 29, _ =>
                  refine StepOk.plain _ 46 rfl rfl rfl [(39, some 22), (45, some 28)] (by kernel_rfl) (fun af wf hbw hf Kf hKf => ?_)
                  obtain ⟨g39, g45, _⟩ := hf
                  have h39 : af.tmps[39]?.getD undef = .bool false := g39
                  have h45 : af.tmps[45]?.getD undef = undef := g45
                  clear g39 g45
                  go_simp
                  exact hKf _ _ (Below.refl _ _) rfl
                | 30, _ =>
                  refine StepOk.plain _ 47 rfl rfl rfl [(46, some 29)] (by kernel_rfl) (fun af wf hbw hf Kf hKf => ?_)
                  obtain ⟨g46, _⟩ := hf
                  have h46 : af.tmps[46]?.getD undef = .bool false := g46
                  clear g46
                  go_simp
                  exact hKf _ _ (Below.refl _ _) rfl
                | 31, _ => exact StepOk.no _ 48 rfl rfl rfl rfl (fun _ _ h => h) (by decide) (by kernel_rfl) (fun _ => rfl)
                | 32, _ => exact StepOk.no _ 49 rfl rfl rfl rfl (fun _ _ h => h) (by decide) (by kernel_rfl) (fun _ => rfl)
                | 33, _ => exact StepOk.no _ 50 rfl rfl rfl rfl (fun _ _ h => h) (by decide) (by kernel_rfl) (fun _ => rfl)
                | 34, _ => exact StepOk.no _ 51 rfl rfl rfl rfl (fun _ _ h => h) (by decide) (by kernel_rfl) (fun _ => rfl)
                | 35, _ => exact StepOk.nou _ 52 rfl rfl rfl rfl (fun _ _ h => h) (by kernel_rfl) (fun _ => rfl)
                | 36, _ => exact StepOk.nou _ 53 rfl rfl rfl rfl (fun _ _ h => h) (by kernel_rfl) (fun _ => rfl)
                | 37, _ => exact StepOk.nou _ 54 rfl rfl rfl rfl (fun _ _ h => h) (by kernel_rfl) (fun _ => rfl)
                | 38, _ => exact StepOk.no _ 55 rfl rfl rfl rfl (fun _ _ h => h) (by decide) (by kernel_rfl) (fun _ => rfl)
                | 39, _ =>
                  refine StepOk.plain _ 56 rfl rfl rfl [(47, some 30), (55, some 38)] (by kernel_rfl) (fun af wf hbw hf Kf hKf => ?_)
                  obtain ⟨g47, g55, _⟩ := hf
                  have h47 : af.tmps[47]?.getD undef = .bool false := g47
                  have h55 : af.tmps[55]?.getD undef = undef := g55
                  clear g47 g55
                  go_simp
                  exact hKf _ _ (Below.refl _ _) rfl
                | 40, _ =>
                  refine StepOk.plain _ 57 rfl rfl rfl [(56, some 39)] (by kernel_rfl) (fun af wf hbw hf Kf hKf => ?_)
                  obtain ⟨g56, _⟩ := hf
                  have h56 : af.tmps[56]?.getD undef = .bool false := g56
                  clear g56
                  go_simp
                  exact hKf _ _ (Below.refl _ _) rfl
                | 41, _ => exact StepOk.no _ 58 rfl rfl rfl rfl (fun _ _ h => h) (by decide) (by kernel_rfl) (fun _ => rfl)
                | 42, _ => exact StepOk.no _ 59 rfl rfl rfl rfl (fun _ _ h => h) (by decide) (by kernel_rfl) (fun _ => rfl)
                | 43, _ => exact StepOk.no _ 60 rfl rfl rfl rfl (fun _ _ h => h) (by decide) (by kernel_rfl) (fun _ => rfl)
                | 44, _ => exact StepOk.no _ 61 rfl rfl rfl rfl (fun _ _ h => h) (by decide) (by kernel_rfl) (fun _ => rfl)
                | 45, _ => exact StepOk.no _ 62 rfl rfl rfl rfl (fun _ _ h => h) (by decide) (by kernel_rfl) (fun _ => rfl)
                | 46, _ => exact StepOk.nou _ 63 rfl rfl rfl rfl (fun _ _ h => h) (by kernel_rfl) (fun _ => rfl)
                | 47, _ => exact StepOk.nou _ 64 rfl rfl rfl rfl (fun _ _ h => h) (by kernel_rfl) (fun _ => rfl)
                | 48, _ => exact StepOk.nou _ 65 rfl rfl rfl rfl (fun _ _ h => h) (by kernel_rfl) (fun _ => rfl)
                | 49, _ => exact StepOk.no _ 66 rfl rfl rfl rfl (fun _ _ h => h) (by decide) (by kernel_rfl) (fun _ => rfl)
                | 50, _ =>
                  refine StepOk.plain _ 67 rfl rfl rfl [(57, some 40), (66, some 49)] (by kernel_rfl) (fun af wf hbw hf Kf hKf => ?_)
                  obtain ⟨g57, g66, _⟩ := hf
                  have h57 : af.tmps[57]?.getD undef = .bool false := g57
                  have h66 : af.tmps[66]?.getD undef = undef := g66
                  clear g57 g66
                  go_simp
                  exact hKf _ _ (Below.refl _ _) rfl
                | 51, _ =>
                  refine StepOk.plain _ 2 rfl rfl rfl [(67, some 50)] (by kernel_rfl) (fun af wf hbw hf Kf hKf => ?_)
                  obtain ⟨g67, _⟩ := hf
                  have h67 : af.tmps[67]?.getD undef = .bool false := g67
                  clear g67
                  go_simp
                  exact hKf _ _ (Below.refl _ _) rfl
                | i + 52, h => exact absurd h (by show ¬ (i + 52 < 52); omega)
              · intro af wF hbF hdF hsF hbaseF hfactF
                obtain ⟨T, dsF⟩ := af
                obtain rfl : dsF = _ := hdF
                have e0 := hbaseF 0 (not_dst (by kernel_rfl))
                simp only [List.getElem?_toArray, List.getElem?_cons_zero, Option.getD_some] at e0
                have e1 := hbaseF 1 (not_dst (by kernel_rfl))
                simp only [List.getElem?_toArray, List.getElem?_cons_zero, List.getElem?_cons_succ, Option.getD_some] at e1
                have e3 := hbaseF 3 (not_dst (by kernel_rfl))
                simp only [List.getElem?_toArray, List.getElem?_cons_zero, List.getElem?_cons_succ, Option.getD_some] at e3
                have e4 := hbaseF 4 (not_dst (by kernel_rfl))
                simp only [List.getElem?_toArray, List.getElem?_cons_zero, List.getElem?_cons_succ, Option.getD_some] at e4
                have e5 := hbaseF 5 (not_dst (by kernel_rfl))
                simp only [List.getElem?_toArray, List.getElem?_cons_zero, List.getElem?_cons_succ, Option.getD_some] at e5
                have e6 := hbaseF 6 (not_dst (by kernel_rfl))
                simp only [List.getElem?_toArray, List.getElem?_cons_zero, List.getElem?_cons_succ, Option.getD_some] at e6
                have e7 := hbaseF 7 (not_dst (by kernel_rfl))
                simp only [List.getElem?_toArray, List.getElem?_cons_zero, List.getElem?_cons_succ, Option.getD_some] at e7
                have e8 := hbaseF 8 (not_dst (by kernel_rfl))
                simp only [List.getElem?_toArray, List.getElem?_cons_zero, List.getElem?_cons_succ, Option.getD_some] at e8
                have e9 := hbaseF 9 (not_dst (by kernel_rfl))
                simp only [List.getElem?_toArray, List.getElem?_cons_zero, List.getElem?_cons_succ, Option.getD_some] at e9
                have e10 := hbaseF 10 (not_dst (by kernel_rfl))
                simp only [List.getElem?_toArray, List.getElem?_cons_zero, List.getElem?_cons_succ, Option.getD_some] at e10
                have e11 := hbaseF 11 (not_dst (by kernel_rfl))
                simp only [List.getElem?_toArray, List.getElem?_cons_zero, List.getElem?_cons_succ, Option.getD_some] at e11
                have e12 := hbaseF 12 (not_dst (by kernel_rfl))
                simp only [List.getElem?_toArray, List.getElem?_cons_zero, List.getElem?_cons_succ, Option.getD_some] at e12
                have e13 := hbaseF 13 (not_dst (by kernel_rfl))
                simp only [List.getElem?_toArray, List.getElem?_cons_zero, List.getElem?_cons_succ, Option.getD_some] at e13
                have e14 := hbaseF 14 (not_dst (by kernel_rfl))
                simp only [List.getElem?_toArray, List.getElem?_cons_zero, List.getElem?_cons_succ, Option.getD_some] at e14
                have e15 := hbaseF 15 (not_dst (by kernel_rfl))
                simp only [List.getElem?_toArray, List.getElem?_cons_zero, List.getElem?_cons_succ, Option.getD_some] at e15
                have e16 := hbaseF 16 (not_dst (by kernel_rfl))
                simp only [List.getElem?_toArray, List.getElem?_cons_zero, List.getElem?_cons_succ, Option.getD_some] at e16
                have e2 := hfactF 51 2 (by decide) rfl
                replace e2 : T[2]?.getD undef = .bool false := e2
                clear hbaseF hfactF
                have hT : T = #[T[0]?.getD undef, T[1]?.getD undef, T[2]?.getD undef, T[3]?.getD undef, T[4]?.getD undef, T[5]?.getD undef, T[6]?.getD undef, T[7]?.getD undef, T[8]?.getD undef, T[9]?.getD undef, T[10]?.getD undef, T[11]?.getD undef, T[12]?.getD undef, T[13]?.getD undef, T[14]?.getD undef, T[15]?.getD undef, T[16]?.getD undef, T[17]?.getD undef, T[18]?.getD undef, T[19]?.getD undef, T[20]?.getD undef, T[21]?.getD undef, T[22]?.getD undef, T[23]?.getD undef, T[24]?.getD undef, T[25]?.getD undef, T[26]?.getD undef, T[27]?.getD undef, T[28]?.getD undef, T[29]?.getD undef, T[30]?.getD undef, T[31]?.getD undef, T[32]?.getD undef, T[33]?.getD undef, T[34]?.getD undef, T[35]?.getD undef, T[36]?.getD undef, T[37]?.getD undef, T[38]?.getD undef, T[39]?.getD undef, T[40]?.getD undef, T[41]?.getD undef, T[42]?.getD undef, T[43]?.getD undef, T[44]?.getD undef, T[45]?.getD undef, T[46]?.getD undef, T[47]?.getD undef, T[48]?.getD undef, T[49]?.getD undef, T[50]?.getD undef, T[51]?.getD undef, T[52]?.getD undef, T[53]?.getD undef, T[54]?.getD undef, T[55]?.getD undef, T[56]?.getD undef, T[57]?.getD undef, T[58]?.getD undef, T[59]?.getD undef, T[60]?.getD undef, T[61]?.getD undef, T[62]?.getD undef, T[63]?.getD undef, T[64]?.getD undef, T[65]?.getD undef, T[66]?.getD undef, T[67]?.getD undef] := arr_eq T 68 hsF
                clear hsF
                rw [e0] at hT; clear e0
                rw [e1] at hT; clear e1
                rw [e2] at hT; clear e2
                rw [e3] at hT; clear e3
                rw [e4] at hT; clear e4
                rw [e5] at hT; clear e5
                rw [e6] at hT; clear e6
                rw [e7] at hT; clear e7
                rw [e8] at hT; clear e8
                rw [e9] at hT; clear e9
                rw [e10] at hT; clear e10
                rw [e11] at hT; clear e11
                rw [e12] at hT; clear e12
                rw [e13] at hT; clear e13
                rw [e14] at hT; clear e14
                rw [e15] at hT; clear e15
                rw [e16] at hT; clear e16
                generalize T[17]?.getD undef = u17 at hT
                generalize T[18]?.getD undef = u18 at hT
                generalize T[19]?.getD undef = u19 at hT
                generalize T[20]?.getD undef = u20 at hT
                generalize T[21]?.getD undef = u21 at hT
                generalize T[22]?.getD undef = u22 at hT
                generalize T[23]?.getD undef = u23 at hT
                generalize T[24]?.getD undef = u24 at hT
                generalize T[25]?.getD undef = u25 at hT
                generalize T[26]?.getD undef = u26 at hT
                generalize T[27]?.getD undef = u27 at hT
                generalize T[28]?.getD undef = u28 at hT
                generalize T[29]?.getD undef = u29 at hT
                generalize T[30]?.getD undef = u30 at hT
                generalize T[31]?.getD undef = u31 at hT
                generalize T[32]?.getD undef = u32 at hT
                generalize T[33]?.getD undef = u33 at hT
                generalize T[34]?.getD undef = u34 at hT
                generalize T[35]?.getD undef = u35 at hT
                generalize T[36]?.getD undef = u36 at hT
                generalize T[37]?.getD undef = u37 at hT
                generalize T[38]?.getD undef = u38 at hT
                generalize T[39]?.getD undef = u39 at hT
                generalize T[40]?.getD undef = u40 at hT
                generalize T[41]?.getD undef = u41 at hT
                generalize T[42]?.getD undef = u42 at hT
                generalize T[43]?.getD undef = u43 at hT
                generalize T[44]?.getD undef = u44 at hT
                generalize T[45]?.getD undef = u45 at hT
                generalize T[46]?.getD undef = u46 at hT
                generalize T[47]?.getD undef = u47 at hT
                generalize T[48]?.getD undef = u48 at hT
                generalize T[49]?.getD undef = u49 at hT
                generalize T[50]?.getD undef = u50 at hT
                generalize T[51]?.getD undef = u51 at hT
                generalize T[52]?.getD undef = u52 at hT
                generalize T[53]?.getD undef = u53 at hT
                generalize T[54]?.getD undef = u54 at hT
                generalize T[55]?.getD undef = u55 at hT
                generalize T[56]?.getD undef = u56 at hT
                generalize T[57]?.getD undef = u57 at hT
                generalize T[58]?.getD undef = u58 at hT
                generalize T[59]?.getD undef = u59 at hT
                generalize T[60]?.getD undef = u60 at hT
                generalize T[61]?.getD undef = u61 at hT
                generalize T[62]?.getD undef = u62 at hT
                generalize T[63]?.getD undef = u63 at hT
                generalize T[64]?.getD undef = u64 at hT
                generalize T[65]?.getD undef = u65 at hT
                generalize T[66]?.getD undef = u66 at hT
                generalize T[67]?.getD undef = u67 at hT
                subst hT
                go_wp2_with fail
                go_ret
                exact ⟨by rw [hr.out]; rfl, (by (have q_hbF := Below.size hbF; (try simp at q_hbF); repeat (first | exact Below.refl _ _ | (refine Below.trans ?_ (Below.mono hbF (by first | omega | (simp; omega) | simp))) | (refine Below.setCell ?_ (by first | omega | (simp; omega) | simp) _) | (refine Below.alloc ?_ (by first | omega | (simp; omega) | simp) _) | apply Below.drew | apply below_drewN)))⟩
            | true =>
              have g2 := Lib.hid hg2
              rw [hg2] at hr
              clear hg2
              cases hg3 : numH f6 Q with
              | false =>
                have g3 := Lib.hid hg3
                rw [hg3] at hr
                clear hg3
                go_enter Try.func14, Try.ntmps14
                go_wp2_with fail
                refine wp_flows [(fun y_ _ => y_ = .pointer (some ⟨w.heap.size, 2, none⟩)), (fun y_ _ => y_ = .int .i64 f3), (fun y_ _ => y_ = .pointer (some ⟨w.heap.size, 0, none⟩)), (fun y_ _ => y_ = .int .i64 f1), (fun y_ _ => y_ = .bool W), (fun y_ _ => y_ = .bool true), (fun y_ _ => y_ = .bool true), (fun y_ _ => y_ = .pointer (some ⟨w.heap.size, 3, none⟩)), (fun y_ _ => y_ = .int .i64 f4), (fun y_ _ => y_ = .pointer (some ⟨w.heap.size, 0, none⟩)), (fun y_ _ => y_ = .int .i64 f1), (fun y_ _ => y_ = .bool K), (fun y_ _ => y_ = .bool true), (fun y_ _ => y_ = .bool true), (fun y_ _ => y_ = .bool true), (fun y_ _ => y_ = .pointer (some ⟨w.heap.size, 4, none⟩)), (fun y_ _ => y_ = .int .i64 f5), (fun y_ _ => y_ = .pointer (some ⟨w.heap.size, 0, none⟩)), (fun y_ _ => y_ = .int .i64 f1), (fun y_ _ => y_ = .bool N), (fun y_ _ => y_ = .bool true), (fun y_ _ => y_ = .bool true), (fun y_ _ => y_ = .bool true), (fun y_ _ => y_ = .pointer (some ⟨w.heap.size, 5, none⟩)), (fun y_ _ => y_ = .int .i64 f6), (fun y_ _ => y_ = .pointer (some ⟨w.heap.size, 0, none⟩)), (fun y_ _ => y_ = .int .i64 f1), (fun y_ _ => y_ = .bool Q), (fun y_ _ => y_ = .bool false), (fun y_ _ => y_ = .bool false), (fun y_ _ => y_ = .bool false), (fun y_ _ => y_ = undef), (fun y_ _ => y_ = undef), (fun y_ _ => y_ = undef), (fun y_ _ => y_ = undef), (fun y_ _ => y_ = undef), (fun y_ _ => y_ = undef), (fun y_ _ => y_ = undef), (fun y_ _ => y_ = undef), (fun y_ _ => y_ = .bool false), (fun y_ _ => y_ = .bool false), (fun y_ _ => y_ = undef), (fun y_ _ => y_ = undef), (fun y_ _ => y_ = undef), (fun y_ _ => y_ = undef), (fun y_ _ => y_ = undef), (fun y_ _ => y_ = undef), (fun y_ _ => y_ = undef), (fun y_ _ => y_ = undef), (fun y_ _ => y_ = undef), (fun y_ _ => y_ = .bool false), (fun y_ _ => y_ = .bool false)] (by kernel_rfl) ⟨Stab.eq _, Stab.eq _, Stab.eq _, Stab.eq _, Stab.eq _, Stab.eq _, Stab.eq _, Stab.eq _, Stab.eq _, Stab.eq _, Stab.eq _, Stab.eq _, Stab.eq _, Stab.eq _, Stab.eq _, Stab.eq _, Stab.eq _, Stab.eq _, Stab.eq _, Stab.eq _, Stab.eq _, Stab.eq _, Stab.eq _, Stab.eq _, Stab.eq _, Stab.eq _, Stab.eq _, Stab.eq _, Stab.eq _, Stab.eq _, Stab.eq _, Stab.eq _, Stab.eq _, Stab.eq _, Stab.eq _, Stab.eq _, Stab.eq _, Stab.eq _, Stab.eq _, Stab.eq _, Stab.eq _, Stab.eq _, Stab.eq _, Stab.eq _, Stab.eq _, Stab.eq _, Stab.eq _, Stab.eq _, Stab.eq _, Stab.eq _, Stab.eq _, Stab.eq _, trivial⟩ (by kernel_rfl) (by rfl) ?_ ?_
                · intro kq hkq
                  match kq, hkq with
                  | 0, _ =>
                    refine StepOk.plain _ 17 rfl rfl rfl [(1, none)] (by kernel_rfl) (fun af wf hbw hf Kf hKf => ?_)
                    obtain ⟨g1, _⟩ := hf
                    have h1 : af.tmps[1]?.getD undef = .pointer (some ⟨w.heap.size, 0, none⟩) := g1
                    clear g1
                    go_simp
                    exact hKf _ _ (Below.refl _ _) rfl
                  | 1, _ =>
                    refine StepOk.plain _ 18 rfl rfl rfl [(17, some 0)] (by kernel_rfl) (fun af wf hbw hf Kf hKf => ?_)
                    obtain ⟨g17, _⟩ := hf
                    have h17 : af.tmps[17]?.getD undef = .pointer (some ⟨w.heap.size, 2, none⟩) := g17
                    clear g17
                    have cB0 := (Blk.on (Blk.drew (P0)) hbw).cell
                    go_simp
                    exact hKf _ _ (Below.refl _ _) rfl
                  | 2, _ =>
                    refine StepOk.plain _ 19 rfl rfl rfl [(1, none)] (by kernel_rfl) (fun af wf hbw hf Kf hKf => ?_)
                    obtain ⟨g1, _⟩ := hf
                    have h1 : af.tmps[1]?.getD undef = .pointer (some ⟨w.heap.size, 0, none⟩) := g1
                    clear g1
                    go_simp
                    exact hKf _ _ (Below.refl _ _) rfl
                  | 3, _ =>
                    refine StepOk.plain _ 20 rfl rfl rfl [(19, some 2)] (by kernel_rfl) (fun af wf hbw hf Kf hKf => ?_)
                    obtain ⟨g19, _⟩ := hf
                    have h19 : af.tmps[19]?.getD undef = .pointer (some ⟨w.heap.size, 0, none⟩) := g19
                    clear g19
                    have cB0 := (Blk.on (Blk.drew (P0)) hbw).cell
                    go_simp
                    exact hKf _ _ (Below.refl _ _) rfl
                  | 4, _ =>
                    refine StepOk.plain _ 21 rfl rfl rfl [(20, some 3)] (by kernel_rfl) (fun af wf hbw hf Kf hKf => ?_)
                    obtain ⟨g20, _⟩ := hf
                    have h20 : af.tmps[20]?.getD undef = .int .i64 f1 := g20
                    clear g20
                    go_simp
                    refine (has_any f1 119 c0 c1 _).mono ?_
                    rintro e wN ⟨rfl, rfl⟩
                    exact hKf _ _ (Below.refl _ _) (congrArg Value.bool HF.out.1)
                  | 5, _ =>
                    refine StepOk.plain _ 22 rfl rfl rfl [(18, some 1), (21, some 4)] (by kernel_rfl) (fun af wf hbw hf Kf hKf => ?_)
                    obtain ⟨g18, g21, _⟩ := hf
                    have h18 : af.tmps[18]?.getD undef = .int .i64 f3 := g18
                    have h21 : af.tmps[21]?.getD undef = .bool W := g21
                    clear g18 g21
                    go_simp
                    refine (rnum_any f3 W _).mono ?_
                    rintro e wN ⟨rfl, rfl⟩
                    exact hKf _ _ (Below.refl _ _) (congrArg Value.bool g0.out)
                  | 6, _ =>
                    refine StepOk.plain _ 23 rfl rfl rfl [(22, some 5)] (by kernel_rfl) (fun af wf hbw hf Kf hKf => ?_)
                    obtain ⟨g22, _⟩ := hf
                    have h22 : af.tmps[22]?.getD undef = .bool true := g22
                    clear g22
                    go_simp
                    exact hKf _ _ (Below.refl _ _) rfl
                  | 7, _ =>
                    refine StepOk.yes _ 24 rfl rfl rfl rfl (fun _ _ h => h) [(1, none)] (by kernel_rfl) (fun af wf hbw hf Kf hKf => ?_)
                    obtain ⟨g1, _⟩ := hf
                    have h1 : af.tmps[1]?.getD undef = .pointer (some ⟨w.heap.size, 0, none⟩) := g1
                    clear g1
                    go_simp
                    exact hKf _ _ (Below.refl _ _) rfl
                  | 8, _ =>
                    refine StepOk.yes _ 25 rfl rfl rfl rfl (fun _ _ h => h) [(24, some 7)] (by kernel_rfl) (fun af wf hbw hf Kf hKf => ?_)
                    obtain ⟨g24, _⟩ := hf
                    have h24 : af.tmps[24]?.getD undef = .pointer (some ⟨w.heap.size, 3, none⟩) := g24
                    clear g24
                    have cB0 := (Blk.on (Blk.drew (P0)) hbw).cell
                    go_simp
                    exact hKf _ _ (Below.refl _ _) rfl
                  | 9, _ =>
                    refine StepOk.yes _ 26 rfl rfl rfl rfl (fun _ _ h => h) [(1, none)] (by kernel_rfl) (fun af wf hbw hf Kf hKf => ?_)
                    obtain ⟨g1, _⟩ := hf
                    have h1 : af.tmps[1]?.getD undef = .pointer (some ⟨w.heap.size, 0, none⟩) := g1
                    clear g1
                    go_simp
                    exact hKf _ _ (Below.refl _ _) rfl
                  | 10, _ =>
                    refine StepOk.yes _ 27 rfl rfl rfl rfl (fun _ _ h => h) [(26, some 9)] (by kernel_rfl) (fun af wf hbw hf Kf hKf => ?_)
                    obtain ⟨g26, _⟩ := hf
                    have h26 : af.tmps[26]?.getD undef = .pointer (some ⟨w.heap.size, 0, none⟩) := g26
                    clear g26
                    have cB0 := (Blk.on (Blk.drew (P0)) hbw).cell
                    go_simp
                    exact hKf _ _ (Below.refl _ _) rfl
                  | 11, _ =>
                    refine StepOk.yes _ 28 rfl rfl rfl rfl (fun _ _ h => h) [(27, some 10)] (by kernel_rfl) (fun af wf hbw hf Kf hKf => ?_)
                    obtain ⟨g27, _⟩ := hf
                    have h27 : af.tmps[27]?.getD undef = .int .i64 f1 := g27
                    clear g27
                    go_simp
                    refine (has_any f1 107 c0 c1 _).mono ?_
                    rintro e wN ⟨rfl, rfl⟩
                    exact hKf _ _ (Below.refl _ _) (congrArg Value.bool HF.out.2.1)
                  | 12, _ =>
                    refine StepOk.yes _ 29 rfl rfl rfl rfl (fun _ _ h => h) [(25, some 8), (28, some 11)] (by kernel_rfl) (fun af wf hbw hf Kf hKf => ?_)
                    obtain ⟨g25, g28, _⟩ := hf
                    have h25 : af.tmps[25]?.getD undef = .int .i64 f4 := g25
                    have h28 : af.tmps[28]?.getD undef = .bool K := g28
                    clear g25 g28
                    go_simp
                    refine (rnum_any f4 K _).mono ?_
                    rintro e wN ⟨rfl, rfl⟩
                    exact hKf _ _ (Below.refl _ _) (congrArg Value.bool g1.out)
                  | 13, _ =>
                    refine StepOk.plain _ 30 rfl rfl rfl [(23, some 6), (29, some 12)] (by kernel_rfl) (fun af wf hbw hf Kf hKf => ?_)
                    obtain ⟨g23, g29, _⟩ := hf
                    have h23 : af.tmps[23]?.getD undef = .bool true := g23
                    have h29 : af.tmps[29]?.getD undef = .bool true := g29
                    clear g23 g29
                    go_simp
                    exact hKf _ _ (Below.refl _ _) rfl
                  | 14, _ =>
                    refine StepOk.plain _ 31 rfl rfl rfl [(30, some 13)] (by kernel_rfl) (fun af wf hbw hf Kf hKf => ?_)
                    obtain ⟨g30, _⟩ := hf
                    have h30 : af.tmps[30]?.getD undef = .bool true := g30
                    clear g30
                    go_simp
                    exact hKf _ _ (Below.refl _ _) rfl
                  | 15, _ =>
                    refine StepOk.yes _ 32 rfl rfl rfl rfl (fun _ _ h => h) [(1, none)] (by kernel_rfl) (fun af wf hbw hf Kf hKf => ?_)
                    obtain ⟨g1, _⟩ := hf
                    have h1 : af.tmps[1]?.getD undef = .pointer (some ⟨w.heap.size, 0, none⟩) := g1
                    clear g1
                    go_simp
                    exact hKf _ _ (Below.refl _ _) rfl
                  | 16, _ =>
                    refine StepOk.yes _ 33 rfl rfl rfl rfl (fun _ _ h => h) [(32, some 15)] (by kernel_rfl) (fun af wf hbw hf Kf hKf => ?_)
                    obtain ⟨g32, _⟩ := hf
                    have h32 : af.tmps[32]?.getD undef = .pointer (some ⟨w.heap.size, 4, none⟩) := g32
                    clear g32
                    have cB0 := (Blk.on (Blk.drew (P0)) hbw).cell
                    go_simp
                    exact hKf _ _ (Below.refl _ _) rfl
                  | 17, _ =>
                    refine StepOk.yes _ 34 rfl rfl rfl rfl (fun _ _ h => h) [(1, none)] (by kernel_rfl) (fun af wf hbw hf Kf hKf => ?_)
                    obtain ⟨g1, _⟩ := hf
                    have h1 : af.tmps[1]?.getD undef = .pointer (some ⟨w.heap.size, 0, none⟩) := g1
                    clear g1
                    go_simp
                    exact hKf _ _ (Below.refl _ _) rfl
                  | 18, _ =>
                    refine StepOk.yes _ 35 rfl rfl rfl rfl (fun _ _ h => h) [(34, some 17)] (by kernel_rfl) (fun af wf hbw hf Kf hKf => ?_)
                    obtain ⟨g34, _⟩ := hf
                    have h34 : af.tmps[34]?.getD undef = .pointer (some ⟨w.heap.size, 0, none⟩) := g34
                    clear g34
                    have cB0 := (Blk.on (Blk.drew (P0)) hbw).cell
                    go_simp
                    exact hKf _ _ (Below.refl _ _) rfl
                  | 19, _ =>
                    refine StepOk.yes _ 36 rfl rfl rfl rfl (fun _ _ h => h) [(35, some 18)] (by kernel_rfl) (fun af wf hbw hf Kf hKf => ?_)
                    obtain ⟨g35, _⟩ := hf
                    have h35 : af.tmps[35]?.getD undef = .int .i64 f1 := g35
                    clear g35
                    go_simp
                    refine (has_any f1 110 c0 c1 _).mono ?_
                    rintro e wN ⟨rfl, rfl⟩
                    exact hKf _ _ (Below.refl _ _) (congrArg Value.bool HF.out.2.2.1)
                  | 20, _ =>
                    refine StepOk.yes _ 37 rfl rfl rfl rfl (fun _ _ h => h) [(33, some 16), (36, some 19)] (by kernel_rfl) (fun af wf hbw hf Kf hKf => ?_)
                    obtain ⟨g33, g36, _⟩ := hf
                    have h33 : af.tmps[33]?.getD undef = .int .i64 f5 := g33
                    have h36 : af.tmps[36]?.getD undef = .bool N := g36
                    clear g33 g36
                    go_simp
                    refine (rnum_any f5 N _).mono ?_
                    rintro e wN ⟨rfl, rfl⟩
                    exact hKf _ _ (Below.refl _ _) (congrArg Value.bool g2.out)
                  | 21, _ =>
                    refine StepOk.plain _ 38 rfl rfl rfl [(31, some 14), (37, some 20)] (by kernel_rfl) (fun af wf hbw hf Kf hKf => ?_)
                    obtain ⟨g31, g37, _⟩ := hf
                    have h31 : af.tmps[31]?.getD undef = .bool true := g31
                    have h37 : af.tmps[37]?.getD undef = .bool true := g37
                    clear g31 g37
                    go_simp
                    exact hKf _ _ (Below.refl _ _) rfl
                  | 22, _ =>
                    refine StepOk.plain _ 39 rfl rfl rfl [(38, some 21)] (by kernel_rfl) (fun af wf hbw hf Kf hKf => ?_)
                    obtain ⟨g38, _⟩ := hf
                    have h38 : af.tmps[38]?.getD undef = .bool true := g38
                    clear g38
                    go_simp
                    exact hKf _ _ (Below.refl _ _) rfl
                  | 23, _ =>
                    refine StepOk.yes _ 40 rfl rfl rfl rfl (fun _ _ h => h) [(1, none)] (by kernel_rfl) (fun af wf hbw hf Kf hKf => ?_)
                    obtain ⟨g1, _⟩ := hf
                    have h1 : af.tmps[1]?.getD undef = .pointer (some ⟨w.heap.size, 0, none⟩) := g1
                    clear g1
                    go_simp
                    exact hKf _ _ (Below.refl _ _) rfl
                  | 24, _ =>
                    refine StepOk.yes _ 41 rfl rfl rfl rfl (fun _ _ h => h) [(40, some 23)] (by kernel_rfl) (fun af wf hbw hf Kf hKf => ?_)
                    obtain ⟨g40, _⟩ := hf
                    have h40 : af.tmps[40]?.getD undef = .pointer (some ⟨w.heap.size, 5, none⟩) := g40
                    clear g40
                    have cB0 := (Blk.on (Blk.drew (P0)) hbw).cell
                    go_simp
                    exact hKf _ _ (Below.refl _ _) rfl
                  | 25, _ =>
                    refine StepOk.yes _ 42 rfl rfl rfl rfl (fun _ _ h => h) [(1, none)] (by kernel_rfl) (fun af wf hbw hf Kf hKf => ?_)
                    obtain ⟨g1, _⟩ := hf
                    have h1 : af.tmps[1]?.getD undef = .pointer (some ⟨w.heap.size, 0, none⟩) := g1
                    clear g1
                    go_simp
                    exact hKf _ _ (Below.refl _ _) rfl
                  | 26, _ =>
                    refine StepOk.yes _ 43 rfl rfl rfl rfl (fun _ _ h => h) [(42, some 25)] (by kernel_rfl) (fun af wf hbw hf Kf hKf => ?_)
                    obtain ⟨g42, _⟩ := hf
                    have h42 : af.tmps[42]?.getD undef = .pointer (some ⟨w.heap.size, 0, none⟩) := g42
                    clear g42
                    have cB0 := (Blk.on (Blk.drew (P0)) hbw).cell
                    go_simp
                    exact hKf _ _ (Below.refl _ _) rfl
                  | 27, _ =>
                    refine StepOk.yes _ 44 rfl rfl rfl rfl (fun _ _ h => h) [(43, some 26)] (by kernel_rfl) (fun af wf hbw hf Kf hKf => ?_)
                    obtain ⟨g43, _⟩ := hf
                    have h43 : af.tmps[43]?.getD undef = .int .i64 f1 := g43
                    clear g43
                    go_simp
                    refine (has_any f1 97 c0 c1 _).mono ?_
                    rintro e wN ⟨rfl, rfl⟩
                    exact hKf _ _ (Below.refl _ _) (congrArg Value.bool HF.out.2.2.2.1)
                  | 28, _ =>
                    refine StepOk.yes _ 45 rfl rfl rfl rfl (fun _ _ h => h) [(41, some 24), (44, some 27)] (by kernel_rfl) (fun af wf hbw hf Kf hKf => ?_)
                    obtain ⟨g41, g44, _⟩ := hf
                    have h41 : af.tmps[41]?.getD undef = .int .i64 f6 := g41
                    have h44 : af.tmps[44]?.getD undef = .bool Q := g44
                    clear g41 g44
                    go_simp
                    refine (rnum_any f6 Q _).mono ?_
                    rintro e wN ⟨rfl, rfl⟩
                    exact hKf _ _ (Below.refl _ _) (congrArg Value.bool g3.out)
                  | 29, _ =>
                    refine StepOk.plain _ 46 rfl rfl rfl [(39, some 22), (45, some 28)] (by kernel_rfl) (fun af wf hbw hf Kf hKf => ?_)
                    obtain ⟨g39, g45, _⟩ := hf
                    have h39 : af.tmps[39]?.getD undef = .bool true := g39
                    have h45 : af.tmps[45]?.getD undef = .bool false := g45
                    clear g39 g45
                    go_simp
                    exact hKf _ _ (Below.refl _ _) rfl
                  | 30, _ =>
                    refine StepOk.plain _ 47 rfl rfl rfl [(46, some 29)] (by kernel_rfl) (fun af wf hbw hf Kf hKf => ?_)
                    obtain ⟨g46, _⟩ := hf
                    have h46 : af.tmps[46]?.getD undef = .bool false := g46
                    clear g46
                    go_simp
                    exact hKf _ _ (Below.refl _ _) rfl
                  | 31, _ => exact StepOk.no _ 48 rfl rfl rfl rfl (fun _ _ h => h) (by decide) (by kernel_rfl) (fun _ => rfl)
                  | 32, _ => exact StepOk.no _ 49 rfl rfl rfl rfl (fun _ _ h => h) (by decide) (by kernel_rfl) (fun _ => rfl)
                  | 33, _ => exact StepOk.no _ 50 rfl rfl rfl rfl (fun _ _ h => h) (by decide) (by kernel_rfl) (fun _ => rfl)
                  | 34, _ => exact StepOk.no _ 51 rfl rfl rfl rfl (fun _ _ h => h) (by decide) (by kernel_rfl) (fun _ => rfl)
                  | 35, _ => exact StepOk.nou _ 52 rfl rfl rfl rfl (fun _ _ h => h) (by kernel_rfl) (fun _ => rfl)
                  | 36, _ => exact StepOk.nou _ 53 rfl rfl rfl rfl (fun _ _ h => h) (by kernel_rfl) (fun _ => rfl)
                  | 37, _ => exact StepOk.nou _ 54 rfl rfl rfl rfl (fun _ _ h => h) (by kernel_rfl) (fun _ => rfl)
                  | 38, _ => exact StepOk.no _ 55 rfl rfl rfl rfl (fun _ _ h => h) (by decide) (by kernel_rfl) (fun _ => rfl)
                  | 39, _ =>
                    refine StepOk.plain _ 56 rfl rfl rfl [(47, some 30), (55, some 38)] (by kernel_rfl) (fun af wf hbw hf Kf hKf => ?_)
                    obtain ⟨g47, g55, _⟩ := hf
                    have h47 : af.tmps[47]?.getD undef = .bool false := g47
                    have h55 : af.tmps[55]?.getD undef = undef := g55
                    clear g47 g55
                    go_simp
                    exact hKf _ _ (Below.refl _ _) rfl
                  | 40, _ =>
                    refine StepOk.plain _ 57 rfl rfl rfl [(56, some 39)] (by kernel_rfl) (fun af wf hbw hf Kf hKf => ?_)
                    obtain ⟨g56, _⟩ := hf
                    have h56 : af.tmps[56]?.getD undef = .bool false := g56
                    clear g56
                    go_simp
                    exact hKf _ _ (Below.refl _ _) rfl
                  | 41, _ => exact StepOk.no _ 58 rfl rfl rfl rfl (fun _ _ h => h) (by decide) (by kernel_rfl) (fun _ => rfl)
                  | 42, _ => exact StepOk.no _ 59 rfl rfl rfl rfl (fun _ _ h => h) (by decide) (by kernel_rfl) (fun _ => rfl)
                  | 43, _ => exact StepOk.no _ 60 rfl rfl rfl rfl (fun _ _ h => h) (by decide) (by kernel_rfl) (fun _ => rfl)
                  | 44, _ => exact StepOk.no _ 61 rfl rfl rfl rfl (fun _ _ h => h) (by decide) (by kernel_rfl) (fun _ => rfl)
                  | 45, _ => exact StepOk.no _ 62 rfl rfl rfl rfl (fun _ _ h => h) (by decide) (by kernel_rfl) (fun _ => rfl)
                  | 46, _ => exact StepOk.nou _ 63 rfl rfl rfl rfl (fun _ _ h => h) (by kernel_rfl) (fun _ => rfl)
                  | 47, _ => exact StepOk.nou _ 64 rfl rfl rfl rfl (fun _ _ h => h) (by kernel_rfl) (fun _ => rfl)
                  | 48, _ => exact StepOk.nou _ 65 rfl rfl rfl rfl (fun _ _ h => h) (by kernel_rfl) (fun _ => rfl)
                  | 49, _ => exact StepOk.no _ 66 rfl rfl rfl rfl (fun _ _ h => h) (by decide) (by kernel_rfl) (fun _ => rfl)
                  | 50, _ =>
                    refine StepOk.plain _ 67 rfl rfl rfl [(57, some 40), (66, some 49)] (by kernel_rfl) (fun af wf hbw hf Kf hKf => ?_)
                    obtain ⟨g57, g66, _⟩ := hf
                    have h57 : af.tmps[57]?.getD undef = .bool false := g57
                    have h66 : af.tmps[66]?.getD undef = undef := g66
                    clear g57 g66
                    go_simp
                    exact hKf _ _ (Below.refl _ _) rfl
                  | 51, _ =>
                    refine StepOk.plain _ 2 rfl rfl rfl [(67, some 50)] (by kernel_rfl) (fun af wf hbw hf Kf hKf => ?_)
                    obtain ⟨g67, _⟩ := hf
                    have h67 : af.tmps[67]?.getD undef = .bool false := g67
                    clear g67
                    go_simp
                    exact hKf _ _ (Below.refl _ _) rfl
                  | i + 52, h => exact absurd h (by show ¬ (i + 52 < 52); omega)
                · intro af wF hbF hdF hsF hbaseF hfactF
                  obtain ⟨T, dsF⟩ := af
                  obtain rfl : dsF = _ := hdF
                  have e0 := hbaseF 0 (not_dst (by kernel_rfl))
                  simp only [List.getElem?_toArray, List.getElem?_cons_zero, Option.getD_some] at e0
                  have e1 := hbaseF 1 (not_dst (by kernel_rfl))
                  simp only [List.getElem?_toArray, List.getElem?_cons_zero, List.getElem?_cons_succ, Option.getD_some] at e1
                  have e3 := hbaseF 3 (not_dst (by kernel_rfl))
                  simp only [List.getElem?_toArray, List.getElem?_cons_zero, List.getElem?_cons_succ, Option.getD_some] at e3
                  have e4 := hbaseF 4 (not_dst (by kernel_rfl))
                  simp only [List.getElem?_toArray, List.getElem?_cons_zero, List.getElem?_cons_succ, Option.getD_some] at e4
                  have e5 := hbaseF 5 (not_dst (by kernel_rfl))
                  simp only [List.getElem?_toArray, List.getElem?_cons_zero, List.getElem?_cons_succ, Option.getD_some] at e5
                  have e6 := hbaseF 6 (not_dst (by kernel_rfl))
                  simp only [List.getElem?_toArray, List.getElem?_cons_zero, List.getElem?_cons_succ, Option.getD_some] at e6
                  have e7 := hbaseF 7 (not_dst (by kernel_rfl))
                  simp only [List.getElem?_toArray, List.getElem?_cons_zero, List.getElem?_cons_succ, Option.getD_some] at e7
                  have e8 := hbaseF 8 (not_dst (by kernel_rfl))
                  simp only [List.getElem?_toArray, List.getElem?_cons_zero, List.getElem?_cons_succ, Option.getD_some] at e8
                  have e9 := hbaseF 9 (not_dst (by kernel_rfl))
                  simp only [List.getElem?_toArray, List.getElem?_cons_zero, List.getElem?_cons_succ, Option.getD_some] at e9
                  have e10 := hbaseF 10 (not_dst (by kernel_rfl))
                  simp only [List.getElem?_toArray, List.getElem?_cons_zero, List.getElem?_cons_succ, Option.getD_some] at e10
                  have e11 := hbaseF 11 (not_dst (by kernel_rfl))
                  simp only [List.getElem?_toArray, List.getElem?_cons_zero, List.getElem?_cons_succ, Option.getD_some] at e11
                  have e12 := hbaseF 12 (not_dst (by kernel_rfl))
                  simp only [List.getElem?_toArray, List.getElem?_cons_zero, List.getElem?_cons_succ, Option.getD_some] at e12
                  have e13 := hbaseF 13 (not_dst (by kernel_rfl))
                  simp only [List.getElem?_toArray, List.getElem?_cons_zero, List.getElem?_cons_succ, Option.getD_some] at e13
                  have e14 := hbaseF 14 (not_dst (by kernel_rfl))
                  simp only [List.getElem?_toArray, List.getElem?_cons_zero, List.getElem?_cons_succ, Option.getD_some] at e14
                  have e15 := hbaseF 15 (not_dst (by kernel_rfl))
                  simp only [List.getElem?_toArray, List.getElem?_cons_zero, List.getElem?_cons_succ, Option.getD_some] at e15
                  have e16 := hbaseF 16 (not_dst (by kernel_rfl))
                  simp only [List.getElem?_toArray, List.getElem?_cons_zero, List.getElem?_cons_succ, Option.getD_some] at e16
                  have e2 := hfactF 51 2 (by decide) rfl
                  replace e2 : T[2]?.getD undef = .bool false := e2
                  clear hbaseF hfactF
                  have hT : T = #[T[0]?.getD undef, T[1]?.getD undef, T[2]?.getD undef, T[3]?.getD undef, T[4]?.getD undef, T[5]?.getD undef, T[6]?.getD undef, T[7]?.getD undef, T[8]?.getD undef, T[9]?.getD undef, T[10]?.getD undef, T[11]?.getD undef, T[12]?.getD undef, T[13]?.getD undef, T[14]?.getD undef, T[15]?.getD undef, T[16]?.getD undef, T[17]?.getD undef, T[18]?.getD undef, T[19]?.getD undef, T[20]?.getD undef, T[21]?.getD undef, T[22]?.getD undef, T[23]?.getD undef, T[24]?.getD undef, T[25]?.getD undef, T[26]?.getD undef, T[27]?.getD undef, T[28]?.getD undef, T[29]?.getD undef, T[30]?.getD undef, T[31]?.getD undef, T[32]?.getD undef, T[33]?.getD undef, T[34]?.getD undef, T[35]?.getD undef, T[36]?.getD undef, T[37]?.getD undef, T[38]?.getD undef, T[39]?.getD undef, T[40]?.getD undef, T[41]?.getD undef, T[42]?.getD undef, T[43]?.getD undef, T[44]?.getD undef, T[45]?.getD undef, T[46]?.getD undef, T[47]?.getD undef, T[48]?.getD undef, T[49]?.getD undef, T[50]?.getD undef, T[51]?.getD undef, T[52]?.getD undef, T[53]?.getD undef, T[54]?.getD undef, T[55]?.getD undef, T[56]?.getD undef, T[57]?.getD undef, T[58]?.getD undef, T[59]?.getD undef, T[60]?.getD undef, T[61]?.getD undef, T[62]?.getD undef, T[63]?.getD undef, T[64]?.getD undef, T[65]?.getD undef, T[66]?.getD undef, T[67]?.getD undef] := arr_eq T 68 hsF
                  clear hsF
                  rw [e0] at hT; clear e0
                  rw [e1] at hT; clear e1
                  rw [e2] at hT; clear e2
                  rw [e3] at hT; clear e3
                  rw [e4] at hT; clear e4
                  rw [e5] at hT; clear e5
                  rw [e6] at hT; clear e6
                  rw [e7] at hT; clear e7
                  rw [e8] at hT; clear e8
                  rw [e9] at hT; clear e9
                  rw [e10] at hT; clear e10
                  rw [e11] at hT; clear e11
                  rw [e12] at hT; clear e12
                  rw [e13] at hT; clear e13
                  rw [e14] at hT; clear e14
                  rw [e15] at hT; clear e15
                  rw [e16] at hT; clear e16
                  generalize T[17]?.getD undef = u17 at hT
                  generalize T[18]?.getD undef = u18 at hT
                  generalize T[19]?.getD undef = u19 at hT
                  generalize T[20]?.getD undef = u20 at hT
                  generalize T[21]?.getD undef = u21 at hT
                  generalize T[22]?.getD undef = u22 at hT
                  generalize T[23]?.getD undef = u23 at hT
                  generalize T[24]?.getD undef = u24 at hT
                  generalize T[25]?.getD undef = u25 at hT
                  generalize T[26]?.getD undef = u26 at hT
                  generalize T[27]?.getD undef = u27 at hT
                  generalize T[28]?.getD undef = u28 at hT
                  generalize T[29]?.getD undef = u29 at hT
                  generalize T[30]?.getD undef = u30 at hT
                  generalize T[31]?.getD undef = u31 at hT
                  generalize T[32]?.getD undef = u32 at hT
                  generalize T[33]?.getD undef = u33 at hT
                  generalize T[34]?.getD undef = u34 at hT
                  generalize T[35]?.getD undef = u35 at hT
                  generalize T[36]?.getD undef = u36 at hT
                  generalize T[37]?.getD undef = u37 at hT
                  generalize T[38]?.getD undef = u38 at hT
                  generalize T[39]?.getD undef = u39 at hT
                  generalize T[40]?.getD undef = u40 at hT
                  generalize T[41]?.getD undef = u41 at hT
                  generalize T[42]?.getD undef = u42 at hT
                  generalize T[43]?.getD undef = u43 at hT
                  generalize T[44]?.getD undef = u44 at hT
                  generalize T[45]?.getD undef = u45 at hT
                  generalize T[46]?.getD undef = u46 at hT
                  generalize T[47]?.getD undef = u47 at hT
                  generalize T[48]?.getD undef = u48 at hT
                  generalize T[49]?.getD undef = u49 at hT
                  generalize T[50]?.getD undef = u50 at hT
                  generalize T[51]?.getD undef = u51 at hT
                  generalize T[52]?.getD undef = u52 at hT
                  generalize T[53]?.getD undef = u53 at hT
                  generalize T[54]?.getD undef = u54 at hT
                  generalize T[55]?.getD undef = u55 at hT
                  generalize T[56]?.getD undef = u56 at hT
                  generalize T[57]?.getD undef = u57 at hT
                  generalize T[58]?.getD undef = u58 at hT
                  generalize T[59]?.getD undef = u59 at hT
                  generalize T[60]?.getD undef = u60 at hT
                  generalize T[61]?.getD undef = u61 at hT
                  generalize T[62]?.getD undef = u62 at hT
                  generalize T[63]?.getD undef = u63 at hT
                  generalize T[64]?.getD undef = u64 at hT
                  generalize T[65]?.getD undef = u65 at hT
                  generalize T[66]?.getD undef = u66 at hT
                  generalize T[67]?.getD undef = u67 at hT
                  subst hT
                  go_wp2_with fail
                  go_ret
                  exact ⟨by rw [hr.out]; rfl, (by (have q_hbF := Below.size hbF; (try simp at q_hbF); repeat (first | exact Below.refl _ _ | (refine Below.trans ?_ (Below.mono hbF (by first | omega | (simp; omega) | simp))) | (refine Below.setCell ?_ (by first | omega | (simp; omega) | simp) _) | (refine Below.alloc ?_ (by first | omega | (simp; omega) | simp) _) | apply Below.drew | apply below_drewN)))⟩
              | true =>
                have g3 := Lib.hid hg3
                rw [hg3] at hr
                clear hg3
                cases f2 with
                | false =>
                  by_cases hn0 : n = 0
                  · subst hn0
                    have hq0 : ((0 : Int) == 0) = true := rfl
                    go_enter Try.func14, Try.ntmps14
                    go_wp2_with fail
                    refine wp_flows [(fun y_ _ => y_ = .pointer (some ⟨w.heap.size, 2, none⟩)), (fun y_ _ => y_ = .int .i64 f3), (fun y_ _ => y_ = .pointer (some ⟨w.heap.size, 0, none⟩)), (fun y_ _ => y_ = .int .i64 f1), (fun y_ _ => y_ = .bool W), (fun y_ _ => y_ = .bool true), (fun y_ _ => y_ = .bool true), (fun y_ _ => y_ = .pointer (some ⟨w.heap.size, 3, none⟩)), (fun y_ _ => y_ = .int .i64 f4), (fun y_ _ => y_ = .pointer (some ⟨w.heap.size, 0, none⟩)), (fun y_ _ => y_ = .int .i64 f1), (fun y_ _ => y_ = .bool K), (fun y_ _ => y_ = .bool true), (fun y_ _ => y_ = .bool true), (fun y_ _ => y_ = .bool true), (fun y_ _ => y_ = .pointer (some ⟨w.heap.size, 4, none⟩)), (fun y_ _ => y_ = .int .i64 f5), (fun y_ _ => y_ = .pointer (some ⟨w.heap.size, 0, none⟩)), (fun y_ _ => y_ = .int .i64 f1), (fun y_ _ => y_ = .bool N), (fun y_ _ => y_ = .bool true), (fun y_ _ => y_ = .bool true), (fun y_ _ => y_ = .bool true), (fun y_ _ => y_ = .pointer (some ⟨w.heap.size, 5, none⟩)), (fun y_ _ => y_ = .int .i64 f6), (fun y_ _ => y_ = .pointer (some ⟨w.heap.size, 0, none⟩)), (fun y_ _ => y_ = .int .i64 f1), (fun y_ _ => y_ = .bool Q), (fun y_ _ => y_ = .bool true), (fun y_ _ => y_ = .bool true), (fun y_ _ => y_ = .bool true), (fun y_ _ => y_ = .pointer (some ⟨w.heap.size, 1, none⟩)), (fun y_ _ => y_ = .bool false), (fun y_ _ => y_ = .bool true), (fun y_ _ => y_ = .bool true), (fun y_ _ => y_ = undef), (fun y_ _ => y_ = undef), (fun y_ _ => y_ = undef), (fun y_ _ => y_ = .bool true), (fun y_ _ => y_ = .bool true), (fun y_ _ => y_ = .bool true), (fun y_ _ => y_ = .pointer (some ⟨w.heap.size, 6, none⟩)), (fun y_ _ => y_ = .slice A 0 c), (fun y_ _ => y_ = .int .i64 0), (fun y_ _ => y_ = .bool true), (fun y_ _ => y_ = .bool true), (fun y_ _ => y_ = undef), (fun y_ _ => y_ = undef), (fun y_ _ => y_ = undef), (fun y_ _ => y_ = .bool true), (fun y_ _ => y_ = .bool true), (fun y_ _ => y_ = .bool true)] (by kernel_rfl) ⟨Stab.eq _, Stab.eq _, Stab.eq _, Stab.eq _, Stab.eq _, Stab.eq _, Stab.eq _, Stab.eq _, Stab.eq _, Stab.eq _, Stab.eq _, Stab.eq _, Stab.eq _, Stab.eq _, Stab.eq _, Stab.eq _, Stab.eq _, Stab.eq _, Stab.eq _, Stab.eq _, Stab.eq _, Stab.eq _, Stab.eq _, Stab.eq _, Stab.eq _, Stab.eq _, Stab.eq _, Stab.eq _, Stab.eq _, Stab.eq _, Stab.eq _, Stab.eq _, Stab.eq _, Stab.eq _, Stab.eq _, Stab.eq _, Stab.eq _, Stab.eq _, Stab.eq _, Stab.eq _, Stab.eq _, Stab.eq _, Stab.eq _, Stab.eq _, Stab.eq _, Stab.eq _, Stab.eq _, Stab.eq _, Stab.eq _, Stab.eq _, Stab.eq _, Stab.eq _, trivial⟩ (by kernel_rfl) (by rfl) ?_ ?_
                    · intro kq hkq
                      match kq, hkq with
                      | 0, _ =>
                        refine StepOk.plain _ 17 rfl rfl rfl [(1, none)] (by kernel_rfl) (fun af wf hbw hf Kf hKf => ?_)
                        obtain ⟨g1, _⟩ := hf
                        have h1 : af.tmps[1]?.getD undef = .pointer (some ⟨w.heap.size, 0, none⟩) := g1
                        clear g1
                        go_simp
                        exact hKf _ _ (Below.refl _ _) rfl
                      | 1, _ =>
                        refine StepOk.plain _ 18 rfl rfl rfl [(17, some 0)] (by kernel_rfl) (fun af wf hbw hf Kf hKf => ?_)
                        obtain ⟨g17, _⟩ := hf
                        have h17 : af.tmps[17]?.getD undef = .pointer (some ⟨w.heap.size, 2, none⟩) := g17
                        clear g17
                        have cB0 := (Blk.on (Blk.drew (P0)) hbw).cell
                        go_simp
                        exact hKf _ _ (Below.refl _ _) rfl
                      | 2, _ =>
                        refine StepOk.plain _ 19 rfl rfl rfl [(1, none)] (by kernel_rfl) (fun af wf hbw hf Kf hKf => ?_)
                        obtain ⟨g1, _⟩ := hf
                        have h1 : af.tmps[1]?.getD undef = .pointer (some ⟨w.heap.size, 0, none⟩) := g1
                        clear g1
                        go_simp
                        exact hKf _ _ (Below.refl _ _) rfl
                      | 3, _ =>
                        refine StepOk.plain _ 20 rfl rfl rfl [(19, some 2)] (by kernel_rfl) (fun af wf hbw hf Kf hKf => ?_)
                        obtain ⟨g19, _⟩ := hf
                        have h19 : af.tmps[19]?.getD undef = .pointer (some ⟨w.heap.size, 0, none⟩) := g19
                        clear g19
                        have cB0 := (Blk.on (Blk.drew (P0)) hbw).cell
                        go_simp
                        exact hKf _ _ (Below.refl _ _) rfl
                      | 4, _ =>
                        refine StepOk.plain _ 21 rfl rfl rfl [(20, some 3)] (by kernel_rfl) (fun af wf hbw hf Kf hKf => ?_)
                        obtain ⟨g20, _⟩ := hf
                        have h20 : af.tmps[20]?.getD undef = .int .i64 f1 := g20
                        clear g20
                        go_simp
                        refine (has_any f1 119 c0 c1 _).mono ?_
                        rintro e wN ⟨rfl, rfl⟩
                        exact hKf _ _ (Below.refl _ _) (congrArg Value.bool HF.out.1)
                      | 5, _ =>
                        refine StepOk.plain _ 22 rfl rfl rfl [(18, some 1), (21, some 4)] (by kernel_rfl) (fun af wf hbw hf Kf hKf => ?_)
                        obtain ⟨g18, g21, _⟩ := hf
                        have h18 : af.tmps[18]?.getD undef = .int .i64 f3 := g18
                        have h21 : af.tmps[21]?.getD undef = .bool W := g21
                        clear g18 g21
                        go_simp
                        refine (rnum_any f3 W _).mono ?_
                        rintro e wN ⟨rfl, rfl⟩
                        exact hKf _ _ (Below.refl _ _) (congrArg Value.bool g0.out)
                      | 6, _ =>
                        refine StepOk.plain _ 23 rfl rfl rfl [(22, some 5)] (by kernel_rfl) (fun af wf hbw hf Kf hKf => ?_)
                        obtain ⟨g22, _⟩ := hf
                        have h22 : af.tmps[22]?.getD undef = .bool true := g22
                        clear g22
                        go_simp
                        exact hKf _ _ (Below.refl _ _) rfl
                      | 7, _ =>
                        refine StepOk.yes _ 24 rfl rfl rfl rfl (fun _ _ h => h) [(1, none)] (by kernel_rfl) (fun af wf hbw hf Kf hKf => ?_)
                        obtain ⟨g1, _⟩ := hf
                        have h1 : af.tmps[1]?.getD undef = .pointer (some ⟨w.heap.size, 0, none⟩) := g1
                        clear g1
                        go_simp
                        exact hKf _ _ (Below.refl _ _) rfl
                      | 8, _ =>
                        refine StepOk.yes _ 25 rfl rfl rfl rfl (fun _ _ h => h) [(24, some 7)] (by kernel_rfl) (fun af wf hbw hf Kf hKf => ?_)
                        obtain ⟨g24, _⟩ := hf
                        have h24 : af.tmps[24]?.getD undef = .pointer (some ⟨w.heap.size, 3, none⟩) := g24
                        clear g24
                        have cB0 := (Blk.on (Blk.drew (P0)) hbw).cell
                        go_simp
                        exact hKf _ _ (Below.refl _ _) rfl
                      | 9, _ =>
                        refine StepOk.yes _ 26 rfl rfl rfl rfl (fun _ _ h => h) [(1, none)] (by kernel_rfl) (fun af wf hbw hf Kf hKf => ?_)
                        obtain ⟨g1, _⟩ := hf
                        have h1 : af.tmps[1]?.getD undef = .pointer (some ⟨w.heap.size, 0, none⟩) := g1
                        clear g1
                        go_simp
                        exact hKf _ _ (Below.refl _ _) rfl
                      | 10, _ =>
                        refine StepOk.yes _ 27 rfl rfl rfl rfl (fun _ _ h => h) [(26, some 9)] (by kernel_rfl) (fun af wf hbw hf Kf hKf => ?_)
                        obtain ⟨g26, _⟩ := hf
                        have h26 : af.tmps[26]?.getD undef = .pointer (some ⟨w.heap.size, 0, none⟩) := g26
                        clear g26
                        have cB0 := (Blk.on (Blk.drew (P0)) hbw).cell
                        go_simp
                        exact hKf _ _ (Below.refl _ _) rfl
                      | 11, _ =>
                        refine StepOk.yes _ 28 rfl rfl rfl rfl (fun _ _ h => h) [(27, some 10)] (by kernel_rfl) (fun af wf hbw hf Kf hKf => ?_)
                        obtain ⟨g27, _⟩ := hf
                        have h27 : af.tmps[27]?.getD undef = .int .i64 f1 := g27
                        clear g27
                        go_simp
                        refine (has_any f1 107 c0 c1 _).mono ?_
                        rintro e wN ⟨rfl, rfl⟩
                        exact hKf _ _ (Below.refl _ _) (congrArg Value.bool HF.out.2.1)
                      | 12, _ =>
                        refine StepOk.yes _ 29 rfl rfl rfl rfl (fun _ _ h => h) [(25, some 8), (28, some 11)] (by kernel_rfl) (fun af wf hbw hf Kf hKf => ?_)
                        obtain ⟨g25, g28, _⟩ := hf
                        have h25 : af.tmps[25]?.getD undef = .int .i64 f4 := g25
                        have h28 : af.tmps[28]?.getD undef = .bool K := g28
                        clear g25 g28
                        go_simp
                        refine (rnum_any f4 K _).mono ?_
                        rintro e wN ⟨rfl, rfl⟩
                        exact hKf _ _ (Below.refl _ _) (congrArg Value.bool g1.out)
                      | 13, _ =>
                        refine StepOk.plain _ 30 rfl rfl rfl [(23, some 6), (29, some 12)] (by kernel_rfl) (fun af wf hbw hf Kf hKf => ?_)
                        obtain ⟨g23, g29, _⟩ := hf
                        have h23 : af.tmps[23]?.getD undef = .bool true := g23
                        have h29 : af.tmps[29]?.getD undef = .bool true := g29
                        clear g23 g29
                        go_simp
                        exact hKf _ _ (Below.refl _ _) rfl
                      | 14, _ =>
                        refine StepOk.plain _ 31 rfl rfl rfl [(30, some 13)] (by kernel_rfl) (fun af wf hbw hf Kf hKf => ?_)
                        obtain ⟨g30, _⟩ := hf
                        have h30 : af.tmps[30]?.getD undef = .bool true := g30
                        clear g30
                        go_simp
                        exact hKf _ _ (Below.refl _ _) rfl
                      | 15, _ =>
                        refine StepOk.yes _ 32 rfl rfl rfl rfl (fun _ _ h => h) [(1, none)] (by kernel_rfl) (fun af wf hbw hf Kf hKf => ?_)
                        obtain ⟨g1, _⟩ := hf
                        have h1 : af.tmps[1]?.getD undef = .pointer (some ⟨w.heap.size, 0, none⟩) := g1
                        clear g1
                        go_simp
                        exact hKf _ _ (Below.refl _ _) rfl
                      | 16, _ =>
                        refine StepOk.yes _ 33 rfl rfl rfl rfl (fun _ _ h => h) [(32, some 15)] (by kernel_rfl) (fun af wf hbw hf Kf hKf => ?_)
                        obtain ⟨g32, _⟩ := hf
                        have h32 : af.tmps[32]?.getD undef = .pointer (some ⟨w.heap.size, 4, none⟩) := g32
                        clear g32
                        have cB0 := (Blk.on (Blk.drew (P0)) hbw).cell
                        go_simp
                        exact hKf _ _ (Below.refl _ _) rfl
                      | 17, _ =>
                        refine StepOk.yes _ 34 rfl rfl rfl rfl (fun _ _ h => h) [(1, none)] (by kernel_rfl) (fun af wf hbw hf Kf hKf => ?_)
                        obtain ⟨g1, _⟩ := hf
                        have h1 : af.tmps[1]?.getD undef = .pointer (some ⟨w.heap.size, 0, none⟩) := g1
                        clear g1
                        go_simp
                        exact hKf _ _ (Below.refl _ _) rfl
                      | 18, _ =>
                        refine StepOk.yes _ 35 rfl rfl rfl rfl (fun _ _ h => h) [(34, some 17)] (by kernel_rfl) (fun af wf hbw hf Kf hKf => ?_)
                        obtain ⟨g34, _⟩ := hf
                        have h34 : af.tmps[34]?.getD undef = .pointer (some ⟨w.heap.size, 0, none⟩) := g34
                        clear g34
                        have cB0 := (Blk.on (Blk.drew (P0)) hbw).cell
                        go_simp
                        exact hKf _ _ (Below.refl _ _) rfl
                      | 19, _ =>
                        refine StepOk.yes _ 36 rfl rfl rfl rfl (fun _ _ h => h) [(35, some 18)] (by kernel_rfl) (fun af wf hbw hf Kf hKf => ?_)
                        obtain ⟨g35, _⟩ := hf
                        have h35 : af.tmps[35]?.getD undef = .int .i64 f1 := g35
                        clear g35
                        go_simp
                        refine (has_any f1 110 c0 c1 _).mono ?_
                        rintro e wN ⟨rfl, rfl⟩
                        exact hKf _ _ (Below.refl _ _) (congrArg Value.bool HF.out.2.2.1)
                      | 20, _ =>
                        refine StepOk.yes _ 37 rfl rfl rfl rfl (fun _ _ h => h) [(33, some 16), (36, some 19)] (by kernel_rfl) (fun af wf hbw hf Kf hKf => ?_)
                        obtain ⟨g33, g36, _⟩ := hf
                        have h33 : af.tmps[33]?.getD undef = .int .i64 f5 := g33
                        have h36 : af.tmps[36]?.getD undef = .bool N := g36
                        clear g33 g36
                        go_simp
                        refine (rnum_any f5 N _).mono ?_
                        rintro e wN ⟨rfl, rfl⟩
                        exact hKf _ _ (Below.refl _ _) (congrArg Value.bool g2.out)
                      | 21, _ =>
                        refine StepOk.plain _ 38 rfl rfl rfl [(31, some 14), (37, some 20)] (by kernel_rfl) (fun af wf hbw hf Kf hKf => ?_)
                        obtain ⟨g31, g37, _⟩ := hf
                        have h31 : af.tmps[31]?.getD undef = .bool true := g31
                        have h37 : af.tmps[37]?.getD undef = .bool true := g37
                        clear g31 g37
                        go_simp
                        exact hKf _ _ (Below.refl _ _) rfl
                      | 22, _ =>
                        refine StepOk.plain _ 39 rfl rfl rfl [(38, some 21)] (by kernel_rfl) (fun af wf hbw hf Kf hKf => ?_)
                        obtain ⟨g38, _⟩ := hf
                        have h38 : af.tmps[38]?.getD undef = .bool true := g38
                        clear g38
                        go_simp
                        exact hKf _ _ (Below.refl _ _) rfl
                      | 23, _ =>
                        refine StepOk.yes _ 40 rfl rfl rfl rfl (fun _ _ h => h) [(1, none)] (by kernel_rfl) (fun af wf hbw hf Kf hKf => ?_)
                        obtain ⟨g1, _⟩ := hf
                        have h1 : af.tmps[1]?.getD undef = .pointer (some ⟨w.heap.size, 0, none⟩) := g1
                        clear g1
                        go_simp
                        exact hKf _ _ (Below.refl _ _) rfl
                      | 24, _ =>
                        refine StepOk.yes _ 41 rfl rfl rfl rfl (fun _ _ h => h) [(40, some 23)] (by kernel_rfl) (fun af wf hbw hf Kf hKf => ?_)
                        obtain ⟨g40, _⟩ := hf
                        have h40 : af.tmps[40]?.getD undef = .pointer (some ⟨w.heap.size, 5, none⟩) := g40
                        clear g40
                        have cB0 := (Blk.on (Blk.drew (P0)) hbw).cell
                        go_simp
                        exact hKf _ _ (Below.refl _ _) rfl
                      | 25, _ =>
                        refine StepOk.yes _ 42 rfl rfl rfl rfl (fun _ _ h => h) [(1, none)] (by kernel_rfl) (fun af wf hbw hf Kf hKf => ?_)
                        obtain ⟨g1, _⟩ := hf
                        have h1 : af.tmps[1]?.getD undef = .pointer (some ⟨w.heap.size, 0, none⟩) := g1
                        clear g1
                        go_simp
                        exact hKf _ _ (Below.refl _ _) rfl
                      | 26, _ =>
                        refine StepOk.yes _ 43 rfl rfl rfl rfl (fun _ _ h => h) [(42, some 25)] (by kernel_rfl) (fun af wf hbw hf Kf hKf => ?_)
                        obtain ⟨g42, _⟩ := hf
                        have h42 : af.tmps[42]?.getD undef = .pointer (some ⟨w.heap.size, 0, none⟩) := g42
                        clear g42
                        have cB0 := (Blk.on (Blk.drew (P0)) hbw).cell
                        go_simp
                        exact hKf _ _ (Below.refl _ _) rfl
                      | 27, _ =>
                        refine StepOk.yes _ 44 rfl rfl rfl rfl (fun _ _ h => h) [(43, some 26)] (by kernel_rfl) (fun af wf hbw hf Kf hKf => ?_)
                        obtain ⟨g43, _⟩ := hf
                        have h43 : af.tmps[43]?.getD undef = .int .i64 f1 := g43
                        clear g43
                        go_simp
                        refine (has_any f1 97 c0 c1 _).mono ?_
                        rintro e wN ⟨rfl, rfl⟩
                        exact hKf _ _ (Below.refl _ _) (congrArg Value.bool HF.out.2.2.2.1)
                      | 28, _ =>
                        refine StepOk.yes _ 45 rfl rfl rfl rfl (fun _ _ h => h) [(41, some 24), (44, some 27)] (by kernel_rfl) (fun af wf hbw hf Kf hKf => ?_)
                        obtain ⟨g41, g44, _⟩ := hf
                        have h41 : af.tmps[41]?.getD undef = .int .i64 f6 := g41
                        have h44 : af.tmps[44]?.getD undef = .bool Q := g44
                        clear g41 g44
                        go_simp
                        refine (rnum_any f6 Q _).mono ?_
                        rintro e wN ⟨rfl, rfl⟩
                        exact hKf _ _ (Below.refl _ _) (congrArg Value.bool g3.out)
                      | 29, _ =>
                        refine StepOk.plain _ 46 rfl rfl rfl [(39, some 22), (45, some 28)] (by kernel_rfl) (fun af wf hbw hf Kf hKf => ?_)
                        obtain ⟨g39, g45, _⟩ := hf
                        have h39 : af.tmps[39]?.getD undef = .bool true := g39
                        have h45 : af.tmps[45]?.getD undef = .bool true := g45
                        clear g39 g45
                        go_simp
                        exact hKf _ _ (Below.refl _ _) rfl
                      | 30, _ =>
                        refine StepOk.plain _ 47 rfl rfl rfl [(46, some 29)] (by kernel_rfl) (fun af wf hbw hf Kf hKf => ?_)
                        obtain ⟨g46, _⟩ := hf
                        have h46 : af.tmps[46]?.getD undef = .bool true := g46
                        clear g46
                        go_simp
                        exact hKf _ _ (Below.refl _ _) rfl
                      | 31, _ =>
                        refine StepOk.yes _ 48 rfl rfl rfl rfl (fun _ _ h => h) [(1, none)] (by kernel_rfl) (fun af wf hbw hf Kf hKf => ?_)
                        obtain ⟨g1, _⟩ := hf
                        have h1 : af.tmps[1]?.getD undef = .pointer (some ⟨w.heap.size, 0, none⟩) := g1
                        clear g1
                        go_simp
                        exact hKf _ _ (Below.refl _ _) rfl
                      | 32, _ =>
                        refine StepOk.yes _ 49 rfl rfl rfl rfl (fun _ _ h => h) [(48, some 31)] (by kernel_rfl) (fun af wf hbw hf Kf hKf => ?_)
                        obtain ⟨g48, _⟩ := hf
                        have h48 : af.tmps[48]?.getD undef = .pointer (some ⟨w.heap.size, 1, none⟩) := g48
                        clear g48
                        have cB0 := (Blk.on (Blk.drew (P0)) hbw).cell
                        go_simp
                        exact hKf _ _ (Below.refl _ _) rfl
                      | 33, _ =>
                        refine StepOk.yes _ 50 rfl rfl rfl rfl (fun _ _ h => h) [(49, some 32)] (by kernel_rfl) (fun af wf hbw hf Kf hKf => ?_)
                        obtain ⟨g49, _⟩ := hf
                        have h49 : af.tmps[49]?.getD undef = .bool false := g49
                        clear g49
                        go_simp
                        exact hKf _ _ (Below.refl _ _) rfl
                      | 34, _ =>
                        refine StepOk.yes _ 51 rfl rfl rfl rfl (fun _ _ h => h) [(50, some 33)] (by kernel_rfl) (fun af wf hbw hf Kf hKf => ?_)
                        obtain ⟨g50, _⟩ := hf
                        have h50 : af.tmps[50]?.getD undef = .bool true := g50
                        clear g50
                        go_simp
                        exact hKf _ _ (Below.refl _ _) rfl
                      | 35, _ => exact StepOk.no _ 52 rfl rfl rfl rfl (fun _ _ h => h) (by decide) (by kernel_rfl) (fun _ => rfl)
                      | 36, _ => exact StepOk.no _ 53 rfl rfl rfl rfl (fun _ _ h => h) (by decide) (by kernel_rfl) (fun _ => rfl)
                      | 37, _ => exact StepOk.no _ 54 rfl rfl rfl rfl (fun _ _ h => h) (by decide) (by kernel_rfl) (fun _ => rfl)
                      | 38, _ =>
                        refine StepOk.yes _ 55 rfl rfl rfl rfl (fun _ _ h => h) [(51, some 34), (54, some 37)] (by kernel_rfl) (fun af wf hbw hf Kf hKf => ?_)
                        obtain ⟨g51, g54, _⟩ := hf
                        have h51 : af.tmps[51]?.getD undef = .bool true := g51
                        have h54 : af.tmps[54]?.getD undef = undef := g54
                        clear g51 g54
                        go_simp
                        exact hKf _ _ (Below.refl _ _) rfl
                      | 39, _ =>
                        refine StepOk.plain _ 56 rfl rfl rfl [(47, some 30), (55, some 38)] (by kernel_rfl) (fun af wf hbw hf Kf hKf => ?_)
                        obtain ⟨g47, g55, _⟩ := hf
                        have h47 : af.tmps[47]?.getD undef = .bool true := g47
                        have h55 : af.tmps[55]?.getD undef = .bool true := g55
                        clear g47 g55
                        go_simp
                        exact hKf _ _ (Below.refl _ _) rfl
                      | 40, _ =>
                        refine StepOk.plain _ 57 rfl rfl rfl [(56, some 39)] (by kernel_rfl) (fun af wf hbw hf Kf hKf => ?_)
                        obtain ⟨g56, _⟩ := hf
                        have h56 : af.tmps[56]?.getD undef = .bool true := g56
                        clear g56
                        go_simp
                        exact hKf _ _ (Below.refl _ _) rfl
                      | 41, _ =>
                        refine StepOk.yes _ 58 rfl rfl rfl rfl (fun _ _ h => h) [(1, none)] (by kernel_rfl) (fun af wf hbw hf Kf hKf => ?_)
                        obtain ⟨g1, _⟩ := hf
                        have h1 : af.tmps[1]?.getD undef = .pointer (some ⟨w.heap.size, 0, none⟩) := g1
                        clear g1
                        go_simp
                        exact hKf _ _ (Below.refl _ _) rfl
                      | 42, _ =>
                        refine StepOk.yes _ 59 rfl rfl rfl rfl (fun _ _ h => h) [(58, some 41)] (by kernel_rfl) (fun af wf hbw hf Kf hKf => ?_)
                        obtain ⟨g58, _⟩ := hf
                        have h58 : af.tmps[58]?.getD undef = .pointer (some ⟨w.heap.size, 6, none⟩) := g58
                        clear g58
                        have cB0 := (Blk.on (Blk.drew (P0)) hbw).cell
                        go_simp
                        exact hKf _ _ (Below.refl _ _) rfl
                      | 43, _ =>
                        refine StepOk.yes _ 60 rfl rfl rfl rfl (fun _ _ h => h) [(59, some 42)] (by kernel_rfl) (fun af wf hbw hf Kf hKf => ?_)
                        obtain ⟨g59, _⟩ := hf
                        have h59 : af.tmps[59]?.getD undef = .slice A 0 c := g59
                        clear g59
                        go_simp
                        exact hKf _ _ (Below.refl _ _) rfl
                      | 44, _ =>
                        refine StepOk.yes _ 61 rfl rfl rfl rfl (fun _ _ h => h) [(60, some 43)] (by kernel_rfl) (fun af wf hbw hf Kf hKf => ?_)
                        obtain ⟨g60, _⟩ := hf
                        have h60 : af.tmps[60]?.getD undef = .int .i64 0 := g60
                        clear g60
                        go_simp
                        exact hKf _ _ (Below.refl _ _) rfl
                      | 45, _ =>
                        refine StepOk.yes _ 62 rfl rfl rfl rfl (fun _ _ h => h) [(61, some 44)] (by kernel_rfl) (fun af wf hbw hf Kf hKf => ?_)
                        obtain ⟨g61, _⟩ := hf
                        have h61 : af.tmps[61]?.getD undef = .bool true := g61
                        clear g61
                        go_simp
                        exact hKf _ _ (Below.refl _ _) rfl
                      | 46, _ => exact StepOk.no _ 63 rfl rfl rfl rfl (fun _ _ h => h) (by decide) (by kernel_rfl) (fun _ => rfl)
                      | 47, _ => exact StepOk.no _ 64 rfl rfl rfl rfl (fun _ _ h => h) (by decide) (by kernel_rfl) (fun _ => rfl)
                      | 48, _ => exact StepOk.no _ 65 rfl rfl rfl rfl (fun _ _ h => h) (by decide) (by kernel_rfl) (fun _ => rfl)
                      | 49, _ =>
                        refine StepOk.yes _ 66 rfl rfl rfl rfl (fun _ _ h => h) [(62, some 45), (65, some 48)] (by kernel_rfl) (fun af wf hbw hf Kf hKf => ?_)
                        obtain ⟨g62, g65, _⟩ := hf
                        have h62 : af.tmps[62]?.getD undef = .bool true := g62
                        have h65 : af.tmps[65]?.getD undef = undef := g65
                        clear g62 g65
                        go_simp
                        exact hKf _ _ (Below.refl _ _) rfl
                      | 50, _ =>
                        refine StepOk.plain _ 67 rfl rfl rfl [(57, some 40), (66, some 49)] (by kernel_rfl) (fun af wf hbw hf Kf hKf => ?_)
                        obtain ⟨g57, g66, _⟩ := hf
                        have h57 : af.tmps[57]?.getD undef = .bool true := g57
                        have h66 : af.tmps[66]?.getD undef = .bool true := g66
                        clear g57 g66
                        go_simp
                        exact hKf _ _ (Below.refl _ _) rfl
                      | 51, _ =>
                        refine StepOk.plain _ 2 rfl rfl rfl [(67, some 50)] (by kernel_rfl) (fun af wf hbw hf Kf hKf => ?_)
                        obtain ⟨g67, _⟩ := hf
                        have h67 : af.tmps[67]?.getD undef = .bool true := g67
                        clear g67
                        go_simp
                        exact hKf _ _ (Below.refl _ _) rfl
                      | i + 52, h => exact absurd h (by show ¬ (i + 52 < 52); omega)
                    · intro af wF hbF hdF hsF hbaseF hfactF
                      obtain ⟨T, dsF⟩ := af
                      obtain rfl : dsF = _ := hdF
                      have e0 := hbaseF 0 (not_dst (by kernel_rfl))
                      simp only [List.getElem?_toArray, List.getElem?_cons_zero, Option.getD_some] at e0
                      have e1 := hbaseF 1 (not_dst (by kernel_rfl))
                      simp only [List.getElem?_toArray, List.getElem?_cons_zero, List.getElem?_cons_succ, Option.getD_some] at e1
                      have e3 := hbaseF 3 (not_dst (by kernel_rfl))
                      simp only [List.getElem?_toArray, List.getElem?_cons_zero, List.getElem?_cons_succ, Option.getD_some] at e3
                      have e4 := hbaseF 4 (not_dst (by kernel_rfl))
                      simp only [List.getElem?_toArray, List.getElem?_cons_zero, List.getElem?_cons_succ, Option.getD_some] at e4
                      have e5 := hbaseF 5 (not_dst (by kernel_rfl))
                      simp only [List.getElem?_toArray, List.getElem?_cons_zero, List.getElem?_cons_succ, Option.getD_some] at e5
                      have e6 := hbaseF 6 (not_dst (by kernel_rfl))
                      simp only [List.getElem?_toArray, List.getElem?_cons_zero, List.getElem?_cons_succ, Option.getD_some] at e6
                      have e7 := hbaseF 7 (not_dst (by kernel_rfl))
                      simp only [List.getElem?_toArray, List.getElem?_cons_zero, List.getElem?_cons_succ, Option.getD_some] at e7
                      have e8 := hbaseF 8 (not_dst (by kernel_rfl))
                      simp only [List.getElem?_toArray, List.getElem?_cons_zero, List.getElem?_cons_succ, Option.getD_some] at e8
                      have e9 := hbaseF 9 (not_dst (by kernel_rfl))
                      simp only [List.getElem?_toArray, List.getElem?_cons_zero, List.getElem?_cons_succ, Option.getD_some] at e9
                      have e10 := hbaseF 10 (not_dst (by kernel_rfl))
                      simp only [List.getElem?_toArray, List.getElem?_cons_zero, List.getElem?_cons_succ, Option.getD_some] at e10
                      have e11 := hbaseF 11 (not_dst (by kernel_rfl))
                      simp only [List.getElem?_toArray, List.getElem?_cons_zero, List.getElem?_cons_succ, Option.getD_some] at e11
                      have e12 := hbaseF 12 (not_dst (by kernel_rfl))
                      simp only [List.getElem?_toArray, List.getElem?_cons_zero, List.getElem?_cons_succ, Option.getD_some] at e12
                      have e13 := hbaseF 13 (not_dst (by kernel_rfl))
                      simp only [List.getElem?_toArray, List.getElem?_cons_zero, List.getElem?_cons_succ, Option.getD_some] at e13
                      have e14 := hbaseF 14 (not_dst (by kernel_rfl))
                      simp only [List.getElem?_toArray, List.getElem?_cons_zero, List.getElem?_cons_succ, Option.getD_some] at e14
                      have e15 := hbaseF 15 (not_dst (by kernel_rfl))
                      simp only [List.getElem?_toArray, List.getElem?_cons_zero, List.getElem?_cons_succ, Option.getD_some] at e15
                      have e16 := hbaseF 16 (not_dst (by kernel_rfl))
                      simp only [List.getElem?_toArray, List.getElem?_cons_zero, List.getElem?_cons_succ, Option.getD_some] at e16
                      have e2 := hfactF 51 2 (by decide) rfl
                      replace e2 : T[2]?.getD undef = .bool true := e2
                      clear hbaseF hfactF
                      have hT : T = #[T[0]?.getD undef, T[1]?.getD undef, T[2]?.getD undef, T[3]?.getD undef, T[4]?.getD undef, T[5]?.getD undef, T[6]?.getD undef, T[7]?.getD undef, T[8]?.getD undef, T[9]?.getD undef, T[10]?.getD undef, T[11]?.getD undef, T[12]?.getD undef, T[13]?.getD undef, T[14]?.getD undef, T[15]?.getD undef, T[16]?.getD undef, T[17]?.getD undef, T[18]?.getD undef, T[19]?.getD undef, T[20]?.getD undef, T[21]?.getD undef, T[22]?.getD undef, T[23]?.getD undef, T[24]?.getD undef, T[25]?.getD undef, T[26]?.getD undef, T[27]?.getD undef, T[28]?.getD undef, T[29]?.getD undef, T[30]?.getD undef, T[31]?.getD undef, T[32]?.getD undef, T[33]?.getD undef, T[34]?.getD undef, T[35]?.getD undef, T[36]?.getD undef, T[37]?.getD undef, T[38]?.getD undef, T[39]?.getD undef, T[40]?.getD undef, T[41]?.getD undef, T[42]?.getD undef, T[43]?.getD undef, T[44]?.getD undef, T[45]?.getD undef, T[46]?.getD undef, T[47]?.getD undef, T[48]?.getD undef, T[49]?.getD undef, T[50]?.getD undef, T[51]?.getD undef, T[52]?.getD undef, T[53]?.getD undef, T[54]?.getD undef, T[55]?.getD undef, T[56]?.getD undef, T[57]?.getD undef, T[58]?.getD undef, T[59]?.getD undef, T[60]?.getD undef, T[61]?.getD undef, T[62]?.getD undef, T[63]?.getD undef, T[64]?.getD undef, T[65]?.getD undef, T[66]?.getD undef, T[67]?.getD undef] := arr_eq T 68 hsF
                      clear hsF
                      rw [e0] at hT; clear e0
                      rw [e1] at hT; clear e1
                      rw [e2] at hT; clear e2
                      rw [e3] at hT; clear e3
                      rw [e4] at hT; clear e4
                      rw [e5] at hT; clear e5
                      rw [e6] at hT; clear e6
                      rw [e7] at hT; clear e7
                      rw [e8] at hT; clear e8
                      rw [e9] at hT; clear e9
                      rw [e10] at hT; clear e10
                      rw [e11] at hT; clear e11
                      rw [e12] at hT; clear e12
                      rw [e13] at hT; clear e13
                      rw [e14] at hT; clear e14
                      rw [e15] at hT; clear e15
                      rw [e16] at hT; clear e16
                      generalize T[17]?.getD undef = u17 at hT
                      generalize T[18]?.getD undef = u18 at hT
                      generalize T[19]?.getD undef = u19 at hT
                      generalize T[20]?.getD undef = u20 at hT
                      generalize T[21]?.getD undef = u21 at hT
                      generalize T[22]?.getD undef = u22 at hT
                      generalize T[23]?.getD undef = u23 at hT
                      generalize T[24]?.getD undef = u24 at hT
                      generalize T[25]?.getD undef = u25 at hT
                      generalize T[26]?.getD undef = u26 at hT
                      generalize T[27]?.getD undef = u27 at hT
                      generalize T[28]?.getD undef = u28 at hT
                      generalize T[29]?.getD undef = u29 at hT
                      generalize T[30]?.getD undef = u30 at hT
                      generalize T[31]?.getD undef = u31 at hT
                      generalize T[32]?.getD undef = u32 at hT
                      generalize T[33]?.getD undef = u33 at hT
                      generalize T[34]?.getD undef = u34 at hT
                      generalize T[35]?.getD undef = u35 at hT
                      generalize T[36]?.getD undef = u36 at hT
                      generalize T[37]?.getD undef = u37 at hT
                      generalize T[38]?.getD undef = u38 at hT
                      generalize T[39]?.getD undef = u39 at hT
                      generalize T[40]?.getD undef = u40 at hT
                      generalize T[41]?.getD undef = u41 at hT
                      generalize T[42]?.getD undef = u42 at hT
                      generalize T[43]?.getD undef = u43 at hT
                      generalize T[44]?.getD undef = u44 at hT
                      generalize T[45]?.getD undef = u45 at hT
                      generalize T[46]?.getD undef = u46 at hT
                      generalize T[47]?.getD undef = u47 at hT
                      generalize T[48]?.getD undef = u48 at hT
                      generalize T[49]?.getD undef = u49 at hT
                      generalize T[50]?.getD undef = u50 at hT
                      generalize T[51]?.getD undef = u51 at hT
                      generalize T[52]?.getD undef = u52 at hT
                      generalize T[53]?.getD undef = u53 at hT
                      generalize T[54]?.getD undef = u54 at hT
                      generalize T[55]?.getD undef = u55 at hT
                      generalize T[56]?.getD undef = u56 at hT
                      generalize T[57]?.getD undef = u57 at hT
                      generalize T[58]?.getD undef = u58 at hT
                      generalize T[59]?.getD undef = u59 at hT
                      generalize T[60]?.getD undef = u60 at hT
                      generalize T[61]?.getD undef = u61 at hT
                      generalize T[62]?.getD undef = u62 at hT
                      generalize T[63]?.getD undef = u63 at hT
                      generalize T[64]?.getD undef = u64 at hT
                      generalize T[65]?.getD undef = u65 at hT
                      generalize T[66]?.getD undef = u66 at hT
                      generalize T[67]?.getD undef = u67 at hT
                      subst hT
                      go_wp2_with fail
                      go_ret
                      exact ⟨by rw [hr.out]; rfl, (by (have q_hbF := Below.size hbF; (try simp at q_hbF); repeat (first | exact Below.refl _ _ | (refine Below.trans ?_ (Below.mono hbF (by first | omega | (simp; omega) | simp))) | (refine Below.setCell ?_ (by first | omega | (simp; omega) | simp) _) | (refine Below.alloc ?_ (by first | omega | (simp; omega) | simp) _) | apply Below.drew | apply below_drewN)))⟩
                  · have hq0 : ((n : Int) == 0) = false := by simp; omega
                    have hd0 : decide (n = 0) = false := by simpa using hn0
                    rw [hd0] at hr
                    clear hn0 hd0
                    go_enter Try.func14, Try.ntmps14
                    go_wp2_with fail
                    refine wp_flows [(fun y_ _ => y_ = .pointer (some ⟨w.heap.size, 2, none⟩)), (fun y_ _ => y_ = .int .i64 f3), (fun y_ _ => y_ = .pointer (some ⟨w.heap.size, 0, none⟩)), (fun y_ _ => y_ = .int .i64 f1), (fun y_ _ => y_ = .bool W), (fun y_ _ => y_ = .bool true), (fun y_ _ => y_ = .bool true), (fun y_ _ => y_ = .pointer (some ⟨w.heap.size, 3, none⟩)), (fun y_ _ => y_ = .int .i64 f4), (fun y_ _ => y_ = .pointer (some ⟨w.heap.size, 0, none⟩)), (fun y_ _ => y_ = .int .i64 f1), (fun y_ _ => y_ = .bool K), (fun y_ _ => y_ = .bool true), (fun y_ _ => y_ = .bool true), (fun y_ _ => y_ = .bool true), (fun y_ _ => y_ = .pointer (some ⟨w.heap.size, 4, none⟩)), (fun y_ _ => y_ = .int .i64 f5), (fun y_ _ => y_ = .pointer (some ⟨w.heap.size, 0, none⟩)), (fun y_ _ => y_ = .int .i64 f1), (fun y_ _ => y_ = .bool N), (fun y_ _ => y_ = .bool true), (fun y_ _ => y_ = .bool true), (fun y_ _ => y_ = .bool true), (fun y_ _ => y_ = .pointer (some ⟨w.heap.size, 5, none⟩)), (fun y_ _ => y_ = .int .i64 f6), (fun y_ _ => y_ = .pointer (some ⟨w.heap.size, 0, none⟩)), (fun y_ _ => y_ = .int .i64 f1), (fun y_ _ => y_ = .bool Q), (fun y_ _ => y_ = .bool true), (fun y_ _ => y_ = .bool true), (fun y_ _ => y_ = .bool true), (fun y_ _ => y_ = .pointer (some ⟨w.heap.size, 1, none⟩)), (fun y_ _ => y_ = .bool false), (fun y_ _ => y_ = .bool true), (fun y_ _ => y_ = .bool true), (fun y_ _ => y_ = undef), (fun y_ _ => y_ = undef), (fun y_ _ => y_ = undef), (fun y_ _ => y_ = .bool true), (fun y_ _ => y_ = .bool true), (fun y_ _ => y_ = .bool true), (fun y_ _ => y_ = .pointer (some ⟨w.heap.size, 6, none⟩)), (fun y_ _ => y_ = .slice A n c), (fun y_ _ => y_ = .int .i64 (n : Int)), (fun y_ _ => y_ = .bool false), (fun y_ _ => y_ = .bool false), (fun y_ _ => y_ = .pointer (some ⟨w.heap.size, 0, none⟩)), (fun y_ _ => y_ = .int .i64 f1), (fun y_ _ => y_ = .bool B), (fun y_ _ => y_ = .bool B), (fun y_ _ => y_ = .bool B), (fun y_ _ => y_ = .bool B)] (by kernel_rfl) ⟨Stab.eq _, Stab.eq _, Stab.eq _, Stab.eq _, Stab.eq _, Stab.eq _, Stab.eq _, Stab.eq _, Stab.eq _, Stab.eq _, Stab.eq _, Stab.eq _, Stab.eq _, Stab.eq _, Stab.eq _, Stab.eq _, Stab.eq _, Stab.eq _, Stab.eq _, Stab.eq _, Stab.eq _, Stab.eq _, Stab.eq _, Stab.eq _, Stab.eq _, Stab.eq _, Stab.eq _, Stab.eq _, Stab.eq _, Stab.eq _, Stab.eq _, Stab.eq _, Stab.eq _, Stab.eq _, Stab.eq _, Stab.eq _, Stab.eq _, Stab.eq _, Stab.eq _, Stab.eq _, Stab.eq _, Stab.eq _, Stab.eq _, Stab.eq _, Stab.eq _, Stab.eq _, Stab.eq _, Stab.eq _, Stab.eq _, Stab.eq _, Stab.eq _, Stab.eq _, trivial⟩ (by kernel_rfl) (by rfl) ?_ ?_
                    · intro kq hkq
                      match kq, hkq with
                      | 0, _ =>
                        refine StepOk.plain _ 17 rfl rfl rfl [(1, none)] (by kernel_rfl) (fun af wf hbw hf Kf hKf => ?_)
                        obtain ⟨g1, _⟩ := hf
                        have h1 : af.tmps[1]?.getD undef = .pointer (some ⟨w.heap.size, 0, none⟩) := g1
                        clear g1
                        go_simp
                        exact hKf _ _ (Below.refl _ _) rfl
                      | 1, _ =>
                        refine StepOk.plain _ 18 rfl rfl rfl [(17, some 0)] (by kernel_rfl) (fun af wf hbw hf Kf hKf => ?_)
                        obtain ⟨g17, _⟩ := hf
                        have h17 : af.tmps[17]?.getD undef = .pointer (some ⟨w.heap.size, 2, none⟩) := g17
                        clear g17
                        have cB0 := (Blk.on (Blk.drew (P0)) hbw).cell
                        go_simp
                        exact hKf _ _ (Below.refl _ _) rfl
                      | 2, _ =>
                        refine StepOk.plain _ 19 rfl rfl rfl [(1, none)] (by kernel_rfl) (fun af wf hbw hf Kf hKf => ?_)
                        obtain ⟨g1, _⟩ := hf
                        have h1 : af.tmps[1]?.getD undef = .pointer (some ⟨w.heap.size, 0, none⟩) := g1
                        clear g1
                        go_simp
                        exact hKf _ _ (Below.refl _ _) rfl
                      | 3, _ =>
                        refine StepOk.plain _ 20 rfl rfl rfl [(19, some 2)] (by kernel_rfl) (fun af wf hbw hf Kf hKf => ?_)
                        obtain ⟨g19, _⟩ := hf
                        have h19 : af.tmps[19]?.getD undef = .pointer (some ⟨w.heap.size, 0, none⟩) := g19
                        clear g19
                        have cB0 := (Blk.on (Blk.drew (P0)) hbw).cell
                        go_simp
                        exact hKf _ _ (Below.refl _ _) rfl
                      | 4, _ =>
                        refine StepOk.plain _ 21 rfl rfl rfl [(20, some 3)] (by kernel_rfl) (fun af wf hbw hf Kf hKf => ?_)
                        obtain ⟨g20, _⟩ := hf
                        have h20 : af.tmps[20]?.getD undef = .int .i64 f1 := g20
                        clear g20
                        go_simp
                        refine (has_any f1 119 c0 c1 _).mono ?_
                        rintro e wN ⟨rfl, rfl⟩
                        exact hKf _ _ (Below.refl _ _) (congrArg Value.bool HF.out.1)
                      | 5, _ =>
                        refine StepOk.plain _ 22 rfl rfl rfl [(18, some 1), (21, some 4)] (by kernel_rfl) (fun af wf hbw hf Kf hKf => ?_)
                        obtain ⟨g18, g21, _⟩ := hf
                        have h18 : af.tmps[18]?.getD undef = .int .i64 f3 := g18
                        have h21 : af.tmps[21]?.getD undef = .bool W := g21
                        clear g18 g21
                        go_simp
                        refine (rnum_any f3 W _).mono ?_
                        rintro e wN ⟨rfl, rfl⟩
                        exact hKf _ _ (Below.refl _ _) (congrArg Value.bool g0.out)
                      | 6, _ =>
                        refine StepOk.plain _ 23 rfl rfl rfl [(22, some 5)] (by kernel_rfl) (fun af wf hbw hf Kf hKf => ?_)
                        obtain ⟨g22, _⟩ := hf
                        have h22 : af.tmps[22]?.getD undef = .bool true := g22
                        clear g22
                        go_simp
                        exact hKf _ _ (Below.refl _ _) rfl
                      | 7, _ =>
                        refine StepOk.yes _ 24 rfl rfl rfl rfl (fun _ _ h => h) [(1, none)] (by kernel_rfl) (fun af wf hbw hf Kf hKf => ?_)
                        obtain ⟨g1, _⟩ := hf
                        have h1 : af.tmps[1]?.getD undef = .pointer (some ⟨w.heap.size, 0, none⟩) := g1
                        clear g1
                        go_simp
                        exact hKf _ _ (Below.refl _ _) rfl
                      | 8, _ =>
                        refine StepOk.yes _ 25 rfl rfl rfl rfl (fun _ _ h => h) [(24, some 7)] (by kernel_rfl) (fun af wf hbw hf Kf hKf => ?_)
                        obtain ⟨g24, _⟩ := hf
                        have h24 : af.tmps[24]?.getD undef = .pointer (some ⟨w.heap.size, 3, none⟩) := g24
                        clear g24
                        have cB0 := (Blk.on (Blk.drew (P0)) hbw).cell
                        go_simp
                        exact hKf _ _ (Below.refl _ _) rfl
                      | 9, _ =>
                        refine StepOk.yes _ 26 rfl rfl rfl rfl (fun _ _ h => h) [(1, none)] (by kernel_rfl) (fun af wf hbw hf Kf hKf => ?_)
                        obtain ⟨g1, _⟩ := hf
                        have h1 : af.tmps[1]?.getD undef = .pointer (some ⟨w.heap.size, 0, none⟩) := g1
                        clear g1
                        go_simp
                        exact hKf _ _ (Below.refl _ _) rfl
                      | 10, _ =>
                        refine StepOk.yes _ 27 rfl rfl rfl rfl (fun _ _ h => h) [(26, some 9)] (by kernel_rfl) (fun af wf hbw hf Kf hKf => ?_)
                        obtain ⟨g26, _⟩ := hf
                        have h26 : af.tmps[26]?.getD undef = .pointer (some ⟨w.heap.size, 0, none⟩) := g26
                        clear g26
                        have cB0 := (Blk.on (Blk.drew (P0)) hbw).cell
                        go_simp
                        exact hKf _ _ (Below.refl _ _) rfl
                      | 11, _ =>
                        refine StepOk.yes _ 28 rfl rfl rfl rfl (fun _ _ h => h) [(27, some 10)] (by kernel_rfl) (fun af wf hbw hf Kf hKf => ?_)
                        obtain ⟨g27, _⟩ := hf
                        have h27 : af.tmps[27]?.getD undef = .int .i64 f1 := g27
                        clear g27
                        go_simp
                        refine (has_any f1 107 c0 c1 _).mono ?_
                        rintro e wN ⟨rfl, rfl⟩
                        exact hKf _ _ (Below.refl _ _) (congrArg Value.bool HF.out.2.1)
                      | 12, _ =>
                        refine StepOk.yes _ 29 rfl rfl rfl rfl (fun _ _ h => h) [(25, some 8), (28, some 11)] (by kernel_rfl) (fun af wf hbw hf Kf hKf => ?_)
                        obtain ⟨g25, g28, _⟩ := hf
                        have h25 : af.tmps[25]?.getD undef = .int .i64 f4 := g25
                        have h28 : af.tmps[28]?.getD undef = .bool K := g28
                        clear g25 g28
                        go_simp
                        refine (rnum_any f4 K _).mono ?_
                        rintro e wN ⟨rfl, rfl⟩
                        exact hKf _ _ (Below.refl _ _) (congrArg Value.bool g1.out)
                      | 13, _ =>
                        refine StepOk.plain _ 30 rfl rfl rfl [(23, some 6), (29, some 12)] (by kernel_rfl) (fun af wf hbw hf Kf hKf => ?_)
                        obtain ⟨g23, g29, _⟩ := hf
                        have h23 : af.tmps[23]?.getD undef = .bool true := g23
                        have h29 : af.tmps[29]?.getD undef = .bool true := g29
                        clear g23 g29
                        go_simp
                        exact hKf _ _ (Below.refl _ _) rfl
                      | 14, _ =>
                        refine StepOk.plain _ 31 rfl rfl rfl [(30, some 13)] (by kernel_rfl) (fun af wf hbw hf Kf hKf => ?_)
                        obtain ⟨g30, _⟩ := hf
                        have h30 : af.tmps[30]?.getD undef = .bool true := g30
                        clear g30
                        go_simp
                        exact hKf _ _ (Below.refl _ _) rfl
                      | 15, _ =>
                        refine StepOk.yes _ 32 rfl rfl rfl rfl (fun _ _ h => h) [(1, none)] (by kernel_rfl) (fun af wf hbw hf Kf hKf => ?_)
                        obtain ⟨g1, _⟩ := hf
                        have h1 : af.tmps[1]?.getD undef = .pointer (some ⟨w.heap.size, 0, none⟩) := g1
                        clear g1
                        go_simp
                        exact hKf _ _ (Below.refl _ _) rfl
                      | 16, _ =>
                        refine StepOk.yes _ 33 rfl rfl rfl rfl (fun _ _ h => h) [(32, some 15)] (by kernel_rfl) (fun af wf hbw hf Kf hKf => ?_)
                        obtain ⟨g32, _⟩ := hf
                        have h32 : af.tmps[32]?.getD undef = .pointer (some ⟨w.heap.size, 4, none⟩) := g32
                        clear g32
                        have cB0 := (Blk.on (Blk.drew (P0)) hbw).cell
                        go_simp
                        exact hKf _ _ (Below.refl _ _) rfl
                      | 17, _ =>
                        refine StepOk.yes _ 34 rfl rfl rfl rfl (fun _ _ h => h) [(1, none)] (by kernel_rfl) (fun af wf hbw hf Kf hKf => ?_)
                        obtain ⟨g1, _⟩ := hf
                        have h1 : af.tmps[1]?.getD undef = .pointer (some ⟨w.heap.size, 0, none⟩) := g1
                        clear g1
                        go_simp
                        exact hKf _ _ (Below.refl _ _) rfl
                      | 18, _ =>
                        refine StepOk.yes _ 35 rfl rfl rfl rfl (fun _ _ h => h) [(34, some 17)] (by kernel_rfl) (fun af wf hbw hf Kf hKf => ?_)
                        obtain ⟨g34, _⟩ := hf
                        have h34 : af.tmps[34]?.getD undef = .pointer (some ⟨w.heap.size, 0, none⟩) := g34
                        clear g34
                        have cB0 := (Blk.on (Blk.drew (P0)) hbw).cell
                        go_simp
                        exact hKf _ _ (Below.refl _ _) rfl
                      | 19, _ =>
                        refine StepOk.yes _ 36 rfl rfl rfl rfl (fun _ _ h => h) [(35, some 18)] (by kernel_rfl) (fun af wf hbw hf Kf hKf => ?_)
                        obtain ⟨g35, _⟩ := hf
                        have h35 : af.tmps[35]?.getD undef = .int .i64 f1 := g35
                        clear g35
                        go_simp
                        refine (has_any f1 110 c0 c1 _).mono ?_
                        rintro e wN ⟨rfl, rfl⟩
                        exact hKf _ _ (Below.refl _ _) (congrArg Value.bool HF.out.2.2.1)
                      | 20, _ =>
                        refine StepOk.yes _ 37 rfl rfl rfl rfl (fun _ _ h => h) [(33, some 16), (36, some 19)] (by kernel_rfl) (fun af wf hbw hf Kf hKf => ?_)
                        obtain ⟨g33, g36, _⟩ := hf
                        have h33 : af.tmps[33]?.getD undef = .int .i64 f5 := g33
                        have h36 : af.tmps[36]?.getD undef = .bool N := g36
                        clear g33 g36
                        go_simp
                        refine (rnum_any f5 N _).mono ?_
                        rintro e wN ⟨rfl, rfl⟩
                        exact hKf _ _ (Below.refl _ _) (congrArg Value.bool g2.out)
                      | 21, _ =>
                        refine StepOk.plain _ 38 rfl rfl rfl [(31, some 14), (37, some 20)] (by kernel_rfl) (fun af wf hbw hf Kf hKf => ?_)
                        obtain ⟨g31, g37, _⟩ := hf
                        have h31 : af.tmps[31]?.getD undef = .bool true := g31
                        have h37 : af.tmps[37]?.getD undef = .bool true := g37
                        clear g31 g37
                        go_simp
                        exact hKf _ _ (Below.refl _ _) rfl
                      | 22, _ =>
                        refine StepOk.plain _ 39 rfl rfl rfl [(38, some 21)] (by kernel_rfl) (fun af wf hbw hf Kf hKf => ?_)
                        obtain ⟨g38, _⟩ := hf
                        have h38 : af.tmps[38]?.getD undef = .bool true := g38
                        clear g38
                        go_simp
                        exact hKf _ _ (Below.refl _ _) rfl
                      | 23, _ =>
                        refine StepOk.yes _ 40 rfl rfl rfl rfl (fun _ _ h => h) [(1, none)] (by kernel_rfl) (fun af wf hbw hf Kf hKf => ?_)
                        obtain ⟨g1, _⟩ := hf
                        have h1 : af.tmps[1]?.getD undef = .pointer (some ⟨w.heap.size, 0, none⟩) := g1
                        clear g1
                        go_simp
                        exact hKf _ _ (Below.refl _ _) rfl
                      | 24, _ =>
                        refine StepOk.yes _ 41 rfl rfl rfl rfl (fun _ _ h => h) [(40, some 23)] (by kernel_rfl) (fun af wf hbw hf Kf hKf => ?_)
                        obtain ⟨g40, _⟩ := hf
                        have h40 : af.tmps[40]?.getD undef = .pointer (some ⟨w.heap.size, 5, none⟩) := g40
                        clear g40
                        have cB0 := (Blk.on (Blk.drew (P0)) hbw).cell
                        go_simp
                        exact hKf _ _ (Below.refl _ _) rfl
                      | 25, _ =>
                        refine StepOk.yes _ 42 rfl rfl rfl rfl (fun _ _ h => h) [(1, none)] (by kernel_rfl) (fun af wf hbw hf Kf hKf => ?_)
                        obtain ⟨g1, _⟩ := hf
                        have h1 : af.tmps[1]?.getD undef = .pointer (some ⟨w.heap.size, 0, none⟩) := g1
                        clear g1
                        go_simp
                        exact hKf _ _ (Below.refl _ _) rfl
                      | 26, _ =>
                        refine StepOk.yes _ 43 rfl rfl rfl rfl (fun _ _ h => h) [(42, some 25)] (by kernel_rfl) (fun af wf hbw hf Kf hKf => ?_)
                        obtain ⟨g42, _⟩ := hf
                        have h42 : af.tmps[42]?.getD undef = .pointer (some ⟨w.heap.size, 0, none⟩) := g42
                        clear g42
                        have cB0 := (Blk.on (Blk.drew (P0)) hbw).cell
                        go_simp
                        exact hKf _ _ (Below.refl _ _) rfl
                      | 27, _ =>
                        refine StepOk.yes _ 44 rfl rfl rfl rfl (fun _ _ h => h) [(43, some 26)] (by kernel_rfl) (fun af wf hbw hf Kf hKf => ?_)
                        obtain ⟨g43, _⟩ := hf
                        have h43 : af.tmps[43]?.getD undef = .int .i64 f1 := g43
                        clear g43
                        go_simp
                        refine (has_any f1 97 c0 c1 _).mono ?_
                        rintro e wN ⟨rfl, rfl⟩
                        exact hKf _ _ (Below.refl _ _) (congrArg Value.bool HF.out.2.2.2.1)
                      | 28, _ =>
                        refine StepOk.yes _ 45 rfl rfl rfl rfl (fun _ _ h => h) [(41, some 24), (44, some 27)] (by kernel_rfl) (fun af wf hbw hf Kf hKf => ?_)
                        obtain ⟨g41, g44, _⟩ := hf
                        have h41 : af.tmps[41]?.getD undef = .int .i64 f6 := g41
                        have h44 : af.tmps[44]?.getD undef = .bool Q := g44
                        clear g41 g44
                        go_simp
                        refine (rnum_any f6 Q _).mono ?_
                        rintro e wN ⟨rfl, rfl⟩
                        exact hKf _ _ (Below.refl _ _) (congrArg Value.bool g3.out)
                      | 29, _ =>
                        refine StepOk.plain _ 46 rfl rfl rfl [(39, some 22), (45, some 28)] (by kernel_rfl) (fun af wf hbw hf Kf hKf => ?_)
                        obtain ⟨g39, g45, _⟩ := hf
                        have h39 : af.tmps[39]?.getD undef = .bool true := g39
                        have h45 : af.tmps[45]?.getD undef = .bool true := g45
                        clear g39 g45
                        go_simp
                        exact hKf _ _ (Below.refl _ _) rfl
                      | 30, _ =>
                        refine StepOk.plain _ 47 rfl rfl rfl [(46, some 29)] (by kernel_rfl) (fun af wf hbw hf Kf hKf => ?_)
                        obtain ⟨g46, _⟩ := hf
                        have h46 : af.tmps[46]?.getD undef = .bool true := g46
                        clear g46
                        go_simp
                        exact hKf _ _ (Below.refl _ _) rfl
                      | 31, _ =>
                        refine StepOk.yes _ 48 rfl rfl rfl rfl (fun _ _ h => h) [(1, none)] (by kernel_rfl) (fun af wf hbw hf Kf hKf => ?_)
                        obtain ⟨g1, _⟩ := hf
                        have h1 : af.tmps[1]?.getD undef = .pointer (some ⟨w.heap.size, 0, none⟩) := g1
                        clear g1
                        go_simp
                        exact hKf _ _ (Below.refl _ _) rfl
                      | 32, _ =>
                        refine StepOk.yes _ 49 rfl rfl rfl rfl (fun _ _ h => h) [(48, some 31)] (by kernel_rfl) (fun af wf hbw hf Kf hKf => ?_)
                        obtain ⟨g48, _⟩ := hf
                        have h48 : af.tmps[48]?.getD undef = .pointer (some ⟨w.heap.size, 1, none⟩) := g48
                        clear g48
                        have cB0 := (Blk.on (Blk.drew (P0)) hbw).cell
                        go_simp
                        exact hKf _ _ (Below.refl _ _) rfl
                      | 33, _ =>
                        refine StepOk.yes _ 50 rfl rfl rfl rfl (fun _ _ h => h) [(49, some 32)] (by kernel_rfl) (fun af wf hbw hf Kf hKf => ?_)
                        obtain ⟨g49, _⟩ := hf
                        have h49 : af.tmps[49]?.getD undef = .bool false := g49
                        clear g49
                        go_simp
                        exact hKf _ _ (Below.refl _ _) rfl
                      | 34, _ =>
                        refine StepOk.yes _ 51 rfl rfl rfl rfl (fun _ _ h => h) [(50, some 33)] (by kernel_rfl) (fun af wf hbw hf Kf hKf => ?_)
                        obtain ⟨g50, _⟩ := hf
                        have h50 : af.tmps[50]?.getD undef = .bool true := g50
                        clear g50
                        go_simp
                        exact hKf _ _ (Below.refl _ _) rfl
                      | 35, _ => exact StepOk.no _ 52 rfl rfl rfl rfl (fun _ _ h => h) (by decide) (by kernel_rfl) (fun _ => rfl)
                      | 36, _ => exact StepOk.no _ 53 rfl rfl rfl rfl (fun _ _ h => h) (by decide) (by kernel_rfl) (fun _ => rfl)
                      | 37, _ => exact StepOk.no _ 54 rfl rfl rfl rfl (fun _ _ h => h) (by decide) (by kernel_rfl) (fun _ => rfl)
                      | 38, _ =>
                        refine StepOk.yes _ 55 rfl rfl rfl rfl (fun _ _ h => h) [(51, some 34), (54, some 37)] (by kernel_rfl) (fun af wf hbw hf Kf hKf => ?_)
                        obtain ⟨g51, g54, _⟩ := hf
                        have h51 : af.tmps[51]?.getD undef = .bool true := g51
                        have h54 : af.tmps[54]?.getD undef = undef := g54
                        clear g51 g54
                        go_simp
                        exact hKf _ _ (Below.refl _ _) rfl
                      | 39, _ =>
                        refine StepOk.plain _ 56 rfl rfl rfl [(47, some 30), (55, some 38)] (by kernel_rfl) (fun af wf hbw hf Kf hKf => ?_)
                        obtain ⟨g47, g55, _⟩ := hf
                        have h47 : af.tmps[47]?.getD undef = .bool true := g47
                        have h55 : af.tmps[55]?.getD undef = .bool true := g55
                        clear g47 g55
                        go_simp
                        exact hKf _ _ (Below.refl _ _) rfl
                      | 40, _ =>
                        refine StepOk.plain _ 57 rfl rfl rfl [(56, some 39)] (by kernel_rfl) (fun af wf hbw hf Kf hKf => ?_)
                        obtain ⟨g56, _⟩ := hf
                        have h56 : af.tmps[56]?.getD undef = .bool true := g56
                        clear g56
                        go_simp
                        exact hKf _ _ (Below.refl _ _) rfl
                      | 41, _ =>
                        refine StepOk.yes _ 58 rfl rfl rfl rfl (fun _ _ h => h) [(1, none)] (by kernel_rfl) (fun af wf hbw hf Kf hKf => ?_)
                        obtain ⟨g1, _⟩ := hf
                        have h1 : af.tmps[1]?.getD undef = .pointer (some ⟨w.heap.size, 0, none⟩) := g1
                        clear g1
                        go_simp
                        exact hKf _ _ (Below.refl _ _) rfl
                      | 42, _ =>
                        refine StepOk.yes _ 59 rfl rfl rfl rfl (fun _ _ h => h) [(58, some 41)] (by kernel_rfl) (fun af wf hbw hf Kf hKf => ?_)
                        obtain ⟨g58, _⟩ := hf
                        have h58 : af.tmps[58]?.getD undef = .pointer (some ⟨w.heap.size, 6, none⟩) := g58
                        clear g58
                        have cB0 := (Blk.on (Blk.drew (P0)) hbw).cell
                        go_simp
                        exact hKf _ _ (Below.refl _ _) rfl
                      | 43, _ =>
                        refine StepOk.yes _ 60 rfl rfl rfl rfl (fun _ _ h => h) [(59, some 42)] (by kernel_rfl) (fun af wf hbw hf Kf hKf => ?_)
                        obtain ⟨g59, _⟩ := hf
                        have h59 : af.tmps[59]?.getD undef = .slice A n c := g59
                        clear g59
                        go_simp
                        exact hKf _ _ (Below.refl _ _) rfl
                      | 44, _ =>
                        refine StepOk.yes _ 61 rfl rfl rfl rfl (fun _ _ h => h) [(60, some 43)] (by kernel_rfl) (fun af wf hbw hf Kf hKf => ?_)
                        obtain ⟨g60, _⟩ := hf
                        have h60 : af.tmps[60]?.getD undef = .int .i64 (n : Int) := g60
                        clear g60
                        have hq9 := hq0
                        go_simp
                        exact hKf _ _ (Below.refl _ _) rfl
                      | 45, _ =>
                        refine StepOk.yes _ 62 rfl rfl rfl rfl (fun _ _ h => h) [(61, some 44)] (by kernel_rfl) (fun af wf hbw hf Kf hKf => ?_)
                        obtain ⟨g61, _⟩ := hf
                        have h61 : af.tmps[61]?.getD undef = .bool false := g61
                        clear g61
                        go_simp
                        exact hKf _ _ (Below.refl _ _) rfl
                      | 46, _ =>
                        refine StepOk.yes _ 63 rfl rfl rfl rfl (fun _ _ h => h) [(1, none)] (by kernel_rfl) (fun af wf hbw hf Kf hKf => ?_)
                        obtain ⟨g1, _⟩ := hf
                        have h1 : af.tmps[1]?.getD undef = .pointer (some ⟨w.heap.size, 0, none⟩) := g1
                        clear g1
                        go_simp
                        exact hKf _ _ (Below.refl _ _) rfl
                      | 47, _ =>
                        refine StepOk.yes _ 64 rfl rfl rfl rfl (fun _ _ h => h) [(63, some 46)] (by kernel_rfl) (fun af wf hbw hf Kf hKf => ?_)
                        obtain ⟨g63, _⟩ := hf
                        have h63 : af.tmps[63]?.getD undef = .pointer (some ⟨w.heap.size, 0, none⟩) := g63
                        clear g63
                        have cB0 := (Blk.on (Blk.drew (P0)) hbw).cell
                        go_simp
                        exact hKf _ _ (Below.refl _ _) rfl
                      | 48, _ =>
                        refine StepOk.yes _ 65 rfl rfl rfl rfl (fun _ _ h => h) [(64, some 47)] (by kernel_rfl) (fun af wf hbw hf Kf hKf => ?_)
                        obtain ⟨g64, _⟩ := hf
                        have h64 : af.tmps[64]?.getD undef = .int .i64 f1 := g64
                        clear g64
                        go_simp
                        refine (has_any f1 98 c0 c1 _).mono ?_
                        rintro e wN ⟨rfl, rfl⟩
                        exact hKf _ _ (Below.refl _ _) (congrArg Value.bool HF.out.2.2.2.2.2)
                      | 49, _ =>
                        refine StepOk.yes _ 66 rfl rfl rfl rfl (fun _ _ h => h) [(62, some 45), (65, some 48)] (by kernel_rfl) (fun af wf hbw hf Kf hKf => ?_)
                        obtain ⟨g62, g65, _⟩ := hf
                        have h62 : af.tmps[62]?.getD undef = .bool false := g62
                        have h65 : af.tmps[65]?.getD undef = .bool B := g65
                        clear g62 g65
                        go_simp
                        exact hKf _ _ (Below.refl _ _) rfl
                      | 50, _ =>
                        refine StepOk.plain _ 67 rfl rfl rfl [(57, some 40), (66, some 49)] (by kernel_rfl) (fun af wf hbw hf Kf hKf => ?_)
                        obtain ⟨g57, g66, _⟩ := hf
                        have h57 : af.tmps[57]?.getD undef = .bool true := g57
                        have h66 : af.tmps[66]?.getD undef = .bool B := g66
                        clear g57 g66
                        go_simp
                        exact hKf _ _ (Below.refl _ _) rfl
                      | 51, _ =>
                        refine StepOk.plain _ 2 rfl rfl rfl [(67, some 50)] (by kernel_rfl) (fun af wf hbw hf Kf hKf => ?_)
                        obtain ⟨g67, _⟩ := hf
                        have h67 : af.tmps[67]?.getD undef = .bool B := g67
                        clear g67
                        go_simp
                        exact hKf _ _ (Below.refl _ _) rfl
                      | i + 52, h => exact absurd h (by show ¬ (i + 52 < 52); omega)
                    · intro af wF hbF hdF hsF hbaseF hfactF
                      obtain ⟨T, dsF⟩ := af
                      obtain rfl : dsF = _ := hdF
                      have e0 := hbaseF 0 (not_dst (by kernel_rfl))
                      simp only [List.getElem?_toArray, List.getElem?_cons_zero, Option.getD_some] at e0
                      have e1 := hbaseF 1 (not_dst (by kernel_rfl))
                      simp only [List.getElem?_toArray, List.getElem?_cons_zero, List.getElem?_cons_succ, Option.getD_some] at e1
                      have e3 := hbaseF 3 (not_dst (by kernel_rfl))
                      simp only [List.getElem?_toArray, List.getElem?_cons_zero, List.getElem?_cons_succ, Option.getD_some] at e3
                      have e4 := hbaseF 4 (not_dst (by kernel_rfl))
                      simp only [List.getElem?_toArray, List.getElem?_cons_zero, List.getElem?_cons_succ, Option.getD_some] at e4
                      have e5 := hbaseF 5 (not_dst (by kernel_rfl))
                      simp only [List.getElem?_toArray, List.getElem?_cons_zero, List.getElem?_cons_succ, Option.getD_some] at e5
                      have e6 := hbaseF 6 (not_dst (by kernel_rfl))
                      simp only [List.getElem?_toArray, List.getElem?_cons_zero, List.getElem?_cons_succ, Option.getD_some] at e6
                      have e7 := hbaseF 7 (not_dst (by kernel_rfl))
                      simp only [List.getElem?_toArray, List.getElem?_cons_zero, List.getElem?_cons_succ, Option.getD_some] at e7
                      have e8 := hbaseF 8 (not_dst (by kernel_rfl))
                      simp only [List.getElem?_toArray, List.getElem?_cons_zero, List.getElem?_cons_succ, Option.getD_some] at e8
                      have e9 := hbaseF 9 (not_dst (by kernel_rfl))
                      simp only [List.getElem?_toArray, List.getElem?_cons_zero, List.getElem?_cons_succ, Option.getD_some] at e9
                      have e10 := hbaseF 10 (not_dst (by kernel_rfl))
                      simp only [List.getElem?_toArray, List.getElem?_cons_zero, List.getElem?_cons_succ, Option.getD_some] at e10
                      have e11 := hbaseF 11 (not_dst (by kernel_rfl))
                      simp only [List.getElem?_toArray, List.getElem?_cons_zero, List.getElem?_cons_succ, Option.getD_some] at e11
                      have e12 := hbaseF 12 (not_dst (by kernel_rfl))
                      simp only [List.getElem?_toArray, List.getElem?_cons_zero, List.getElem?_cons_succ, Option.getD_some] at e12
                      have e13 := hbaseF 13 (not_dst (by kernel_rfl))
                      simp only [List.getElem?_toArray, List.getElem?_cons_zero, List.getElem?_cons_succ, Option.getD_some] at e13
                      have e14 := hbaseF 14 (not_dst (by kernel_rfl))
                      simp only [List.getElem?_toArray, List.getElem?_cons_zero, List.getElem?_cons_succ, Option.getD_some] at e14
                      have e15 := hbaseF 15 (not_dst (by kernel_rfl))
                      simp only [List.getElem?_toArray, List.getElem?_cons_zero, List.getElem?_cons_succ, Option.getD_some] at e15
                      have e16 := hbaseF 16 (not_dst (by kernel_rfl))
                      simp only [List.getElem?_toArray, List.getElem?_cons_zero, List.getElem?_cons_succ, Option.getD_some] at e16
                      have e2 := hfactF 51 2 (by decide) rfl
                      replace e2 : T[2]?.getD undef = .bool B := e2
                      clear hbaseF hfactF
                      have hT : T = #[T[0]?.getD undef, T[1]?.getD undef, T[2]?.getD undef, T[3]?.getD undef, T[4]?.getD undef, T[5]?.getD undef, T[6]?.getD undef, T[7]?.getD undef, T[8]?.getD undef, T[9]?.getD undef, T[10]?.getD undef, T[11]?.getD undef, T[12]?.getD undef, T[13]?.getD undef, T[14]?.getD undef, T[15]?.getD undef, T[16]?.getD undef, T[17]?.getD undef, T[18]?.getD undef, T[19]?.getD undef, T[20]?.getD undef, T[21]?.getD undef, T[22]?.getD undef, T[23]?.getD undef, T[24]?.getD undef, T[25]?.getD undef, T[26]?.getD undef, T[27]?.getD undef, T[28]?.getD undef, T[29]?.getD undef, T[30]?.getD undef, T[31]?.getD undef, T[32]?.getD undef, T[33]?.getD undef, T[34]?.getD undef, T[35]?.getD undef, T[36]?.getD undef, T[37]?.getD undef, T[38]?.getD undef, T[39]?.getD undef, T[40]?.getD undef, T[41]?.getD undef, T[42]?.getD undef, T[43]?.getD undef, T[44]?.getD undef, T[45]?.getD undef, T[46]?.getD undef, T[47]?.getD undef, T[48]?.getD undef, T[49]?.getD undef, T[50]?.getD undef, T[51]?.getD undef, T[52]?.getD undef, T[53]?.getD undef, T[54]?.getD undef, T[55]?.getD undef, T[56]?.getD undef, T[57]?.getD undef, T[58]?.getD undef, T[59]?.getD undef, T[60]?.getD undef, T[61]?.getD undef, T[62]?.getD undef, T[63]?.getD undef, T[64]?.getD undef, T[65]?.getD undef, T[66]?.getD undef, T[67]?.getD undef] := arr_eq T 68 hsF
                      clear hsF
                      rw [e0] at hT; clear e0
                      rw [e1] at hT; clear e1
                      rw [e2] at hT; clear e2
                      rw [e3] at hT; clear e3
                      rw [e4] at hT; clear e4
                      rw [e5] at hT; clear e5
                      rw [e6] at hT; clear e6
                      rw [e7] at hT; clear e7
                      rw [e8] at hT; clear e8
                      rw [e9] at hT; clear e9
                      rw [e10] at hT; clear e10
                      rw [e11] at hT; clear e11
                      rw [e12] at hT; clear e12
                      rw [e13] at hT; clear e13
                      rw [e14] at hT; clear e14
                      rw [e15] at hT; clear e15
                      rw [e16] at hT; clear e16
                      generalize T[17]?.getD undef = u17 at hT
                      generalize T[18]?.getD undef = u18 at hT
                      generalize T[19]?.getD undef = u19 at hT
                      generalize T[20]?.getD undef = u20 at hT
                      generalize T[21]?.getD undef = u21 at hT
                      generalize T[22]?.getD undef = u22 at hT
                      generalize T[23]?.getD undef = u23 at hT
                      generalize T[24]?.getD undef = u24 at hT
                      generalize T[25]?.getD undef = u25 at hT
                      generalize T[26]?.getD undef = u26 at hT
                      generalize T[27]?.getD undef = u27 at hT
                      generalize T[28]?.getD undef = u28 at hT
                      generalize T[29]?.getD undef = u29 at hT
                      generalize T[30]?.getD undef = u30 at hT
                      generalize T[31]?.getD undef = u31 at hT
                      generalize T[32]?.getD undef = u32 at hT
                      generalize T[33]?.getD undef = u33 at hT
                      generalize T[34]?.getD undef = u34 at hT
                      generalize T[35]?.getD undef = u35 at hT
                      generalize T[36]?.getD undef = u36 at hT
                      generalize T[37]?.getD undef = u37 at hT
                      generalize T[38]?.getD undef = u38 at hT
                      generalize T[39]?.getD undef = u39 at hT
                      generalize T[40]?.getD undef = u40 at hT
                      generalize T[41]?.getD undef = u41 at hT
                      generalize T[42]?.getD undef = u42 at hT
                      generalize T[43]?.getD undef = u43 at hT
                      generalize T[44]?.getD undef = u44 at hT
                      generalize T[45]?.getD undef = u45 at hT
                      generalize T[46]?.getD undef = u46 at hT
                      generalize T[47]?.getD undef = u47 at hT
                      generalize T[48]?.getD undef = u48 at hT
                      generalize T[49]?.getD undef = u49 at hT
                      generalize T[50]?.getD undef = u50 at hT
                      generalize T[51]?.getD undef = u51 at hT
                      generalize T[52]?.getD undef = u52 at hT
                      generalize T[53]?.getD undef = u53 at hT
                      generalize T[54]?.getD undef = u54 at hT
                      generalize T[55]?.getD undef = u55 at hT
                      generalize T[56]?.getD undef = u56 at hT
                      generalize T[57]?.getD undef = u57 at hT
                      generalize T[58]?.getD undef = u58 at hT
                      generalize T[59]?.getD undef = u59 at hT
                      generalize T[60]?.getD undef = u60 at hT
                      generalize T[61]?.getD undef = u61 at hT
                      generalize T[62]?.getD undef = u62 at hT
                      generalize T[63]?.getD undef = u63 at hT
                      generalize T[64]?.getD undef = u64 at hT
                      generalize T[65]?.getD undef = u65 at hT
                      generalize T[66]?.getD undef = u66 at hT
                      generalize T[67]?.getD undef = u67 at hT
                      subst hT
                      go_wp2_with fail
                      go_ret
                      exact ⟨by rw [hr.out]; rfl, (by (have q_hbF := Below.size hbF; (try simp at q_hbF); repeat (first | exact Below.refl _ _ | (refine Below.trans ?_ (Below.mono hbF (by first | omega | (simp; omega) | simp))) | (refine Below.setCell ?_ (by first | omega | (simp; omega) | simp) _) | (refine Below.alloc ?_ (by first | omega | (simp; omega) | simp) _) | apply Below.drew | apply below_drewN)))⟩
                | true =>
                  cases Y with
                  | false =>
                    go_enter Try.func14, Try.ntmps14
                    go_wp2_with fail
                    refine wp_flows [(fun y_ _ => y_ = .pointer (some ⟨w.heap.size, 2, none⟩)), (fun y_ _ => y_ = .int .i64 f3), (fun y_ _ => y_ = .pointer (some ⟨w.heap.size, 0, none⟩)), (fun y_ _ => y_ = .int .i64 f1), (fun y_ _ => y_ = .bool W), (fun y_ _ => y_ = .bool true), (fun y_ _ => y_ = .bool true), (fun y_ _ => y_ = .pointer (some ⟨w.heap.size, 3, none⟩)), (fun y_ _ => y_ = .int .i64 f4), (fun y_ _ => y_ = .pointer (some ⟨w.heap.size, 0, none⟩)), (fun y_ _ => y_ = .int .i64 f1), (fun y_ _ => y_ = .bool K), (fun y_ _ => y_ = .bool true), (fun y_ _ => y_ = .bool true), (fun y_ _ => y_ = .bool true), (fun y_ _ => y_ = .pointer (some ⟨w.heap.size, 4, none⟩)), (fun y_ _ => y_ = .int .i64 f5), (fun y_ _ => y_ = .pointer (some ⟨w.heap.size, 0, none⟩)), (fun y_ _ => y_ = .int .i64 f1), (fun y_ _ => y_ = .bool N), (fun y_ _ => y_ = .bool true), (fun y_ _ => y_ = .bool true), (fun y_ _ => y_ = .bool true), (fun y_ _ => y_ = .pointer (some ⟨w.heap.size, 5, none⟩)), (fun y_ _ => y_ = .int .i64 f6), (fun y_ _ => y_ = .pointer (some ⟨w.heap.size, 0, none⟩)), (fun y_ _ => y_ = .int .i64 f1), (fun y_ _ => y_ = .bool Q), (fun y_ _ => y_ = .bool true), (fun y_ _ => y_ = .bool true), (fun y_ _ => y_ = .bool true), (fun y_ _ => y_ = .pointer (some ⟨w.heap.size, 1, none⟩)), (fun y_ _ => y_ = .bool true), (fun y_ _ => y_ = .bool false), (fun y_ _ => y_ = .bool false), (fun y_ _ => y_ = .pointer (some ⟨w.heap.size, 0, none⟩)), (fun y_ _ => y_ = .int .i64 f1), (fun y_ _ => y_ = .bool false), (fun y_ _ => y_ = .bool false), (fun y_ _ => y_ = .bool false), (fun y_ _ => y_ = .bool false), (fun y_ _ => y_ = undef), (fun y_ _ => y_ = undef), (fun y_ _ => y_ = undef), (fun y_ _ => y_ = undef), (fun y_ _ => y_ = undef), (fun y_ _ => y_ = undef), (fun y_ _ => y_ = undef), (fun y_ _ => y_ = undef), (fun y_ _ => y_ = undef), (fun y_ _ => y_ = .bool false), (fun y_ _ => y_ = .bool false)] (by kernel_rfl) ⟨Stab.eq _, Stab.eq _, Stab.eq _, Stab.eq _, Stab.eq _, Stab.eq _, Stab.eq _, Stab.eq _, Stab.eq _, Stab.eq _, Stab.eq _, Stab.eq _, Stab.eq _, Stab.eq _, Stab.eq _, Stab.eq _, Stab.eq _, Stab.eq _, Stab.eq _, Stab.eq _, Stab.eq _, Stab.eq _, Stab.eq _, Stab.eq _, Stab.eq _, Stab.eq _, Stab.eq _, Stab.eq _, Stab.eq _, Stab.eq _, Stab.eq _, Stab.eq _, Stab.eq _, Stab.eq _, Stab.eq _, Stab.eq _, Stab.eq _, Stab.eq _, Stab.eq _, Stab.eq _, Stab.eq _, Stab.eq _, Stab.eq _, Stab.eq _, Stab.eq _, Stab.eq _, Stab.eq _, Stab.eq _, Stab.eq _, Stab.eq _, Stab.eq _, Stab.eq _, trivial⟩ (by kernel_rfl) (by rfl) ?_ ?_
                    · intro kq hkq
                      match kq, hkq with
                      | 0, _ =>
                        refine StepOk.plain _ 17 rfl rfl rfl [(1, none)] (by kernel_rfl) (fun af wf hbw hf Kf hKf => ?_)
                        obtain ⟨g1, _⟩ := hf
                        have h1 : af.tmps[1]?.getD undef = .pointer (some ⟨w.heap.size, 0, none⟩) := g1
                        clear g1
                        go_simp
                        exact hKf _ _ (Below.refl _ _) rfl
                      | 1, _ =>
                        refine StepOk.plain _ 18 rfl rfl rfl [(17, some 0)] (by kernel_rfl) (fun af wf hbw hf Kf hKf => ?_)
                        obtain ⟨g17, _⟩ := hf
                        have h17 : af.tmps[17]?.getD undef = .pointer (some ⟨w.heap.size, 2, none⟩) := g17
                        clear g17
                        have cB0 := (Blk.on (Blk.drew (P0)) hbw).cell
                        go_simp
                        exact hKf _ _ (Below.refl _ _) rfl
                      | 2, _ =>
                        refine StepOk.plain _ 19 rfl rfl rfl [(1, none)] (by kernel_rfl) (fun af wf hbw hf Kf hKf => ?_)
                        obtain ⟨g1, _⟩ := hf
                        have h1 : af.tmps[1]?.getD undef = .pointer (some ⟨w.heap.size, 0, none⟩) := g1
                        clear g1
                        go_simp
                        exact hKf _ _ (Below.refl _ _) rfl
                      | 3, _ =>
                        refine StepOk.plain _ 20 rfl rfl rfl [(19, some 2)] (by kernel_rfl) (fun af wf hbw hf Kf hKf => ?_)
                        obtain ⟨g19, _⟩ := hf
                        have h19 : af.tmps[19]?.getD undef = .pointer (some ⟨w.heap.size, 0, none⟩) := g19
                        clear g19
                        have cB0 := (Blk.on (Blk.drew (P0)) hbw).cell
                        go_simp
                        exact hKf _ _ (Below.refl _ _) rfl
                      | 4, _ =>
                        refine StepOk.plain _ 21 rfl rfl rfl [(20, some 3)] (by kernel_rfl) (fun af wf hbw hf Kf hKf => ?_)
                        obtain ⟨g20, _⟩ := hf
                        have h20 : af.tmps[20]?.getD undef = .int .i64 f1 := g20
                        clear g20
                        go_simp
                        refine (has_any f1 119 c0 c1 _).mono ?_
                        rintro e wN ⟨rfl, rfl⟩
                        exact hKf _ _ (Below.refl _ _) (congrArg Value.bool HF.out.1)
                      | 5, _ =>
                        refine StepOk.plain _ 22 rfl rfl rfl [(18, some 1), (21, some 4)] (by kernel_rfl) (fun af wf hbw hf Kf hKf => ?_)
                        obtain ⟨g18, g21, _⟩ := hf
                        have h18 : af.tmps[18]?.getD undef = .int .i64 f3 := g18
                        have h21 : af.tmps[21]?.getD undef = .bool W := g21
                        clear g18 g21
                        go_simp
                        refine (rnum_any f3 W _).mono ?_
                        rintro e wN ⟨rfl, rfl⟩
                        exact hKf _ _ (Below.refl _ _) (congrArg Value.bool g0.out)
                      | 6, _ =>
                        refine StepOk.plain _ 23 rfl rfl rfl [(22, some 5)] (by kernel_rfl) (fun af wf hbw hf Kf hKf => ?_)
                        obtain ⟨g22, _⟩ := hf
                        have h22 : af.tmps[22]?.getD undef = .bool true := g22
                        clear g22
                        go_simp
                        exact hKf _ _ (Below.refl _ _) rfl
                      | 7, _ =>
                        refine StepOk.yes _ 24 rfl rfl rfl rfl (fun _ _ h => h) [(1, none)] (by kernel_rfl) (fun af wf hbw hf Kf hKf => ?_)
                        obtain ⟨g1, _⟩ := hf
                        have h1 : af.tmps[1]?.getD undef = .pointer (some ⟨w.heap.size, 0, none⟩) := g1
                        clear g1
                        go_simp
                        exact hKf _ _ (Below.refl _ _) rfl
                      | 8, _ =>
                        refine StepOk.yes _ 25 rfl rfl rfl rfl (fun _ _ h => h) [(24, some 7)] (by kernel_rfl) (fun af wf hbw hf Kf hKf => ?_)
                        obtain ⟨g24, _⟩ := hf
                        have h24 : af.tmps[24]?.getD undef = .pointer (some ⟨w.heap.size, 3, none⟩) := g24
                        clear g24
                        have cB0 := (Blk.on (Blk.drew (P0)) hbw).cell
                        go_simp
                        exact hKf _ _ (Below.refl _ _) rfl
                      | 9, _ =>
                        refine StepOk.yes _ 26 rfl rfl rfl rfl (fun _ _ h => h) [(1, none)] (by kernel_rfl) (fun af wf hbw hf Kf hKf => ?_)
                        obtain ⟨g1, _⟩ := hf
                        have h1 : af.tmps[1]?.getD undef = .pointer (some ⟨w.heap.size, 0, none⟩) := g1
                        clear g1
                        go_simp
                        exact hKf _ _ (Below.refl _ _) rfl
                      | 10, _ =>
                        refine StepOk.yes _ 27 rfl rfl rfl rfl (fun _ _ h => h) [(26, some 9)] (by kernel_rfl) (fun af wf hbw hf Kf hKf => ?_)
                        obtain ⟨g26, _⟩ := hf
                        have h26 : af.tmps[26]?.getD undef = .pointer (some ⟨w.heap.size, 0, none⟩) := g26
                        clear g26
                        have cB0 := (Blk.on (Blk.drew (P0)) hbw).cell
                        go_simp
                        exact hKf _ _ (Below.refl _ _) rfl
                      | 11, _ =>
                        refine StepOk.yes _ 28 rfl rfl rfl rfl (fun _ _ h => h) [(27, some 10)] (by kernel_rfl) (fun af wf hbw hf Kf hKf => ?_)
                        obtain ⟨g27, _⟩ := hf
                        have h27 : af.tmps[27]?.getD undef = .int .i64 f1 := g27
                        clear g27
                        go_simp
                        refine (has_any f1 107 c0 c1 _).mono ?_
                        rintro e wN ⟨rfl, rfl⟩
                        exact hKf _ _ (Below.refl _ _) (congrArg Value.bool HF.out.2.1)
                      | 12, _ =>
                        refine StepOk.yes _ 29 rfl rfl rfl rfl (fun _ _ h => h) [(25, some 8), (28, some 11)] (by kernel_rfl) (fun af wf hbw hf Kf hKf => ?_)
                        obtain ⟨g25, g28, _⟩ := hf
                        have h25 : af.tmps[25]?.getD undef = .int .i64 f4 := g25
                        have h28 : af.tmps[28]?.getD undef = .bool K := g28
                        clear g25 g28
                        go_simp
                        refine (rnum_any f4 K _).mono ?_
                        rintro e wN ⟨rfl, rfl⟩
                        exact hKf _ _ (Below.refl _ _) (congrArg Value.bool g1.out)
                      | 13, _ =>
                        refine StepOk.plain _ 30 rfl rfl rfl [(23, some 6), (29, some 12)] (by kernel_rfl) (fun af wf hbw hf Kf hKf => ?_)
                        obtain ⟨g23, g29, _⟩ := hf
                        have h23 : af.tmps[23]?.getD undef = .bool true := g23
                        have h29 : af.tmps[29]?.getD undef = .bool true := g29
                        clear g23 g29
                        go_simp
                        exact hKf _ _ (Below.refl _ _) rfl
                      | 14, _ =>
                        refine StepOk.plain _ 31 rfl rfl rfl [(30, some 13)] (by kernel_rfl) (fun af wf hbw hf Kf hKf => ?_)
                        obtain ⟨g30, _⟩ := hf
                        have h30 : af.tmps[30]?.getD undef = .bool true := g30
                        clear g30
                        go_simp
                        exact hKf _ _ (Below.refl _ _) rfl
                      | 15, _ =>
                        refine StepOk.yes _ 32 rfl rfl rfl rfl (fun _ _ h => h) [(1, none)] (by kernel_rfl) (fun af wf hbw hf Kf hKf => ?_)
                        obtain ⟨g1, _⟩ := hf
                        have h1 : af.tmps[1]?.getD undef = .pointer (some ⟨w.heap.size, 0, none⟩) := g1
                        clear g1
                        go_simp
                        exact hKf _ _ (Below.refl _ _) rfl
                      | 16, _ =>
                        refine StepOk.yes _ 33 rfl rfl rfl rfl (fun _ _ h => h) [(32, some 15)] (by kernel_rfl) (fun af wf hbw hf Kf hKf => ?_)
                        obtain ⟨g32, _⟩ := hf
                        have h32 : af.tmps[32]?.getD undef = .pointer (some ⟨w.heap.size, 4, none⟩) := g32
                        clear g32
                        have cB0 := (Blk.on (Blk.drew (P0)) hbw).cell
                        go_simp
                        exact hKf _ _ (Below.refl _ _) rfl
                      | 17, _ =>
                        refine StepOk.yes _ 34 rfl rfl rfl rfl (fun _ _ h => h) [(1, none)] (by kernel_rfl) (fun af wf hbw hf Kf hKf => ?_)
                        obtain ⟨g1, _⟩ := hf
                        have h1 : af.tmps[1]?.getD undef = .pointer (some ⟨w.heap.size, 0, none⟩) := g1
                        clear g1
                        go_simp
                        exact hKf _ _ (Below.refl _ _) rfl
                      | 18, _ =>
                        refine StepOk.yes _ 35 rfl rfl rfl rfl (fun _ _ h => h) [(34, some 17)] (by kernel_rfl) (fun af wf hbw hf Kf hKf => ?_)
                        obtain ⟨g34, _⟩ := hf
                        have h34 : af.tmps[34]?.getD undef = .pointer (some ⟨w.heap.size, 0, none⟩) := g34
                        clear g34
                        have cB0 := (Blk.on (Blk.drew (P0)) hbw).cell
                        go_simp
                        exact hKf _ _ (Below.refl _ _) rfl
                      | 19, _ =>
                        refine StepOk.yes _ 36 rfl rfl rfl rfl (fun _ _ h => h) [(35, some 18)] (by kernel_rfl) (fun af wf hbw hf Kf hKf => ?_)
                        obtain ⟨g35, _⟩ := hf
                        have h35 : af.tmps[35]?.getD undef = .int .i64 f1 := g35
                        clear g35
                        go_simp
                        refine (has_any f1 110 c0 c1 _).mono ?_
                        rintro e wN ⟨rfl, rfl⟩
                        exact hKf _ _ (Below.refl _ _) (congrArg Value.bool HF.out.2.2.1)
                      | 20, _ =>
                        refine StepOk.yes _ 37 rfl rfl rfl rfl (fun _ _ h => h) [(33, some 16), (36, some 19)] (by kernel_rfl) (fun af wf hbw hf Kf hKf => ?_)
                        obtain ⟨g33, g36, _⟩ := hf
                        have h33 : af.tmps[33]?.getD undef = .int .i64 f5 := g33
                        have h36 : af.tmps[36]?.getD undef = .bool N := g36
                        clear g33 g36
                        go_simp
                        refine (rnum_any f5 N _).mono ?_
                        rintro e wN ⟨rfl, rfl⟩
                        exact hKf _ _ (Below.refl _ _) (congrArg Value.bool g2.out)
                      | 21, _ =>
                        refine StepOk.plain _ 38 rfl rfl rfl [(31, some 14), (37, some 20)] (by kernel_rfl) (fun af wf hbw hf Kf hKf => ?_)
                        obtain ⟨g31, g37, _⟩ := hf
                        have h31 : af.tmps[31]?.getD undef = .bool true := g31
                        have h37 : af.tmps[37]?.getD undef = .bool true := g37
                        clear g31 g37
                        go_simp
                        exact hKf _ _ (Below.refl _ _) rfl
                      | 22, _ =>
                        refine StepOk.plain _ 39 rfl rfl rfl [(38, some 21)] (by kernel_rfl) (fun af wf hbw hf Kf hKf => ?_)
                        obtain ⟨g38, _⟩ := hf
                        have h38 : af.tmps[38]?.getD undef = .bool true := g38
                        clear g38
                        go_simp
                        exact hKf _ _ (Below.refl _ _) rfl
                      | 23, _ =>
                        refine StepOk.yes _ 40 rfl rfl rfl rfl (fun _ _ h => h) [(1, none)] (by kernel_rfl) (fun af wf hbw hf Kf hKf => ?_)
                        obtain ⟨g1, _⟩ := hf
                        have h1 : af.tmps[1]?.getD undef = .pointer (some ⟨w.heap.size, 0, none⟩) := g1
                        clear g1
                        go_simp
                        exact hKf _ _ (Below.refl _ _) rfl
                      | 24, _ =>
                        refine StepOk.yes _ 41 rfl rfl rfl rfl (fun _ _ h => h) [(40, some 23)] (by kernel_rfl) (fun af wf hbw hf Kf hKf => ?_)
                        obtain ⟨g40, _⟩ := hf
                        have h40 : af.tmps[40]?.getD undef = .pointer (some ⟨w.heap.size, 5, none⟩) := g40
                        clear g40
                        have cB0 := (Blk.on (Blk.drew (P0)) hbw).cell
                        go_simp
                        exact hKf _ _ (Below.refl _ _) rfl
                      | 25, _ =>
                        refine StepOk.yes _ 42 rfl rfl rfl rfl (fun _ _ h => h) [(1, none)] (by kernel_rfl) (fun af wf hbw hf Kf hKf => ?_)
                        obtain ⟨g1, _⟩ := hf
                        have h1 : af.tmps[1]?.getD undef = .pointer (some ⟨w.heap.size, 0, none⟩) := g1
                        clear g1
                        go_simp
                        exact hKf _ _ (Below.refl _ _) rfl
                      | 26, _ =>
                        refine StepOk.yes _ 43 rfl rfl rfl rfl (fun _ _ h => h) [(42, some 25)] (by kernel_rfl) (fun af wf hbw hf Kf hKf => ?_)
                        obtain ⟨g42, _⟩ := hf
                        have h42 : af.tmps[42]?.getD undef = .pointer (some ⟨w.heap.size, 0, none⟩) := g42
                        clear g42
                        have cB0 := (Blk.on (Blk.drew (P0)) hbw).cell
                        go_simp
                        exact hKf _ _ (Below.refl _ _) rfl
                      | 27, _ =>
                        refine StepOk.yes _ 44 rfl rfl rfl rfl (fun _ _ h => h) [(43, some 26)] (by kernel_rfl) (fun af wf hbw hf Kf hKf => ?_)
                        obtain ⟨g43, _⟩ := hf
                        have h43 : af.tmps[43]?.getD undef = .int .i64 f1 := g43
                        clear g43
                        go_simp
                        refine (has_any f1 97 c0 c1 _).mono ?_
                        rintro e wN ⟨rfl, rfl⟩
                        exact hKf _ _ (Below.refl _ _) (congrArg Value.bool HF.out.2.2.2.1)
                      | 28, _ =>
                        refine StepOk.yes _ 45 rfl rfl rfl rfl (fun _ _ h => h) [(41, some 24), (44, some 27)] (by kernel_rfl) (fun af wf hbw hf Kf hKf => ?_)
                        obtain ⟨g41, g44, _⟩ := hf
                        have h41 : af.tmps[41]?.getD undef = .int .i64 f6 := g41
                        have h44 : af.tmps[44]?.getD undef = .bool Q := g44
                        clear g41 g44
                        go_simp
                        refine (rnum_any f6 Q _).mono ?_
                        rintro e wN ⟨rfl, rfl⟩
                        exact hKf _ _ (Below.refl _ _) (congrArg Value.bool g3.out)
                      | 29, _ =>
                        refine StepOk.plain _ 46 rfl rfl rfl [(39, some 22), (45, some 28)] (by kernel_rfl) (fun af wf hbw hf Kf hKf => ?_)
                        obtain ⟨g39, g45, _⟩ := hf
                        have h39 : af.tmps[39]?.getD undef = .bool true := g39
                        have h45 : af.tmps[45]?.getD undef = .bool true := g45
                        clear g39 g45
                        go_simp
                        exact hKf _ _ (Below.refl _ _) rfl
                      | 30, _ =>
                        refine StepOk.plain _ 47 rfl rfl rfl [(46, some 29)] (by kernel_rfl) (fun af wf hbw hf Kf hKf => ?_)
                        obtain ⟨g46, _⟩ := hf
                        have h46 : af.tmps[46]?.getD undef = .bool true := g46
                        clear g46
                        go_simp
                        exact hKf _ _ (Below.refl _ _) rfl
                      | 31, _ =>
                        refine StepOk.yes _ 48 rfl rfl rfl rfl (fun _ _ h => h) [(1, none)] (by kernel_rfl) (fun af wf hbw hf Kf hKf => ?_)
                        obtain ⟨g1, _⟩ := hf
                        have h1 : af.tmps[1]?.getD undef = .pointer (some ⟨w.heap.size, 0, none⟩) := g1
                        clear g1
                        go_simp
                        exact hKf _ _ (Below.refl _ _) rfl
                      | 32, _ =>
                        refine StepOk.yes _ 49 rfl rfl rfl rfl (fun _ _ h => h) [(48, some 31)] (by kernel_rfl) (fun af wf hbw hf Kf hKf => ?_)
                        obtain ⟨g48, _⟩ := hf
                        have h48 : af.tmps[48]?.getD undef = .pointer (some ⟨w.heap.size, 1, none⟩) := g48
                        clear g48
                        have cB0 := (Blk.on (Blk.drew (P0)) hbw).cell
                        go_simp
                        exact hKf _ _ (Below.refl _ _) rfl
                      | 33, _ =>
                        refine StepOk.yes _ 50 rfl rfl rfl rfl (fun _ _ h => h) [(49, some 32)] (by kernel_rfl) (fun af wf hbw hf Kf hKf => ?_)
                        obtain ⟨g49, _⟩ := hf
                        have h49 : af.tmps[49]?.getD undef = .bool true := g49
                        clear g49
                        go_simp
                        exact hKf _ _ (Below.refl _ _) rfl
                      | 34, _ =>
                        refine StepOk.yes _ 51 rfl rfl rfl rfl (fun _ _ h => h) [(50, some 33)] (by kernel_rfl) (fun af wf hbw hf Kf hKf => ?_)
                        obtain ⟨g50, _⟩ := hf
                        have h50 : af.tmps[50]?.getD undef = .bool false := g50
                        clear g50
                        go_simp
                        exact hKf _ _ (Below.refl _ _) rfl
                      | 35, _ =>
                        refine StepOk.yes _ 52 rfl rfl rfl rfl (fun _ _ h => h) [(1, none)] (by kernel_rfl) (fun af wf hbw hf Kf hKf => ?_)
                        obtain ⟨g1, _⟩ := hf
                        have h1 : af.tmps[1]?.getD undef = .pointer (some ⟨w.heap.size, 0, none⟩) := g1
                        clear g1
                        go_simp
                        exact hKf _ _ (Below.refl _ _) rfl
                      | 36, _ =>
                        refine StepOk.yes _ 53 rfl rfl rfl rfl (fun _ _ h => h) [(52, some 35)] (by kernel_rfl) (fun af wf hbw hf Kf hKf => ?_)
                        obtain ⟨g52, _⟩ := hf
                        have h52 : af.tmps[52]?.getD undef = .pointer (some ⟨w.heap.size, 0, none⟩) := g52
                        clear g52
                        have cB0 := (Blk.on (Blk.drew (P0)) hbw).cell
                        go_simp
                        exact hKf _ _ (Below.refl _ _) rfl
                      | 37, _ =>
                        refine StepOk.yes _ 54 rfl rfl rfl rfl (fun _ _ h => h) [(53, some 36)] (by kernel_rfl) (fun af wf hbw hf Kf hKf => ?_)
                        obtain ⟨g53, _⟩ := hf
                        have h53 : af.tmps[53]?.getD undef = .int .i64 f1 := g53
                        clear g53
                        go_simp
                        refine (has_any f1 121 c0 c1 _).mono ?_
                        rintro e wN ⟨rfl, rfl⟩
                        exact hKf _ _ (Below.refl _ _) (congrArg Value.bool HF.out.2.2.2.2.1)
                      | 38, _ =>
                        refine StepOk.yes _ 55 rfl rfl rfl rfl (fun _ _ h => h) [(51, some 34), (54, some 37)] (by kernel_rfl) (fun af wf hbw hf Kf hKf => ?_)
                        obtain ⟨g51, g54, _⟩ := hf
                        have h51 : af.tmps[51]?.getD undef = .bool false := g51
                        have h54 : af.tmps[54]?.getD undef = .bool false := g54
                        clear g51 g54
                        go_simp
                        exact hKf _ _ (Below.refl _ _) rfl
                      | 39, _ =>
                        refine StepOk.plain _ 56 rfl rfl rfl [(47, some 30), (55, some 38)] (by kernel_rfl) (fun af wf hbw hf Kf hKf => ?_)
                        obtain ⟨g47, g55, _⟩ := hf
                        have h47 : af.tmps[47]?.getD undef = .bool true := g47
                        have h55 : af.tmps[55]?.getD undef = .bool false := g55
                        clear g47 g55
                        go_simp
                        exact hKf _ _ (Below.refl _ _) rfl
                      | 40, _ =>
                        refine StepOk.plain _ 57 rfl rfl rfl [(56, some 39)] (by kernel_rfl) (fun af wf hbw hf Kf hKf => ?_)
                        obtain ⟨g56, _⟩ := hf
                        have h56 : af.tmps[56]?.getD undef = .bool false := g56
                        clear g56
                        go_simp
                        exact hKf _ _ (Below.refl _ _) rfl
                      | 41, _ => exact StepOk.no _ 58 rfl rfl rfl rfl (fun _ _ h => h) (by decide) (by kernel_rfl) (fun _ => rfl)
                      | 42, _ => exact StepOk.no _ 59 rfl rfl rfl rfl (fun _ _ h => h) (by decide) (by kernel_rfl) (fun _ => rfl)
                      | 43, _ => exact StepOk.no _ 60 rfl rfl rfl rfl (fun _ _ h => h) (by decide) (by kernel_rfl) (fun _ => rfl)
                      | 44, _ => exact StepOk.no _ 61 rfl rfl rfl rfl (fun _ _ h => h) (by decide) (by kernel_rfl) (fun _ => rfl)
                      | 45, _ => exact StepOk.no _ 62 rfl rfl rfl rfl (fun _ _ h => h) (by decide) (by kernel_rfl) (fun _ => rfl)
                      | 46, _ => exact StepOk.nou _ 63 rfl rfl rfl rfl (fun _ _ h => h) (by kernel_rfl) (fun _ => rfl)
                      | 47, _ => exact StepOk.nou _ 64 rfl rfl rfl rfl (fun _ _ h => h) (by kernel_rfl) (fun _ => rfl)
                      | 48, _ => exact StepOk.nou _ 65 rfl rfl rfl rfl (fun _ _ h => h) (by kernel_rfl) (fun _ => rfl)
                      | 49, _ => exact StepOk.no _ 66 rfl rfl rfl rfl (fun _ _ h => h) (by decide) (by kernel_rfl) (fun _ => rfl)
                      | 50, _ =>
                        refine StepOk.plain _ 67 rfl rfl rfl [(57, some 40), (66, some 49)] (by kernel_rfl) (fun af wf hbw hf Kf hKf => ?_)
                        obtain ⟨g57, g66, _⟩ := hf
                        have h57 : af.tmps[57]?.getD undef = .bool false := g57
                        have h66 : af.tmps[66]?.getD undef = undef := g66
                        clear g57 g66
                        go_simp
                        exact hKf _ _ (Below.refl _ _) rfl
                      | 51, _ =>
                        refine StepOk.plain _ 2 rfl rfl rfl [(67, some 50)] (by kernel_rfl) (fun af wf hbw hf Kf hKf => ?_)
                        obtain ⟨g67, _⟩ := hf
                        have h67 : af.tmps[67]?.getD undef = .bool false := g67
                        clear g67
                        go_simp
                        exact hKf _ _ (Below.refl _ _) rfl
                      | i + 52, h => exact absurd h (by show ¬ (i + 52 < 52); omega)
                    · intro af wF hbF hdF hsF hbaseF hfactF
                      obtain ⟨T, dsF⟩ := af
                      obtain rfl : dsF = _ := hdF
                      have e0 := hbaseF 0 (not_dst (by kernel_rfl))
                      simp only [List.getElem?_toArray, List.getElem?_cons_zero, Option.getD_some] at e0
                      have e1 := hbaseF 1 (not_dst (by kernel_rfl))
                      simp only [List.getElem?_toArray, List.getElem?_cons_zero, List.getElem?_cons_succ, Option.getD_some] at e1
                      have e3 := hbaseF 3 (not_dst (by kernel_rfl))
                      simp only [List.getElem?_toArray, List.getElem?_cons_zero, List.getElem?_cons_succ, Option.getD_some] at e3
                      have e4 := hbaseF 4 (not_dst (by kernel_rfl))
                      simp only [List.getElem?_toArray, List.getElem?_cons_zero, List.getElem?_cons_succ, Option.getD_some] at e4
                      have e5 := hbaseF 5 (not_dst (by kernel_rfl))
                      simp only [List.getElem?_toArray, List.getElem?_cons_zero, List.getElem?_cons_succ, Option.getD_some] at e5
                      have e6 := hbaseF 6 (not_dst (by kernel_rfl))
                      simp only [List.getElem?_toArray, List.getElem?_cons_zero, List.getElem?_cons_succ, Option.getD_some] at e6
                      have e7 := hbaseF 7 (not_dst (by kernel_rfl))
                      simp only [List.getElem?_toArray, List.getElem?_cons_zero, List.getElem?_cons_succ, Option.getD_some] at e7
                      have e8 := hbaseF 8 (not_dst (by kernel_rfl))
                      simp only [List.getElem?_toArray, List.getElem?_cons_zero, List.getElem?_cons_succ, Option.getD_some] at e8
                      have e9 := hbaseF 9 (not_dst (by kernel_rfl))
                      simp only [List.getElem?_toArray, List.getElem?_cons_zero, List.getElem?_cons_succ, Option.getD_some] at e9
                      have e10 := hbaseF 10 (not_dst (by kernel_rfl))
                      simp only [List.getElem?_toArray, List.getElem?_cons_zero, List.getElem?_cons_succ, Option.getD_some] at e10
                      have e11 := hbaseF 11 (not_dst (by kernel_rfl))
                      simp only [List.getElem?_toArray, List.getElem?_cons_zero, List.getElem?_cons_succ, Option.getD_some] at e11
                      have e12 := hbaseF 12 (not_dst (by kernel_rfl))
                      simp only [List.getElem?_toArray, List.getElem?_cons_zero, List.getElem?_cons_succ, Option.getD_some] at e12
                      have e13 := hbaseF 13 (not_dst (by kernel_rfl))
                      simp only [List.getElem?_toArray, List.getElem?_cons_zero, List.getElem?_cons_succ, Option.getD_some] at e13
                      have e14 := hbaseF 14 (not_dst (by kernel_rfl))
                      simp only [List.getElem?_toArray, List.getElem?_cons_zero, List.getElem?_cons_succ, Option.getD_some] at e14
                      have e15 := hbaseF 15 (not_dst (by kernel_rfl))
                      simp only [List.getElem?_toArray, List.getElem?_cons_zero, List.getElem?_cons_succ, Option.getD_some] at e15
                      have e16 := hbaseF 16 (not_dst (by kernel_rfl))
                      simp only [List.getElem?_toArray, List.getElem?_cons_zero, List.getElem?_cons_succ, Option.getD_some] at e16
                      have e2 := hfactF 51 2 (by decide) rfl
                      replace e2 : T[2]?.getD undef = .bool false := e2
                      clear hbaseF hfactF
                      have hT : T = #[T[0]?.getD undef, T[1]?.getD undef, T[2]?.getD undef, T[3]?.getD undef, T[4]?.getD undef, T[5]?.getD undef, T[6]?.getD undef, T[7]?.getD undef, T[8]?.getD undef, T[9]?.getD undef, T[10]?.getD undef, T[11]?.getD undef, T[12]?.getD undef, T[13]?.getD undef, T[14]?.getD undef, T[15]?.getD undef, T[16]?.getD undef, T[17]?.getD undef, T[18]?.getD undef, T[19]?.getD undef, T[20]?.getD undef, T[21]?.getD undef, T[22]?.getD undef, T[23]?.getD undef, T[24]?.getD undef, T[25]?.getD undef, T[26]?.getD undef, T[27]?.getD undef, T[28]?.getD undef, T[29]?.getD undef, T[30]?.getD undef, T[31]?.getD undef, T[32]?.getD undef, T[33]?.getD undef, T[34]?.getD undef, T[35]?.getD undef, T[36]?.getD undef, T[37]?.getD undef, T[38]?.getD undef, T[39]?.getD undef, T[40]?.getD undef, T[41]?.getD undef, T[42]?.getD undef, T[43]?.getD undef, T[44]?.getD undef, T[45]?.getD undef, T[46]?.getD undef, T[47]?.getD undef, T[48]?.getD undef, T[49]?.getD undef, T[50]?.getD undef, T[51]?.getD undef, T[52]?.getD undef, T[53]?.getD undef, T[54]?.getD undef, T[55]?.getD undef, T[56]?.getD undef, T[57]?.getD undef, T[58]?.getD undef, T[59]?.getD undef, T[60]?.getD undef, T[61]?.getD undef, T[62]?.getD undef, T[63]?.getD undef, T[64]?.getD undef, T[65]?.getD undef, T[66]?.getD undef, T[67]?.getD undef] := arr_eq T 68 hsF
                      clear hsF
                      rw [e0] at hT; clear e0
                      rw [e1] at hT; clear e1
                      rw [e2] at hT; clear e2
                      rw [e3] at hT; clear e3
                      rw [e4] at hT; clear e4
                      rw [e5] at hT; clear e5
                      rw [e6] at hT; clear e6
                      rw [e7] at hT; clear e7
                      rw [e8] at hT; clear e8
                      rw [e9] at hT; clear e9
                      rw [e10] at hT; clear e10
                      rw [e11] at hT; clear e11
                      rw [e12] at hT; clear e12
                      rw [e13] at hT; clear e13
                      rw [e14] at hT; clear e14
                      rw [e15] at hT; clear e15
                      rw [e16] at hT; clear e16
                      generalize T[17]?.getD undef = u17 at hT
                      generalize T[18]?.getD undef = u18 at hT
                      generalize T[19]?.getD undef = u19 at hT
                      generalize T[20]?.getD undef = u20 at hT
                      generalize T[21]?.getD undef = u21 at hT
                      generalize T[22]?.getD undef = u22 at hT
                      generalize T[23]?.getD undef = u23 at hT
                      generalize T[24]?.getD undef = u24 at hT
                      generalize T[25]?.getD undef = u25 at hT
                      generalize T[26]?.getD undef = u26 at hT
                      generalize T[27]?.getD undef = u27 at hT
                      generalize T[28]?.getD undef = u28 at hT
                      generalize T[29]?.getD undef = u29 at hT
                      generalize T[30]?.getD undef = u30 at hT
                      generalize T[31]?.getD undef = u31 at hT
                      generalize T[32]?.getD undef = u32 at hT
                      generalize T[33]?.getD undef = u33 at hT
                      generalize T[34]?.getD undef = u34 at hT
                      generalize T[35]?.getD undef = u35 at hT
                      generalize T[36]?.getD undef = u36 at hT
                      generalize T[37]?.getD undef = u37 at hT
                      generalize T[38]?.getD undef = u38 at hT
                      generalize T[39]?.getD undef = u39 at hT
                      generalize T[40]?.getD undef = u40 at hT
                      generalize T[41]?.getD undef = u41 at hT
                      generalize T[42]?.getD undef = u42 at hT
                      generalize T[43]?.getD undef = u43 at hT
                      generalize T[44]?.getD undef = u44 at hT
                      generalize T[45]?.getD undef = u45 at hT
                      generalize T[46]?.getD undef = u46 at hT
                      generalize T[47]?.getD undef = u47 at hT
                      generalize T[48]?.getD undef = u48 at hT
                      generalize T[49]?.getD undef = u49 at hT
                      generalize T[50]?.getD undef = u50 at hT
                      generalize T[51]?.getD undef = u51 at hT
                      generalize T[52]?.getD undef = u52 at hT
                      generalize T[53]?.getD undef = u53 at hT
                      generalize T[54]?.getD undef = u54 at hT
                      generalize T[55]?.getD undef = u55 at hT
                      generalize T[56]?.getD undef = u56 at hT
                      generalize T[57]?.getD undef = u57 at hT
                      generalize T[58]?.getD undef = u58 at hT
                      generalize T[59]?.getD undef = u59 at hT
                      generalize T[60]?.getD undef = u60 at hT
                      generalize T[61]?.getD undef = u61 at hT
                      generalize T[62]?.getD undef = u62 at hT
                      generalize T[63]?.getD undef = u63 at hT
                      generalize T[64]?.getD undef = u64 at hT
                      generalize T[65]?.getD undef = u65 at hT
                      generalize T[66]?.getD undef = u66 at hT
                      generalize T[67]?.getD undef = u67 at hT
                      subst hT
                      go_wp2_with fail
                      go_ret
                      exact ⟨by rw [hr.out]; rfl, (by (have q_hbF := Below.size hbF; (try simp at q_hbF); repeat (first | exact Below.refl _ _ | (refine Below.trans ?_ (Below.mono hbF (by first | omega | (simp; omega) | simp))) | (refine Below.setCell ?_ (by first | omega | (simp; omega) | simp) _) | (refine Below.alloc ?_ (by first | omega | (simp; omega) | simp) _) | apply Below.drew | apply below_drewN)))⟩
                  | true =>
                    by_cases hn0 : n = 0
                    · subst hn0
                      have hq0 : ((0 : Int) == 0) = true := rfl
                      go_enter Try.func14, Try.ntmps14
                      go_wp2_with fail
                      refine wp_flows [(fun y_ _ => y_ = .pointer (some ⟨w.heap.size, 2, none⟩)), (fun y_ _ => y_ = .int .i64 f3), (fun y_ _ => y_ = .pointer (some ⟨w.heap.size, 0, none⟩)), (fun y_ _ => y_ = .int .i64 f1), (fun y_ _ => y_ = .bool W), (fun y_ _ => y_ = .bool true), (fun y_ _ => y_ = .bool true), (fun y_ _ => y_ = .pointer (some ⟨w.heap.size, 3, none⟩)), (fun y_ _ => y_ = .int .i64 f4), (fun y_ _ => y_ = .pointer (some ⟨w.heap.size, 0, none⟩)), (fun y_ _ => y_ = .int .i64 f1), (fun y_ _ => y_ = .bool K), (fun y_ _ => y_ = .bool true), (fun y_ _ => y_ = .bool true), (fun y_ _ => y_ = .bool true), (fun y_ _ => y_ = .pointer (some ⟨w.heap.size, 4, none⟩)), (fun y_ _ => y_ = .int .i64 f5), (fun y_ _ => y_ = .pointer (some ⟨w.heap.size, 0, none⟩)), (fun y_ _ => y_ = .int .i64 f1), (fun y_ _ => y_ = .bool N), (fun y_ _ => y_ = .bool true), (fun y_ _ => y_ = .bool true), (fun y_ _ => y_ = .bool true), (fun y_ _ => y_ = .pointer (some ⟨w.heap.size, 5, none⟩)), (fun y_ _ => y_ = .int .i64 f6), (fun y_ _ => y_ = .pointer (some ⟨w.heap.size, 0, none⟩)), (fun y_ _ => y_ = .int .i64 f1), (fun y_ _ => y_ = .bool Q), (fun y_ _ => y_ = .bool true), (fun y_ _ => y_ = .bool true), (fun y_ _ => y_ = .bool true), (fun y_ _ => y_ = .pointer (some ⟨w.heap.size, 1, none⟩)), (fun y_ _ => y_ = .bool true), (fun y_ _ => y_ = .bool false), (fun y_ _ => y_ = .bool false), (fun y_ _ => y_ = .pointer (some ⟨w.heap.size, 0, none⟩)), (fun y_ _ => y_ = .int .i64 f1), (fun y_ _ => y_ = .bool true), (fun y_ _ => y_ = .bool true), (fun y_ _ => y_ = .bool true), (fun y_ _ => y_ = .bool true), (fun y_ _ => y_ = .pointer (some ⟨w.heap.size, 6, none⟩)), (fun y_ _ => y_ = .slice A 0 c), (fun y_ _ => y_ = .int .i64 0), (fun y_ _ => y_ = .bool true), (fun y_ _ => y_ = .bool true), (fun y_ _ => y_ = undef), (fun y_ _ => y_ = undef), (fun y_ _ => y_ = undef), (fun y_ _ => y_ = .bool true), (fun y_ _ => y_ = .bool true), (fun y_ _ => y_ = .bool true)] (by kernel_rfl) ⟨Stab.eq _, Stab.eq _, Stab.eq _, Stab.eq _, Stab.eq _, Stab.eq _, Stab.eq _, Stab.eq _, Stab.eq _, Stab.eq _, Stab.eq _, Stab.eq _, Stab.eq _, Stab.eq _, Stab.eq _, Stab.eq _, Stab.eq _, Stab.eq _, Stab.eq _, Stab.eq _, Stab.eq _, Stab.eq _, Stab.eq _, Stab.eq _, Stab.eq _, Stab.eq _, Stab.eq _, Stab.eq _, Stab.eq _, Stab.eq _, Stab.eq _, Stab.eq _, Stab.eq _, Stab.eq _, Stab.eq _, Stab.eq _, Stab.eq _, Stab.eq _, Stab.eq _, Stab.eq _, Stab.eq _, Stab.eq _, Stab.eq _, Stab.eq _, Stab.eq _, Stab.eq _, Stab.eq _, Stab.eq _, Stab.eq _, Stab.eq _, Stab.eq _, Stab.eq _, trivial⟩ (by kernel_rfl) (by rfl) ?_ ?_
                      · intro kq hkq
                        match kq, hkq with
                        | 0, _ =>
                          refine StepOk.plain _ 17 rfl rfl rfl [(1, none)] (by kernel_rfl) (fun af wf hbw hf Kf hKf => ?_)
                          obtain ⟨g1, _⟩ := hf
                          have h1 : af.tmps[1]?.getD undef = .pointer (some ⟨w.heap.size, 0, none⟩) := g1
                          clear g1
                          go_simp
                          exact hKf _ _ (Below.refl _ _) rfl
                        | 1, _ =>
                          refine StepOk.plain _ 18 rfl rfl rfl [(17, some 0)] (by kernel_rfl) (fun af wf hbw hf Kf hKf => ?_)
                          obtain ⟨g17, _⟩ := hf
                          have h17 : af.tmps[17]?.getD undef = .pointer (some ⟨w.heap.size, 2, none⟩) := g17
                          clear g17
                          have cB0 := (Blk.on (Blk.drew (P0)) hbw).cell
                          go_simp
                          exact hKf _ _ (Below.refl _ _) rfl
                        | 2, _ =>
                          refine StepOk.plain _ 19 rfl rfl rfl [(1, none)] (by kernel_rfl) (fun af wf hbw hf Kf hKf => ?_)
                          obtain ⟨g1, _⟩ := hf
                          have h1 : af.tmps[1]?.getD undef = .pointer (some ⟨w.heap.size, 0, none⟩) := g1
                          clear g1
                          go_simp
                          exact hKf _ _ (Below.refl _ _) rfl
                        | 3, _ =>
                          refine StepOk.plain _ 20 rfl rfl rfl [(19, some 2)] (by kernel_rfl) (fun af wf hbw hf Kf hKf => ?_)
                          obtain ⟨g19, _⟩ := hf
                          have h19 : af.tmps[19]?.getD undef = .pointer (some ⟨w.heap.size, 0, none⟩) := g19
                          clear g19
                          have cB0 := (Blk.on (Blk.drew (P0)) hbw).cell
                          go_simp
                          exact hKf _ _ (Below.refl _ _) rfl
                        | 4, _ =>
                          refine StepOk.plain _ 21 rfl rfl rfl [(20, some 3)] (by kernel_rfl) (fun af wf hbw hf Kf hKf => ?_)
                          obtain ⟨g20, _⟩ := hf
                          have h20 : af.tmps[20]?.getD undef = .int .i64 f1 := g20
                          clear g20
                          go_simp
                          refine (has_any f1 119 c0 c1 _).mono ?_
                          rintro e wN ⟨rfl, rfl⟩
                          exact hKf _ _ (Below.refl _ _) (congrArg Value.bool HF.out.1)
                        | 5, _ =>
                          refine StepOk.plain _ 22 rfl rfl rfl [(18, some 1), (21, some 4)] (by kernel_rfl) (fun af wf hbw hf Kf hKf => ?_)
                          obtain ⟨g18, g21, _⟩ := hf
                          have h18 : af.tmps[18]?.getD undef = .int .i64 f3 := g18
                          have h21 : af.tmps[21]?.getD undef = .bool W := g21
                          clear g18 g21
                          go_simp
                          refine (rnum_any f3 W _).mono ?_
                          rintro e wN ⟨rfl, rfl⟩
                          exact hKf _ _ (Below.refl _ _) (congrArg Value.bool g0.out)
                        | 6, _ =>
                          refine StepOk.plain _ 23 rfl rfl rfl [(22, some 5)] (by kernel_rfl) (fun af wf hbw hf Kf hKf => ?_)
                          obtain ⟨g22, _⟩ := hf
                          have h22 : af.tmps[22]?.getD undef = .bool true := g22
                          clear g22
                          go_simp
                          exact hKf _ _ (Below.refl _ _) rfl
                        | 7, _ =>
                          refine StepOk.yes _ 24 rfl rfl rfl rfl (fun _ _ h => h) [(1, none)] (by kernel_rfl) (fun af wf hbw hf Kf hKf => ?_)
                          obtain ⟨g1, _⟩ := hf
                          have h1 : af.tmps[1]?.getD undef = .pointer (some ⟨w.heap.size, 0, none⟩) := g1
                          clear g1
                          go_simp
                          exact hKf _ _ (Below.refl _ _) rfl
                        | 8, _ =>
                          refine StepOk.yes _ 25 rfl rfl rfl rfl (fun _ _ h => h) [(24, some 7)] (by kernel_rfl) (fun af wf hbw hf Kf hKf => ?_)
                          obtain ⟨g24, _⟩ := hf
                          have h24 : af.tmps[24]?.getD undef = .pointer (some ⟨w.heap.size, 3, none⟩) := g24
                          clear g24
                          have cB0 := (Blk.on (Blk.drew (P0)) hbw).cell
                          go_simp
                          exact hKf _ _ (Below.refl _ _) rfl
                        | 9, _ =>
                          refine StepOk.yes _ 26 rfl rfl rfl rfl (fun _ _ h => h) [(1, none)] (by kernel_rfl) (fun af wf hbw hf Kf hKf => ?_)
                          obtain ⟨g1, _⟩ := hf
                          have h1 : af.tmps[1]?.getD undef = .pointer (some ⟨w.heap.size, 0, none⟩) := g1
                          clear g1
                          go_simp
                          exact hKf _ _ (Below.refl _ _) rfl
                        | 10, _ =>
                          refine StepOk.yes _ 27 rfl rfl rfl rfl (fun _ _ h => h) [(26, some 9)] (by kernel_rfl) (fun af wf hbw hf Kf hKf => ?_)
                          obtain ⟨g26, _⟩ := hf
                          have h26 : af.tmps[26]?.getD undef = .pointer (some ⟨w.heap.size, 0, none⟩) := g26
                          clear g26
                          have cB0 := (Blk.on (Blk.drew (P0)) hbw).cell
                          go_simp
                          exact hKf _ _ (Below.refl _ _) rfl
                        | 11, _ =>
                          refine StepOk.yes _ 28 rfl rfl rfl rfl (fun _ _ h => h) [(27, some 10)] (by kernel_rfl) (fun af wf hbw hf Kf hKf => ?_)
                          obtain ⟨g27, _⟩ := hf
                          have h27 : af.tmps[27]?.getD undef = .int .i64 f1 := g27
                          clear g27
                          go_simp
                          refine (has_any f1 107 c0 c1 _).mono ?_
                          rintro e wN ⟨rfl, rfl⟩
                          exact hKf _ _ (Below.refl _ _) (congrArg Value.bool HF.out.2.1)
                        | 12, _ =>
                          refine StepOk.yes _ 29 rfl rfl rfl rfl (fun _ _ h => h) [(25, some 8), (28, some 11)] (by kernel_rfl) (fun af wf hbw hf Kf hKf => ?_)
                          obtain ⟨g25, g28, _⟩ := hf
                          have h25 : af.tmps[25]?.getD undef = .int .i64 f4 := g25
                          have h28 : af.tmps[28]?.getD undef = .bool K := g28
                          clear g25 g28
                          go_simp
                          refine (rnum_any f4 K _).mono ?_
                          rintro e wN ⟨rfl, rfl⟩
                          exact hKf _ _ (Below.refl _ _) (congrArg Value.bool g1.out)
                        | 13, _ =>
                          refine StepOk.plain _ 30 rfl rfl rfl [(23, some 6), (29, some 12)] (by kernel_rfl) (fun af wf hbw hf Kf hKf => ?_)
                          obtain ⟨g23, g29, _⟩ := hf
                          have h23 : af.tmps[23]?.getD undef = .bool true := g23
                          have h29 : af.tmps[29]?.getD undef = .bool true := g29
                          clear g23 g29
                          go_simp
                          exact hKf _ _ (Below.refl _ _) rfl
                        | 14, _ =>
                          refine StepOk.plain _ 31 rfl rfl rfl [(30, some 13)] (by kernel_rfl) (fun af wf hbw hf Kf hKf => ?_)
                          obtain ⟨g30, _⟩ := hf
                          have h30 : af.tmps[30]?.getD undef = .bool true := g30
                          clear g30
                          go_simp
                          exact hKf _ _ (Below.refl _ _) rfl
                        | 15, _ =>
                          refine StepOk.yes _ 32 rfl rfl rfl rfl (fun _ _ h => h) [(1, none)] (by kernel_rfl) (fun af wf hbw hf Kf hKf => ?_)
                          obtain ⟨g1, _⟩ := hf
                          have h1 : af.tmps[1]?.getD undef = .pointer (some ⟨w.heap.size, 0, none⟩) := g1
                          clear g1
                          go_simp
                          exact hKf _ _ (Below.refl _ _) rfl
                        | 16, _ =>
                          refine StepOk.yes _ 33 rfl rfl rfl rfl (fun _ _ h => h) [(32, some 15)] (by kernel_rfl) (fun af wf hbw hf Kf hKf => ?_)
                          obtain ⟨g32, _⟩ := hf
                          have h32 : af.tmps[32]?.getD undef = .pointer (some ⟨w.heap.size, 4, none⟩) := g32
                          clear g32
                          have cB0 := (Blk.on (Blk.drew (P0)) hbw).cell
                          go_simp
                          exact hKf _ _ (Below.refl _ _) rfl
                        | 17, _ =>
                          refine StepOk.yes _ 34 rfl rfl rfl rfl (fun _ _ h => h) [(1, none)] (by kernel_rfl) (fun af wf hbw hf Kf hKf => ?_)
                          obtain ⟨g1, _⟩ := hf
                          have h1 : af.tmps[1]?.getD undef = .pointer (some ⟨w.heap.size, 0, none⟩) := g1
                          clear g1
                          go_simp
                          exact hKf _ _ (Below.refl _ _) rfl
                        | 18, _ =>
                          refine StepOk.yes _ 35 rfl rfl rfl rfl (fun _ _ h => h) [(34, some 17)] (by kernel_rfl) (fun af wf hbw hf Kf hKf => ?_)
                          obtain ⟨g34, _⟩ := hf
                          have h34 : af.tmps[34]?.getD undef = .pointer (some ⟨w.heap.size, 0, none⟩) := g34
                          clear g34
                          have cB0 := (Blk.on (Blk.drew (P0)) hbw).cell
                          go_simp
                          exact hKf _ _ (Below.refl _ _) rfl
                        | 19, _ =>
                          refine StepOk.yes _ 36 rfl rfl rfl rfl (fun _ _ h => h) [(35, some 18)] (by kernel_rfl) (fun af wf hbw hf Kf hKf => ?_)
                          obtain ⟨g35, _⟩ := hf
                          have h35 : af.tmps[35]?.getD undef = .int .i64 f1 := g35
                          clear g35
                          go_simp
                          refine (has_any f1 110 c0 c1 _).mono ?_
                          rintro e wN ⟨rfl, rfl⟩
                          exact hKf _ _ (Below.refl _ _) (congrArg Value.bool HF.out.2.2.1)
                        | 20, _ =>
                          refine StepOk.yes _ 37 rfl rfl rfl rfl (fun _ _ h => h) [(33, some 16), (36, some 19)] (by kernel_rfl) (fun af wf hbw hf Kf hKf => ?_)
                          obtain ⟨g33, g36, _⟩ := hf
                          have h33 : af.tmps[33]?.getD undef = .int .i64 f5 := g33
                          have h36 : af.tmps[36]?.getD undef = .bool N := g36
                          clear g33 g36
                          go_simp
                          refine (rnum_any f5 N _).mono ?_
                          rintro e wN ⟨rfl, rfl⟩
                          exact hKf _ _ (Below.refl _ _) (congrArg Value.bool g2.out)
                        | 21, _ =>
                          refine StepOk.plain _ 38 rfl rfl rfl [(31, some 14), (37, some 20)] (by kernel_rfl) (fun af wf hbw hf Kf hKf => ?_)
                          obtain ⟨g31, g37, _⟩ := hf
                          have h31 : af.tmps[31]?.getD undef = .bool true := g31
                          have h37 : af.tmps[37]?.getD undef = .bool true := g37
                          clear g31 g37
                          go_simp
                          exact hKf _ _ (Below.refl _ _) rfl
                        | 22, _ =>
                          refine StepOk.plain _ 39 rfl rfl rfl [(38, some 21)] (by kernel_rfl) (fun af wf hbw hf Kf hKf => ?_)
                          obtain ⟨g38, _⟩ := hf
                          have h38 : af.tmps[38]?.getD undef = .bool true := g38
                          clear g38
                          go_simp
                          exact hKf _ _ (Below.refl _ _) rfl
                        | 23, _ =>
                          refine StepOk.yes _ 40 rfl rfl rfl rfl (fun _ _ h => h) [(1, none)] (by kernel_rfl) (fun af wf hbw hf Kf hKf => ?_)
                          obtain ⟨g1, _⟩ := hf
                          have h1 : af.tmps[1]?.getD undef = .pointer (some ⟨w.heap.size, 0, none⟩) := g1
                          clear g1
                          go_simp
                          exact hKf _ _ (Below.refl _ _) rfl
                        | 24, _ =>
                          refine StepOk.yes _ 41 rfl rfl rfl rfl (fun _ _ h => h) [(40, some 23)] (by kernel_rfl) (fun af wf hbw hf Kf hKf => ?_)
                          obtain ⟨g40, _⟩ := hf
                          have h40 : af.tmps[40]?.getD undef = .pointer (some ⟨w.heap.size, 5, none⟩) := g40
                          clear g40
                          have cB0 := (Blk.on (Blk.drew (P0)) hbw).cell
                          go_simp
                          exact hKf _ _ (Below.refl _ _) rfl
                        | 25, _ =>
                          refine StepOk.yes _ 42 rfl rfl rfl rfl (fun _ _ h => h) [(1, none)] (by kernel_rfl) (fun af wf hbw hf Kf hKf => ?_)
                          obtain ⟨g1, _⟩ := hf
                          have h1 : af.tmps[1]?.getD undef = .pointer (some ⟨w.heap.size, 0, none⟩) := g1
                          clear g1
                          go_simp
                          exact hKf _ _ (Below.refl _ _) rfl
                        | 26, _ =>
                          refine StepOk.yes _ 43 rfl rfl rfl rfl (fun _ _ h => h) [(42, some 25)] (by kernel_rfl) (fun af wf hbw hf Kf hKf => ?_)
                          obtain ⟨g42, _⟩ := hf
                          have h42 : af.tmps[42]?.getD undef = .pointer (some ⟨w.heap.size, 0, none⟩) := g42
                          clear g42
                          have cB0 := (Blk.on (Blk.drew (P0)) hbw).cell
                          go_simp
                          exact hKf _ _ (Below.refl _ _) rfl
                        | 27, _ =>
                          refine StepOk.yes _ 44 rfl rfl rfl rfl (fun _ _ h => h) [(43, some 26)] (by kernel_rfl) (fun af wf hbw hf Kf hKf => ?_)
                          obtain ⟨g43, _⟩ := hf
                          have h43 : af.tmps[43]?.getD undef = .int .i64 f1 := g43
                          clear g43
                          go_simp
                          refine (has_any f1 97 c0 c1 _).mono ?_
                          rintro e wN ⟨rfl, rfl⟩
                          exact hKf _ _ (Below.refl _ _) (congrArg Value.bool HF.out.2.2.2.1)
                        | 28, _ =>
                          refine StepOk.yes _ 45 rfl rfl rfl rfl (fun _ _ h => h) [(41, some 24), (44, some 27)] (by kernel_rfl) (fun af wf hbw hf Kf hKf => ?_)
                          obtain ⟨g41, g44, _⟩ := hf
                          have h41 : af.tmps[41]?.getD undef = .int .i64 f6 := g41
                          have h44 : af.tmps[44]?.getD undef = .bool Q := g44
                          clear g41 g44
                          go_simp
                          refine (rnum_any f6 Q _).mono ?_
                          rintro e wN ⟨rfl, rfl⟩
                          exact hKf _ _ (Below.refl _ _) (congrArg Value.bool g3.out)
                        | 29, _ =>
                          refine StepOk.plain _ 46 rfl rfl rfl [(39, some 22), (45, some 28)] (by kernel_rfl) (fun af wf hbw hf Kf hKf => ?_)
                          obtain ⟨g39, g45, _⟩ := hf
                          have h39 : af.tmps[39]?.getD undef = .bool true := g39
                          have h45 : af.tmps[45]?.getD undef = .bool true := g45
                          clear g39 g45
                          go_simp
                          exact hKf _ _ (Below.refl _ _) rfl
                        | 30, _ =>
                          refine StepOk.plain _ 47 rfl rfl rfl [(46, some 29)] (by kernel_rfl) (fun af wf hbw hf Kf hKf => ?_)
                          obtain ⟨g46, _⟩ := hf
                          have h46 : af.tmps[46]?.getD undef = .bool true := g46
                          clear g46
                          go_simp
                          exact hKf _ _ (Below.refl _ _) rfl
                        | 31, _ =>
                          refine StepOk.yes _ 48 rfl rfl rfl rfl (fun _ _ h => h) [(1, none)] (by kernel_rfl) (fun af wf hbw hf Kf hKf => ?_)
                          obtain ⟨g1, _⟩ := hf
                          have h1 : af.tmps[1]?.getD undef = .pointer (some ⟨w.heap.size, 0, none⟩) := g1
                          clear g1
                          go_simp
                          exact hKf _ _ (Below.refl _ _) rfl
                        | 32, _ =>
                          refine StepOk.yes _ 49 rfl rfl rfl rfl (fun _ _ h => h) [(48, some 31)] (by kernel_rfl) (fun af wf hbw hf Kf hKf => ?_)
                          obtain ⟨g48, _⟩ := hf
                          have h48 : af.tmps[48]?.getD undef = .pointer (some ⟨w.heap.size, 1, none⟩) := g48
                          clear g48
                          have cB0 := (Blk.on (Blk.drew (P0)) hbw).cell
                          go_simp
                          exact hKf _ _ (Below.refl _ _) rfl
                        | 33, _ =>
                          refine StepOk.yes _ 50 rfl rfl rfl rfl (fun _ _ h => h) [(49, some 32)] (by kernel_rfl) (fun af wf hbw hf Kf hKf => ?_)
                          obtain ⟨g49, _⟩ := hf
                          have h49 : af.tmps[49]?.getD undef = .bool true := g49
                          clear g49
                          go_simp
                          exact hKf _ _ (Below.refl _ _) rfl
                        | 34, _ =>
                          refine StepOk.yes _ 51 rfl rfl rfl rfl (fun _ _ h => h) [(50, some 33)] (by kernel_rfl) (fun af wf hbw hf Kf hKf => ?_)
                          obtain ⟨g50, _⟩ := hf
                          have h50 : af.tmps[50]?.getD undef = .bool false := g50
                          clear g50
                          go_simp
                          exact hKf _ _ (Below.refl _ _) rfl
                        | 35, _ =>
                          refine StepOk.yes _ 52 rfl rfl rfl rfl (fun _ _ h => h) [(1, none)] (by kernel_rfl) (fun af wf hbw hf Kf hKf => ?_)
                          obtain ⟨g1, _⟩ := hf
                          have h1 : af.tmps[1]?.getD undef = .pointer (some ⟨w.heap.size, 0, none⟩) := g1
                          clear g1
                          go_simp
                          exact hKf _ _ (Below.refl _ _) rfl
                        | 36, _ =>
                          refine StepOk.yes _ 53 rfl rfl rfl rfl (fun _ _ h => h) [(52, some 35)] (by kernel_rfl) (fun af wf hbw hf Kf hKf => ?_)
                          obtain ⟨g52, _⟩ := hf
                          have h52 : af.tmps[52]?.getD undef = .pointer (some ⟨w.heap.size, 0, none⟩) := g52
                          clear g52
                          have cB0 := (Blk.on (Blk.drew (P0)) hbw).cell
                          go_simp
                          exact hKf _ _ (Below.refl _ _) rfl
                        | 37, _ =>
                          refine StepOk.yes _ 54 rfl rfl rfl rfl (fun _ _ h => h) [(53, some 36)] (by kernel_rfl) (fun af wf hbw hf Kf hKf => ?_)
                          obtain ⟨g53, _⟩ := hf
                          have h53 : af.tmps[53]?.getD undef = .int .i64 f1 := g53
                          clear g53
                          go_simp
                          refine (has_any f1 121 c0 c1 _).mono ?_
                          rintro e wN ⟨rfl, rfl⟩
                          exact hKf _ _ (Below.refl _ _) (congrArg Value.bool HF.out.2.2.2.2.1)
                        | 38, _ =>
                          refine StepOk.yes _ 55 rfl rfl rfl rfl (fun _ _ h => h) [(51, some 34), (54, some 37)] (by kernel_rfl) (fun af wf hbw hf Kf hKf => ?_)
                          obtain ⟨g51, g54, _⟩ := hf
                          have h51 : af.tmps[51]?.getD undef = .bool false := g51
                          have h54 : af.tmps[54]?.getD undef = .bool true := g54
                          clear g51 g54
                          go_simp
                          exact hKf _ _ (Below.refl _ _) rfl
                        | 39, _ =>
                          refine StepOk.plain _ 56 rfl rfl rfl [(47, some 30), (55, some 38)] (by kernel_rfl) (fun af wf hbw hf Kf hKf => ?_)
                          obtain ⟨g47, g55, _⟩ := hf
                          have h47 : af.tmps[47]?.getD undef = .bool true := g47
                          have h55 : af.tmps[55]?.getD undef = .bool true := g55
                          clear g47 g55
                          go_simp
                          exact hKf _ _ (Below.refl _ _) rfl
                        | 40, _ =>
                          refine StepOk.plain _ 57 rfl rfl rfl [(56, some 39)] (by kernel_rfl) (fun af wf hbw hf Kf hKf => ?_)
                          obtain ⟨g56, _⟩ := hf
                          have h56 : af.tmps[56]?.getD undef = .bool true := g56
                          clear g56
                          go_simp
                          exact hKf _ _ (Below.refl _ _) rfl
                        | 41, _ =>
                          refine StepOk.yes _ 58 rfl rfl rfl rfl (fun _ _ h => h) [(1, none)] (by kernel_rfl) (fun af wf hbw hf Kf hKf => ?_)
                          obtain ⟨g1, _⟩ := hf
                          have h1 : af.tmps[1]?.getD undef = .pointer (some ⟨w.heap.size, 0, none⟩) := g1
                          clear g1
                          go_simp
                          exact hKf _ _ (Below.refl _ _) rfl
                        | 42, _ =>
                          refine StepOk.yes _ 59 rfl rfl rfl rfl (fun _ _ h => h) [(58, some 41)] (by kernel_rfl) (fun af wf hbw hf Kf hKf => ?_)
                          obtain ⟨g58, _⟩ := hf
                          have h58 : af.tmps[58]?.getD undef = .pointer (some ⟨w.heap.size, 6, none⟩) := g58
                          clear g58
                          have cB0 := (Blk.on (Blk.drew (P0)) hbw).cell
                          go_simp
                          exact hKf _ _ (Below.refl _ _) rfl
                        | 43, _ =>
                          refine StepOk.yes _ 60 rfl rfl rfl rfl (fun _ _ h => h) [(59, some 42)] (by kernel_rfl) (fun af wf hbw hf Kf hKf => ?_)
                          obtain ⟨g59, _⟩ := hf
                          have h59 : af.tmps[59]?.getD undef = .slice A 0 c := g59
                          clear g59
                          go_simp
                          exact hKf _ _ (Below.refl _ _) rfl
                        | 44, _ =>
                          refine StepOk.yes _ 61 rfl rfl rfl rfl (fun _ _ h => h) [(60, some 43)] (by kernel_rfl) (fun af wf hbw hf Kf hKf => ?_)
                          obtain ⟨g60, _⟩ := hf
                          have h60 : af.tmps[60]?.getD undef = .int .i64 0 := g60
                          clear g60
                          go_simp
                          exact hKf _ _ (Below.refl _ _) rfl
                        | 45, _ =>
                          refine StepOk.yes _ 62 rfl rfl rfl rfl (fun _ _ h => h) [(61, some 44)] (by kernel_rfl) (fun af wf hbw hf Kf hKf => ?_)
                          obtain ⟨g61, _⟩ := hf
                          have h61 : af.tmps[61]?.getD undef = .bool true := g61
                          clear g61
                          go_simp
                          exact hKf _ _ (Below.refl _ _) rfl
                        | 46, _ => exact StepOk.no _ 63 rfl rfl rfl rfl (fun _ _ h => h) (by decide) (by kernel_rfl) (fun _ => rfl)
                        | 47, _ => exact StepOk.no _ 64 rfl rfl rfl rfl (fun _ _ h => h) (by decide) (by kernel_rfl) (fun _ => rfl)
                        | 48, _ => exact StepOk.no _ 65 rfl rfl rfl rfl (fun _ _ h => h) (by decide) (by kernel_rfl) (fun _ => rfl)
                        | 49, _ =>
                          refine StepOk.yes _ 66 rfl rfl rfl rfl (fun _ _ h => h) [(62, some 45), (65, some 48)] (by kernel_rfl) (fun af wf hbw hf Kf hKf => ?_)
                          obtain ⟨g62, g65, _⟩ := hf
                          have h62 : af.tmps[62]?.getD undef = .bool true := g62
                          have h65 : af.tmps[65]?.getD undef = undef := g65
                          clear g62 g65
                          go_simp
                          exact hKf _ _ (Below.refl _ _) rfl
                        | 50, _ =>
                          refine StepOk.plain _ 67 rfl rfl rfl [(57, some 40), (66, some 49)] (by kernel_rfl) (fun af wf hbw hf Kf hKf => ?_)
                          obtain ⟨g57, g66, _⟩ := hf
                          have h57 : af.tmps[57]?.getD undef = .bool true := g57
                          have h66 : af.tmps[66]?.getD undef = .bool true := g66
                          clear g57 g66
                          go_simp
                          exact hKf _ _ (Below.refl _ _) rfl
                        | 51, _ =>
                          refine StepOk.plain _ 2 rfl rfl rfl [(67, some 50)] (by kernel_rfl) (fun af wf hbw hf Kf hKf => ?_)
                          obtain ⟨g67, _⟩ := hf
                          have h67 : af.tmps[67]?.getD undef = .bool true := g67
                          clear g67
                          go_simp
                          exact hKf _ _ (Below.refl _ _) rfl
                        | i + 52, h => exact absurd h (by show ¬ (i + 52 < 52); omega)
                      · intro af wF hbF hdF hsF hbaseF hfactF
                        obtain ⟨T, dsF⟩ := af
                        obtain rfl : dsF = _ := hdF
                        have e0 := hbaseF 0 (not_dst (by kernel_rfl))
                        simp only [List.getElem?_toArray, List.getElem?_cons_zero, Option.getD_some] at e0
                        have e1 := hbaseF 1 (not_dst (by kernel_rfl))
                        simp only [List.getElem?_toArray, List.getElem?_cons_zero, List.getElem?_cons_succ, Option.getD_some] at e1
                        have e3 := hbaseF 3 (not_dst (by kernel_rfl))
                        simp only [List.getElem?_toArray, List.getElem?_cons_zero, List.getElem?_cons_succ, Option.getD_some] at e3
                        have e4 := hbaseF 4 (not_dst (by kernel_rfl))
                        simp only [List.getElem?_toArray, List.getElem?_cons_zero, List.getElem?_cons_succ, Option.getD_some] at e4
                        have e5 := hbaseF 5 (not_dst (by kernel_rfl))
                        simp only [List.getElem?_toArray, List.getElem?_cons_zero, List.getElem?_cons_succ, Option.getD_some] at e5
                        have e6 := hbaseF 6 (not_dst (by kernel_rfl))
                        simp only [List.getElem?_toArray, List.getElem?_cons_zero, List.getElem?_cons_succ, Option.getD_some] at e6
                        have e7 := hbaseF 7 (not_dst (by kernel_rfl))
                        simp only [List.getElem?_toArray, List.getElem?_cons_zero, List.getElem?_cons_succ, Option.getD_some] at e7
                        have e8 := hbaseF 8 (not_dst (by kernel_rfl))
                        simp only [List.getElem?_toArray, List.getElem?_cons_zero, List.getElem?_cons_succ, Option.getD_some] at e8
                        have e9 := hbaseF 9 (not_dst (by kernel_rfl))
                        simp only [List.getElem?_toArray, List.getElem?_cons_zero, List.getElem?_cons_succ, Option.getD_some] at e9
                        have e10 := hbaseF 10 (not_dst (by kernel_rfl))
                        simp only [List.getElem?_toArray, List.getElem?_cons_zero, List.getElem?_cons_succ, Option.getD_some] at e10
                        have e11 := hbaseF 11 (not_dst (by kernel_rfl))
                        simp only [List.getElem?_toArray, List.getElem?_cons_zero, List.getElem?_cons_succ, Option.getD_some] at e11
                        have e12 := hbaseF 12 (not_dst (by kernel_rfl))
                        simp only [List.getElem?_toArray, List.getElem?_cons_zero, List.getElem?_cons_succ, Option.getD_some] at e12
                        have e13 := hbaseF 13 (not_dst (by kernel_rfl))
                        simp only [List.getElem?_toArray, List.getElem?_cons_zero, List.getElem?_cons_succ, Option.getD_some] at e13
                        have e14 := hbaseF 14 (not_dst (by kernel_rfl))
                        simp only [List.getElem?_toArray, List.getElem?_cons_zero, List.getElem?_cons_succ, Option.getD_some] at e14
                        have e15 := hbaseF 15 (not_dst (by kernel_rfl))
                        simp only [List.getElem?_toArray, List.getElem?_cons_zero, List.getElem?_cons_succ, Option.getD_some] at e15
                        have e16 := hbaseF 16 (not_dst (by kernel_rfl))
                        simp only [List.getElem?_toArray, List.getElem?_cons_zero, List.getElem?_cons_succ, Option.getD_some] at e16
                        have e2 := hfactF 51 2 (by decide) rfl
                        replace e2 : T[2]?.getD undef = .bool true := e2
                        clear hbaseF hfactF
                        have hT : T = #[T[0]?.getD undef, T[1]?.getD undef, T[2]?.getD undef, T[3]?.getD undef, T[4]?.getD undef, T[5]?.getD undef, T[6]?.getD undef, T[7]?.getD undef, T[8]?.getD undef, T[9]?.getD undef, T[10]?.getD undef, T[11]?.getD undef, T[12]?.getD undef, T[13]?.getD undef, T[14]?.getD undef, T[15]?.getD undef, T[16]?.getD undef, T[17]?.getD undef, T[18]?.getD undef, T[19]?.getD undef, T[20]?.getD undef, T[21]?.getD undef, T[22]?.getD undef, T[23]?.getD undef, T[24]?.getD undef, T[25]?.getD undef, T[26]?.getD undef, T[27]?.getD undef, T[28]?.getD undef, T[29]?.getD undef, T[30]?.getD undef, T[31]?.getD undef, T[32]?.getD undef, T[33]?.getD undef, T[34]?.getD undef, T[35]?.getD undef, T[36]?.getD undef, T[37]?.getD undef, T[38]?.getD undef, T[39]?.getD undef, T[40]?.getD undef, T[41]?.getD undef, T[42]?.getD undef, T[43]?.getD undef, T[44]?.getD undef, T[45]?.getD undef, T[46]?.getD undef, T[47]?.getD undef, T[48]?.getD undef, T[49]?.getD undef, T[50]?.getD undef, T[51]?.getD undef, T[52]?.getD undef, T[53]?.getD undef, T[54]?.getD undef, T[55]?.getD undef, T[56]?.getD undef, T[57]?.getD undef, T[58]?.getD undef, T[59]?.getD undef, T[60]?.getD undef, T[61]?.getD undef, T[62]?.getD undef, T[63]?.getD undef, T[64]?.getD undef, T[65]?.getD undef, T[66]?.getD undef, T[67]?.getD undef] := arr_eq T 68 hsF
                        clear hsF
                        rw [e0] at hT; clear e0
                        rw [e1] at hT; clear e1
                        rw [e2] at hT; clear e2
                        rw [e3] at hT; clear e3
                        rw [e4] at hT; clear e4
                        rw [e5] at hT; clear e5
                        rw [e6] at hT; clear e6
                        rw [e7] at hT; clear e7
                        rw [e8] at hT; clear e8
                        rw [e9] at hT; clear e9
                        rw [e10] at hT; clear e10
                        rw [e11] at hT; clear e11
                        rw [e12] at hT; clear e12
                        rw [e13] at hT; clear e13
                        rw [e14] at hT; clear e14
                        rw [e15] at hT; clear e15
                        rw [e16] at hT; clear e16
                        generalize T[17]?.getD undef = u17 at hT
                        generalize T[18]?.getD undef = u18 at hT
                        generalize T[19]?.getD undef = u19 at hT
                        generalize T[20]?.getD undef = u20 at hT
                        generalize T[21]?.getD undef = u21 at hT
                        generalize T[22]?.getD undef = u22 at hT
                        generalize T[23]?.getD undef = u23 at hT
                        generalize T[24]?.getD undef = u24 at hT
                        generalize T[25]?.getD undef = u25 at hT
                        generalize T[26]?.getD undef = u26 at hT
                        generalize T[27]?.getD undef = u27 at hT
                        generalize T[28]?.getD undef = u28 at hT
                        generalize T[29]?.getD undef = u29 at hT
                        generalize T[30]?.getD undef = u30 at hT
                        generalize T[31]?.getD undef = u31 at hT
                        generalize T[32]?.getD undef = u32 at hT
                        generalize T[33]?.getD undef = u33 at hT
                        generalize T[34]?.getD undef = u34 at hT
                        generalize T[35]?.getD undef = u35 at hT
                        generalize T[36]?.getD undef = u36 at hT
                        generalize T[37]?.getD undef = u37 at hT
                        generalize T[38]?.getD undef = u38 at hT
                        generalize T[39]?.getD undef = u39 at hT
                        generalize T[40]?.getD undef = u40 at hT
                        generalize T[41]?.getD undef = u41 at hT
                        generalize T[42]?.getD undef = u42 at hT
                        generalize T[43]?.getD undef = u43 at hT
                        generalize T[44]?.getD undef = u44 at hT
                        generalize T[45]?.getD undef = u45 at hT
                        generalize T[46]?.getD undef = u46 at hT
                        generalize T[47]?.getD undef = u47 at hT
                        generalize T[48]?.getD undef = u48 at hT
                        generalize T[49]?.getD undef = u49 at hT
                        generalize T[50]?.getD undef = u50 at hT
                        generalize T[51]?.getD undef = u51 at hT
                        generalize T[52]?.getD undef = u52 at hT
                        generalize T[53]?.getD undef = u53 at hT
                        generalize T[54]?.getD undef = u54 at hT
                        generalize T[55]?.getD undef = u55 at hT
                        generalize T[56]?.getD undef = u56 at hT
                        generalize T[57]?.getD undef = u57 at hT
                        generalize T[58]?.getD undef = u58 at hT
                        generalize T[59]?.getD undef = u59 at hT
                        generalize T[60]?.getD undef = u60 at hT
                        generalize T[61]?.getD undef = u61 at hT
                        generalize T[62]?.getD undef = u62 at hT
                        generalize T[63]?.getD undef = u63 at hT
                        generalize T[64]?.getD undef = u64 at hT
                        generalize T[65]?.getD undef = u65 at hT
                        generalize T[66]?.getD undef = u66 at hT
                        generalize T[67]?.getD undef = u67 at hT
                        subst hT
                        go_wp2_with fail
                        go_ret
                        exact ⟨by rw [hr.out]; rfl, (by (have q_hbF := Below.size hbF; (try simp at q_hbF); repeat (first | exact Below.refl _ _ | (refine Below.trans ?_ (Below.mono hbF (by first | omega | (simp; omega) | simp))) | (refine Below.setCell ?_ (by first | omega | (simp; omega) | simp) _) | (refine Below.alloc ?_ (by first | omega | (simp; omega) | simp) _) | apply Below.drew | apply below_drewN)))⟩
                    · have hq0 : ((n : Int) == 0) = false := by simp; omega
                      have hd0 : decide (n = 0) = false := by simpa using hn0
                      rw [hd0] at hr
                      clear hn0 hd0
                      go_enter Try.func14, Try.ntmps14
                      go_wp2_with fail
                      refine wp_flows [(fun y_ _ => y_ = .pointer (some ⟨w.heap.size, 2, none⟩)), (fun y_ _ => y_ = .int .i64 f3), (fun y_ _ => y_ = .pointer (some ⟨w.heap.size, 0, none⟩)), (fun y_ _ => y_ = .int .i64 f1), (fun y_ _ => y_ = .bool W), (fun y_ _ => y_ = .bool true), (fun y_ _ => y_ = .bool true), (fun y_ _ => y_ = .pointer (some ⟨w.heap.size, 3, none⟩)), (fun y_ _ => y_ = .int .i64 f4), (fun y_ _ => y_ = .pointer (some ⟨w.heap.size, 0, none⟩)), (fun y_ _ => y_ = .int .i64 f1), (fun y_ _ => y_ = .bool K), (fun y_ _ => y_ = .bool true), (fun y_ _ => y_ = .bool true), (fun y_ _ => y_ = .bool true), (fun y_ _ => y_ = .pointer (some ⟨w.heap.size, 4, none⟩)), (fun y_ _ => y_ = .int .i64 f5), (fun y_ _ => y_ = .pointer (some ⟨w.heap.size, 0, none⟩)), (fun y_ _ => y_ = .int .i64 f1), (fun y_ _ => y_ = .bool N), (fun y_ _ => y_ = .bool true), (fun y_ _ => y_ = .bool true), (fun y_ _ => y_ = .bool true), (fun y_ _ => y_ = .pointer (some ⟨w.heap.size, 5, none⟩)), (fun y_ _ => y_ = .int .i64 f6), (fun y_ _ => y_ = .pointer (some ⟨w.heap.size, 0, none⟩)), (fun y_ _ => y_ = .int .i64 f1), (fun y_ _ => y_ = .bool Q), (fun y_ _ => y_ = .bool true), (fun y_ _ => y_ = .bool true), (fun y_ _ => y_ = .bool true), (fun y_ _ => y_ = .pointer (some ⟨w.heap.size, 1, none⟩)), (fun y_ _ => y_ = .bool true), (fun y_ _ => y_ = .bool false), (fun y_ _ => y_ = .bool false), (fun y_ _ => y_ = .pointer (some ⟨w.heap.size, 0, none⟩)), (fun y_ _ => y_ = .int .i64 f1), (fun y_ _ => y_ = .bool true), (fun y_ _ => y_ = .bool true), (fun y_ _ => y_ = .bool true), (fun y_ _ => y_ = .bool true), (fun y_ _ => y_ = .pointer (some ⟨w.heap.size, 6, none⟩)), (fun y_ _ => y_ = .slice A n c), (fun y_ _ => y_ = .int .i64 (n : Int)), (fun y_ _ => y_ = .bool false), (fun y_ _ => y_ = .bool false), (fun y_ _ => y_ = .pointer (some ⟨w.heap.size, 0, none⟩)), (fun y_ _ => y_ = .int .i64 f1), (fun y_ _ => y_ = .bool B), (fun y_ _ => y_ = .bool B), (fun y_ _ => y_ = .bool B), (fun y_ _ => y_ = .bool B)] (by kernel_rfl) ⟨Stab.eq _, Stab.eq _, Stab.eq _, Stab.eq _, Stab.eq _, Stab.eq _, Stab.eq _, Stab.eq _, Stab.eq _, Stab.eq _, Stab.eq _, Stab.eq _, Stab.eq _, Stab.eq _, Stab.eq _, Stab.eq _, Stab.eq _, Stab.eq _, Stab.eq _, Stab.eq _, Stab.eq _, Stab.eq _, Stab.eq _, Stab.eq _, Stab.eq _, Stab.eq _, Stab.eq _, Stab.eq _, Stab.eq _, Stab.eq _, Stab.eq _, Stab.eq _, Stab.eq _, Stab.eq _, Stab.eq _, Stab.eq _, Stab.eq _, Stab.eq _, Stab.eq _, Stab.eq _, Stab.eq _, Stab.eq _, Stab.eq _, Stab.eq _, Stab.eq _, Stab.eq _, Stab.eq _, Stab.eq _, Stab.eq _, Stab.eq _, Stab.eq _, Stab.eq _, trivial⟩ (by kernel_rfl) (by rfl) ?_ ?_
                      · intro kq hkq
                        match kq, hkq with
                        | 0, _ =>
                          refine StepOk.plain _ 17 rfl rfl rfl [(1, none)] (by kernel_rfl) (fun af wf hbw hf Kf hKf => ?_)
                          obtain ⟨g1, _⟩ := hf
                          have h1 : af.tmps[1]?.getD undef = .pointer (some ⟨w.heap.size, 0, none⟩) := g1
                          clear g1
                          go_simp
                          exact hKf _ _ (Below.refl _ _) rfl
                        | 1, _ =>
                          refine StepOk.plain _ 18 rfl rfl rfl [(17, some 0)] (by kernel_rfl) (fun af wf hbw hf Kf hKf => ?_)
                          obtain ⟨g17, _⟩ := hf
                          have h17 : af.tmps[17]?.getD undef = .pointer (some ⟨w.heap.size, 2, none⟩) := g17
                          clear g17
                          have cB0 := (Blk.on (Blk.drew (P0)) hbw).cell
                          go_simp
                          exact hKf _ _ (Below.refl _ _) rfl
                        | 2, _ =>
                          refine StepOk.plain _ 19 rfl rfl rfl [(1, none)] (by kernel_rfl) (fun af wf hbw hf Kf hKf => ?_)
                          obtain ⟨g1, _⟩ := hf
                          have h1 : af.tmps[1]?.getD undef = .pointer (some ⟨w.heap.size, 0, none⟩) := g1
                          clear g1
                          go_simp
                          exact hKf _ _ (Below.refl _ _) rfl
                        | 3, _ =>
                          refine StepOk.plain _ 20 rfl rfl rfl [(19, some 2)] (by kernel_rfl) (fun af wf hbw hf Kf hKf => ?_)
                          obtain ⟨g19, _⟩ := hf
                          have h19 : af.tmps[19]?.getD undef = .pointer (some ⟨w.heap.size, 0, none⟩) := g19
                          clear g19
                          have cB0 := (Blk.on (Blk.drew (P0)) hbw).cell
                          go_simp
                          exact hKf _ _ (Below.refl _ _) rfl
                        | 4, _ =>
                          refine StepOk.plain _ 21 rfl rfl rfl [(20, some 3)] (by kernel_rfl) (fun af wf hbw hf Kf hKf => ?_)
                          obtain ⟨g20, _⟩ := hf
                          have h20 : af.tmps[20]?.getD undef = .int .i64 f1 := g20
                          clear g20
                          go_simp
                          refine (has_any f1 119 c0 c1 _).mono ?_
                          rintro e wN ⟨rfl, rfl⟩
                          exact hKf _ _ (Below.refl _ _) (congrArg Value.bool HF.out.1)
                        | 5, _ =>
                          refine StepOk.plain _ 22 rfl rfl rfl [(18, some 1), (21, some 4)] (by kernel_rfl) (fun af wf hbw hf Kf hKf => ?_)
                          obtain ⟨g18, g21, _⟩ := hf
                          have h18 : af.tmps[18]?.getD undef = .int .i64 f3 := g18
                          have h21 : af.tmps[21]?.getD undef = .bool W := g21
                          clear g18 g21
                          go_simp
                          refine (rnum_any f3 W _).mono ?_
                          rintro e wN ⟨rfl, rfl⟩
                          exact hKf _ _ (Below.refl _ _) (congrArg Value.bool g0.out)
                        | 6, _ =>
                          refine StepOk.plain _ 23 rfl rfl rfl [(22, some 5)] (by kernel_rfl) (fun af wf hbw hf Kf hKf => ?_)
                          obtain ⟨g22, _⟩ := hf
                          have h22 : af.tmps[22]?.getD undef = .bool true := g22
                          clear g22
                          go_simp
                          exact hKf _ _ (Below.refl _ _) rfl
                        | 7, _ =>
                          refine StepOk.yes _ 24 rfl rfl rfl rfl (fun _ _ h => h) [(1, none)] (by kernel_rfl) (fun af wf hbw hf Kf hKf => ?_)
                          obtain ⟨g1, _⟩ := hf
                          have h1 : af.tmps[1]?.getD undef = .pointer (some ⟨w.heap.size, 0, none⟩) := g1
                          clear g1
                          go_simp
                          exact hKf _ _ (Below.refl _ _) rfl
                        | 8, _ =>
                          refine StepOk.yes _ 25 rfl rfl rfl rfl (fun _ _ h => h) [(24, some 7)] (by kernel_rfl) (fun af wf hbw hf Kf hKf => ?_)
                          obtain ⟨g24, _⟩ := hf
                          have h24 : af.tmps[24]?.getD undef = .pointer (some ⟨w.heap.size, 3, none⟩) := g24
                          clear g24
                          have cB0 := (Blk.on (Blk.drew (P0)) hbw).cell
                          go_simp
                          exact hKf _ _ (Below.refl _ _) rfl
                        | 9, _ =>
                          refine StepOk.yes _ 26 rfl rfl rfl rfl (fun _ _ h => h) [(1, none)] (by kernel_rfl) (fun af wf hbw hf Kf hKf => ?_)
                          obtain ⟨g1, _⟩ := hf
                          have h1 : af.tmps[1]?.getD undef = .pointer (some ⟨w.heap.size, 0, none⟩) := g1
                          clear g1
                          go_simp
                          exact hKf _ _ (Below.refl _ _) rfl
                        | 10, _ =>
                          refine StepOk.yes _ 27 rfl rfl rfl rfl (fun _ _ h => h) [(26, some 9)] (by kernel_rfl) (fun af wf hbw hf Kf hKf => ?_)
                          obtain ⟨g26, _⟩ := hf
                          have h26 : af.tmps[26]?.getD undef = .pointer (some ⟨w.heap.size, 0, none⟩) := g26
                          clear g26
                          have cB0 := (Blk.on (Blk.drew (P0)) hbw).cell
                          go_simp
                          exact hKf _ _ (Below.refl _ _) rfl
                        | 11, _ =>
                          refine StepOk.yes _ 28 rfl rfl rfl rfl (fun _ _ h => h) [(27, some 10)] (by kernel_rfl) (fun af wf hbw hf Kf hKf => ?_)
                          obtain ⟨g27, _⟩ := hf
                          have h27 : af.tmps[27]?.getD undef = .int .i64 f1 := g27
                          clear g27
                          go_simp
                          refine (has_any f1 107 c0 c1 _).mono ?_
                          rintro e wN ⟨rfl, rfl⟩
                          exact hKf _ _ (Below.refl _ _) (congrArg Value.bool HF.out.2.1)
                        | 12, _ =>
                          refine StepOk.yes _ 29 rfl rfl rfl rfl (fun _ _ h => h) [(25, some 8), (28, some 11)] (by kernel_rfl) (fun af wf hbw hf Kf hKf => ?_)
                          obtain ⟨g25, g28, _⟩ := hf
                          have h25 : af.tmps[25]?.getD undef = .int .i64 f4 := g25
                          have h28 : af.tmps[28]?.getD undef = .bool K := g28
                          clear g25 g28
                          go_simp
                          refine (rnum_any f4 K _).mono ?_
                          rintro e wN ⟨rfl, rfl⟩
                          exact hKf _ _ (Below.refl _ _) (congrArg Value.bool g1.out)
                        | 13, _ =>
                          refine StepOk.plain _ 30 rfl rfl rfl [(23, some 6), (29, some 12)] (by kernel_rfl) (fun af wf hbw hf Kf hKf => ?_)
                          obtain ⟨g23, g29, _⟩ := hf
                          have h23 : af.tmps[23]?.getD undef = .bool true := g23
                          have h29 : af.tmps[29]?.getD undef = .bool true := g29
                          clear g23 g29
                          go_simp
                          exact hKf _ _ (Below.refl _ _) rfl
                        | 14, _ =>
                          refine StepOk.plain _ 31 rfl rfl rfl [(30, some 13)] (by kernel_rfl) (fun af wf hbw hf Kf hKf => ?_)
                          obtain ⟨g30, _⟩ := hf
                          have h30 : af.tmps[30]?.getD undef = .bool true := g30
                          clear g30
                          go_simp
                          exact hKf _ _ (Below.refl _ _) rfl
                        | 15, _ =>
                          refine StepOk.yes _ 32 rfl rfl rfl rfl (fun _ _ h => h) [(1, none)] (by kernel_rfl) (fun af wf hbw hf Kf hKf => ?_)
                          obtain ⟨g1, _⟩ := hf
                          have h1 : af.tmps[1]?.getD undef = .pointer (some ⟨w.heap.size, 0, none⟩) := g1
                          clear g1
                          go_simp
                          exact hKf _ _ (Below.refl _ _) rfl
                        | 16, _ =>
                          refine StepOk.yes _ 33 rfl rfl rfl rfl (fun _ _ h => h) [(32, some 15)] (by kernel_rfl) (fun af wf hbw hf Kf hKf => ?_)
                          obtain ⟨g32, _⟩ := hf
                          have h32 : af.tmps[32]?.getD undef = .pointer (some ⟨w.heap.size, 4, none⟩) := g32
                          clear g32
                          have cB0 := (Blk.on (Blk.drew (P0)) hbw).cell
                          go_simp
                          exact hKf _ _ (Below.refl _ _) rfl
                        | 17, _ =>
                          refine StepOk.yes _ 34 rfl rfl rfl rfl (fun _ _ h => h) [(1, none)] (by kernel_rfl) (fun af wf hbw hf Kf hKf => ?_)
                          obtain ⟨g1, _⟩ := hf
                          have h1 : af.tmps[1]?.getD undef = .pointer (some ⟨w.heap.size, 0, none⟩) := g1
                          clear g1
                          go_simp
                          exact hKf _ _ (Below.refl _ _) rfl
                        | 18, _ =>
                          refine StepOk.yes _ 35 rfl rfl rfl rfl (fun _ _ h => h) [(34, some 17)] (by kernel_rfl) (fun af wf hbw hf Kf hKf => ?_)
                          obtain ⟨g34, _⟩ := hf
                          have h34 : af.tmps[34]?.getD undef = .pointer (some ⟨w.heap.size, 0, none⟩) := g34
                          clear g34
                          have cB0 := (Blk.on (Blk.drew (P0)) hbw).cell
                          go_simp
                          exact hKf _ _ (Below.refl _ _) rfl
                        | 19, _ =>
                          refine StepOk.yes _ 36 rfl rfl rfl rfl (fun _ _ h => h) [(35, some 18)] (by kernel_rfl) (fun af wf hbw hf Kf hKf => ?_)
                          obtain ⟨g35, _⟩ := hf
                          have h35 : af.tmps[35]?.getD undef = .int .i64 f1 := g35
                          clear g35
                          go_simp
                          refine (has_any f1 110 c0 c1 _).mono ?_
                          rintro e wN ⟨rfl, rfl⟩
                          exact hKf _ _ (Below.refl _ _) (congrArg Value.bool HF.out.2.2.1)
                        | 20, _ =>
                          refine StepOk.yes _ 37 rfl rfl rfl rfl (fun _ _ h => h) [(33, some 16), (36, some 19)] (by kernel_rfl) (fun af wf hbw hf Kf hKf => ?_)
                          obtain ⟨g33, g36, _⟩ := hf
                          have h33 : af.tmps[33]?.getD undef = .int .i64 f5 := g33
                          have h36 : af.tmps[36]?.getD undef = .bool N := g36
                          clear g33 g36
                          go_simp
                          refine (rnum_any f5 N _).mono ?_
                          rintro e wN ⟨rfl, rfl⟩
                          exact hKf _ _ (Below.refl _ _) (congrArg Value.bool g2.out)
                        | 21, _ =>
                          refine StepOk.plain _ 38 rfl rfl rfl [(31, some 14), (37, some 20)] (by kernel_rfl) (fun af wf hbw hf Kf hKf => ?_)
                          obtain ⟨g31, g37, _⟩ := hf
                          have h31 : af.tmps[31]?.getD undef = .bool true := g31
                          have h37 : af.tmps[37]?.getD undef = .bool true := g37
                          clear g31 g37
                          go_simp
                          exact hKf _ _ (Below.refl _ _) rfl
                        | 22, _ =>
                          refine StepOk.plain _ 39 rfl rfl rfl [(38, some 21)] (by kernel_rfl) (fun af wf hbw hf Kf hKf => ?_)
                          obtain ⟨g38, _⟩ := hf
                          have h38 : af.tmps[38]?.getD undef = .bool true := g38
                          clear g38
                          go_simp
                          exact hKf _ _ (Below.refl _ _) rfl
                        | 23, _ =>
                          refine StepOk.yes _ 40 rfl rfl rfl rfl (fun _ _ h => h) [(1, none)] (by kernel_rfl) (fun af wf hbw hf Kf hKf => ?_)
                          obtain ⟨g1, _⟩ := hf
                          have h1 : af.tmps[1]?.getD undef = .pointer (some ⟨w.heap.size, 0, none⟩) := g1
                          clear g1
                          go_simp
                          exact hKf _ _ (Below.refl _ _) rfl
                        | 24, _ =>
                          refine StepOk.yes _ 41 rfl rfl rfl rfl (fun _ _ h => h) [(40, some 23)] (by kernel_rfl) (fun af wf hbw hf Kf hKf => ?_)
                          obtain ⟨g40, _⟩ := hf
                          have h40 : af.tmps[40]?.getD undef = .pointer (some ⟨w.heap.size, 5, none⟩) := g40
                          clear g40
                          have cB0 := (Blk.on (Blk.drew (P0)) hbw).cell
                          go_simp
                          exact hKf _ _ (Below.refl _ _) rfl
                        | 25, _ =>
                          refine StepOk.yes _ 42 rfl rfl rfl rfl (fun _ _ h => h) [(1, none)] (by kernel_rfl) (fun af wf hbw hf Kf hKf => ?_)
                          obtain ⟨g1, _⟩ := hf
                          have h1 : af.tmps[1]?.getD undef = .pointer (some ⟨w.heap.size, 0, none⟩) := g1
                          clear g1
                          go_simp
                          exact hKf _ _ (Below.refl _ _) rfl
                        | 26, _ =>
                          refine StepOk.yes _ 43 rfl rfl rfl rfl (fun _ _ h => h) [(42, some 25)] (by kernel_rfl) (fun af wf hbw hf Kf hKf => ?_)
                          obtain ⟨g42, _⟩ := hf
                          have h42 : af.tmps[42]?.getD undef = .pointer (some ⟨w.heap.size, 0, none⟩) := g42
                          clear g42
                          have cB0 := (Blk.on (Blk.drew (P0)) hbw).cell
                          go_simp
                          exact hKf _ _ (Below.refl _ _) rfl
                        | 27, _ =>
                          refine StepOk.yes _ 44 rfl rfl rfl rfl (fun _ _ h => h) [(43, some 26)] (by kernel_rfl) (fun af wf hbw hf Kf hKf => ?_)
                          obtain ⟨g43, _⟩ := hf
                          have h43 : af.tmps[43]?.getD undef = .int .i64 f1 := g43
                          clear g43
                          go_simp
                          refine (has_any f1 97 c0 c1 _).mono ?_
                          rintro e wN ⟨rfl, rfl⟩
                          exact hKf _ _ (Below.refl _ _) (congrArg Value.bool HF.out.2.2.2.1)
                        | 28, _ =>
                          refine StepOk.yes _ 45 rfl rfl rfl rfl (fun _ _ h => h) [(41, some 24), (44, some 27)] (by kernel_rfl) (fun af wf hbw hf Kf hKf => ?_)
                          obtain ⟨g41, g44, _⟩ := hf
                          have h41 : af.tmps[41]?.getD undef = .int .i64 f6 := g41
                          have h44 : af.tmps[44]?.getD undef = .bool Q := g44
                          clear g41 g44
                          go_simp
                          refine (rnum_any f6 Q _).mono ?_
                          rintro e wN ⟨rfl, rfl⟩
                          exact hKf _ _ (Below.refl _ _) (congrArg Value.bool g3.out)
                        | 29, _ =>
                          refine StepOk.plain _ 46 rfl rfl rfl [(39, some 22), (45, some 28)] (by kernel_rfl) (fun af wf hbw hf Kf hKf => ?_)
                          obtain ⟨g39, g45, _⟩ := hf
                          have h39 : af.tmps[39]?.getD undef = .bool true := g39
                          have h45 : af.tmps[45]?.getD undef = .bool true := g45
                          clear g39 g45
                          go_simp
                          exact hKf _ _ (Below.refl _ _) rfl
                        | 30, _ =>
                          refine StepOk.plain _ 47 rfl rfl rfl [(46, some 29)] (by kernel_rfl) (fun af wf hbw hf Kf hKf => ?_)
                          obtain ⟨g46, _⟩ := hf
                          have h46 : af.tmps[46]?.getD undef = .bool true := g46
                          clear g46
                          go_simp
                          exact hKf _ _ (Below.refl _ _) rfl
                        | 31, _ =>
                          refine StepOk.yes _ 48 rfl rfl rfl rfl (fun _ _ h => h) [(1, none)] (by kernel_rfl) (fun af wf hbw hf Kf hKf => ?_)
                          obtain ⟨g1, _⟩ := hf
                          have h1 : af.tmps[1]?.getD undef = .pointer (some ⟨w.heap.size, 0, none⟩) := g1
                          clear g1
                          go_simp
                          exact hKf _ _ (Below.refl _ _) rfl
                        | 32, _ =>
                          refine StepOk.yes _ 49 rfl rfl rfl rfl (fun _ _ h => h) [(48, some 31)] (by kernel_rfl) (fun af wf hbw hf Kf hKf => ?_)
                          obtain ⟨g48, _⟩ := hf
                          have h48 : af.tmps[48]?.getD undef = .pointer (some ⟨w.heap.size, 1, none⟩) := g48
                          clear g48
                          have cB0 := (Blk.on (Blk.drew (P0)) hbw).cell
                          go_simp
                          exact hKf _ _ (Below.refl _ _) rfl
                        | 33, _ =>
                          refine StepOk.yes _ 50 rfl rfl rfl rfl (fun _ _ h => h) [(49, some 32)] (by kernel_rfl) (fun af wf hbw hf Kf hKf => ?_)
                          obtain ⟨g49, _⟩ := hf
                          have h49 : af.tmps[49]?.getD undef = .bool true := g49
                          clear g49
                          go_simp
                          exact hKf _ _ (Below.refl _ _) rfl
                        | 34, _ =>
                          refine StepOk.yes _ 51 rfl rfl rfl rfl (fun _ _ h => h) [(50, some 33)] (by kernel_rfl) (fun af wf hbw hf Kf hKf => ?_)
                          obtain ⟨g50, _⟩ := hf
                          have h50 : af.tmps[50]?.getD undef = .bool false := g50
                          clear g50
                          go_simp
                          exact hKf _ _ (Below.refl _ _) rfl
                        | 35, _ =>
                          refine StepOk.yes _ 52 rfl rfl rfl rfl (fun _ _ h => h) [(1, none)] (by kernel_rfl) (fun af wf hbw hf Kf hKf => ?_)
                          obtain ⟨g1, _⟩ := hf
                          have h1 : af.tmps[1]?.getD undef = .pointer (some ⟨w.heap.size, 0, none⟩) := g1
                          clear g1
                          go_simp
                          exact hKf _ _ (Below.refl _ _) rfl
                        | 36, _ =>
                          refine StepOk.yes _ 53 rfl rfl rfl rfl (fun _ _ h => h) [(52, some 35)] (by kernel_rfl) (fun af wf hbw hf Kf hKf => ?_)
                          obtain ⟨g52, _⟩ := hf
                          have h52 : af.tmps[52]?.getD undef = .pointer (some ⟨w.heap.size, 0, none⟩) := g52
                          clear g52
                          have cB0 := (Blk.on (Blk.drew (P0)) hbw).cell
                          go_simp
                          exact hKf _ _ (Below.refl _ _) rfl
                        | 37, _ =>
                          refine StepOk.yes _ 54 rfl rfl rfl rfl (fun _ _ h => h) [(53, some 36)] (by kernel_rfl) (fun af wf hbw hf Kf hKf => ?_)
                          obtain ⟨g53, _⟩ := hf
                          have h53 : af.tmps[53]?.getD undef = .int .i64 f1 := g53
                          clear g53
                          go_simp
                          refine (has_any f1 121 c0 c1 _).mono ?_
                          rintro e wN ⟨rfl, rfl⟩
                          exact hKf _ _ (Below.refl _ _) (congrArg Value.bool HF.out.2.2.2.2.1)
                        | 38, _ =>
                          refine StepOk.yes _ 55 rfl rfl rfl rfl (fun _ _ h => h) [(51, some 34), (54, some 37)] (by kernel_rfl) (fun af wf hbw hf Kf hKf => ?_)
                          obtain ⟨g51, g54, _⟩ := hf
                          have h51 : af.tmps[51]?.getD undef = .bool false := g51
                          have h54 : af.tmps[54]?.getD undef = .bool true := g54
                          clear g51 g54
                          go_simp
                          exact hKf _ _ (Below.refl _ _) rfl
                        | 39, _ =>
                          refine StepOk.plain _ 56 rfl rfl rfl [(47, some 30), (55, some 38)] (by kernel_rfl) (fun af wf hbw hf Kf hKf => ?_)
                          obtain ⟨g47, g55, _⟩ := hf
                          have h47 : af.tmps[47]?.getD undef = .bool true := g47
                          have h55 : af.tmps[55]?.getD undef = .bool true := g55
                          clear g47 g55
                          go_simp
                          exact hKf _ _ (Below.refl _ _) rfl
                        | 40, _ =>
                          refine StepOk.plain _ 57 rfl rfl rfl [(56, some 39)] (by kernel_rfl) (fun af wf hbw hf Kf hKf => ?_)
                          obtain ⟨g56, _⟩ := hf
                          have h56 : af.tmps[56]?.getD undef = .bool true := g56
                          clear g56
                          go_simp
                          exact hKf _ _ (Below.refl _ _) rfl
                        | 41, _ =>
                          refine StepOk.yes _ 58 rfl rfl rfl rfl (fun _ _ h => h) [(1, none)] (by kernel_rfl) (fun af wf hbw hf Kf hKf => ?_)
                          obtain ⟨g1, _⟩ := hf
                          have h1 : af.tmps[1]?.getD undef = .pointer (some ⟨w.heap.size, 0, none⟩) := g1
                          clear g1
                          go_simp
                          exact hKf _ _ (Below.refl _ _) rfl
                        | 42, _ =>
                          refine StepOk.yes _ 59 rfl rfl rfl rfl (fun _ _ h => h) [(58, some 41)] (by kernel_rfl) (fun af wf hbw hf Kf hKf => ?_)
                          obtain ⟨g58, _⟩ := hf
                          have h58 : af.tmps[58]?.getD undef = .pointer (some ⟨w.heap.size, 6, none⟩) := g58
                          clear g58
                          have cB0 := (Blk.on (Blk.drew (P0)) hbw).cell
                          go_simp
                          exact hKf _ _ (Below.refl _ _) rfl
                        | 43, _ =>
                          refine StepOk.yes _ 60 rfl rfl rfl rfl (fun _ _ h => h) [(59, some 42)] (by kernel_rfl) (fun af wf hbw hf Kf hKf => ?_)
                          obtain ⟨g59, _⟩ := hf
                          have h59 : af.tmps[59]?.getD undef = .slice A n c := g59
                          clear g59
                          go_simp
                          exact hKf _ _ (Below.refl _ _) rfl
                        | 44, _ =>
                          refine StepOk.yes _ 61 rfl rfl rfl rfl (fun _ _ h => h) [(60, some 43)] (by kernel_rfl) (fun af wf hbw hf Kf hKf => ?_)
                          obtain ⟨g60, _⟩ := hf
                          have h60 : af.tmps[60]?.getD undef = .int .i64 (n : Int) := g60
                          clear g60
                          have hq9 := hq0
                          go_simp
                          exact hKf _ _ (Below.refl _ _) rfl
                        | 45, _ =>
                          refine StepOk.yes _ 62 rfl rfl rfl rfl (fun _ _ h => h) [(61, some 44)] (by kernel_rfl) (fun af wf hbw hf Kf hKf => ?_)
                          obtain ⟨g61, _⟩ := hf
                          have h61 : af.tmps[61]?.getD undef = .bool false := g61
                          clear g61
                          go_simp
                          exact hKf _ _ (Below.refl _ _) rfl
                        | 46, _ =>
                          refine StepOk.yes _ 63 rfl rfl rfl rfl (fun _ _ h => h) [(1, none)] (by kernel_rfl) (fun af wf hbw hf Kf hKf => ?_)
                          obtain ⟨g1, _⟩ := hf
                          have h1 : af.tmps[1]?.getD undef = .pointer (some ⟨w.heap.size, 0, none⟩) := g1
                          clear g1
                          go_simp
                          exact hKf _ _ (Below.refl _ _) rfl
                        | 47, _ =>
                          refine StepOk.yes _ 64 rfl rfl rfl rfl (fun _ _ h => h) [(63, some 46)] (by kernel_rfl) (fun af wf hbw hf Kf hKf => ?_)
                          obtain ⟨g63, _⟩ := hf
                          have h63 : af.tmps[63]?.getD undef = .pointer (some ⟨w.heap.size, 0, none⟩) := g63
                          clear g63
                          have cB0 := (Blk.on (Blk.drew (P0)) hbw).cell
                          go_simp
                          exact hKf _ _ (Below.refl _ _) rfl
                        | 48, _ =>
                          refine StepOk.yes _ 65 rfl rfl rfl rfl (fun _ _ h => h) [(64, some 47)] (by kernel_rfl) (fun af wf hbw hf Kf hKf => ?_)
                          obtain ⟨g64, _⟩ := hf
                          have h64 : af.tmps[64]?.getD undef = .int .i64 f1 := g64
                          clear g64
                          go_simp
                          refine (has_any f1 98 c0 c1 _).mono ?_
                          rintro e wN ⟨rfl, rfl⟩
                          exact hKf _ _ (Below.refl _ _) (congrArg Value.bool HF.out.2.2.2.2.2)
                        | 49, _ =>
                          refine StepOk.yes _ 66 rfl rfl rfl rfl (fun _ _ h => h) [(62, some 45), (65, some 48)] (by kernel_rfl) (fun af wf hbw hf Kf hKf => ?_)
                          obtain ⟨g62, g65, _⟩ := hf
                          have h62 : af.tmps[62]?.getD undef = .bool false := g62
                          have h65 : af.tmps[65]?.getD undef = .bool B := g65
                          clear g62 g65
                          go_simp
                          exact hKf _ _ (Below.refl _ _) rfl
                        | 50, _ =>
                          refine StepOk.plain _ 67 rfl rfl rfl [(57, some 40), (66, some 49)] (by kernel_rfl) (fun af wf hbw hf Kf hKf => ?_)
                          obtain ⟨g57, g66, _⟩ := hf
                          have h57 : af.tmps[57]?.getD undef = .bool true := g57
                          have h66 : af.tmps[66]?.getD undef = .bool B := g66
                          clear g57 g66
                          go_simp
                          exact hKf _ _ (Below.refl _ _) rfl
                        | 51, _ =>
                          refine StepOk.plain _ 2 rfl rfl rfl [(67, some 50)] (by kernel_rfl) (fun af wf hbw hf Kf hKf => ?_)
                          obtain ⟨g67, _⟩ := hf
                          have h67 : af.tmps[67]?.getD undef = .bool B := g67
                          clear g67
                          go_simp
                          exact hKf _ _ (Below.refl _ _) rfl
                        | i + 52, h => exact absurd h (by show ¬ (i + 52 < 52); omega)
                      · intro af wF hbF hdF hsF hbaseF hfactF
                        obtain ⟨T, dsF⟩ := af
                        obtain rfl : dsF = _ := hdF
                        have e0 := hbaseF 0 (not_dst (by kernel_rfl))
                        simp only [List.getElem?_toArray, List.getElem?_cons_zero, Option.getD_some] at e0
                        have e1 := hbaseF 1 (not_dst (by kernel_rfl))
                        simp only [List.getElem?_toArray, List.getElem?_cons_zero, List.getElem?_cons_succ, Option.getD_some] at e1
                        have e3 := hbaseF 3 (not_dst (by kernel_rfl))
                        simp only [List.getElem?_toArray, List.getElem?_cons_zero, List.getElem?_cons_succ, Option.getD_some] at e3
                        have e4 := hbaseF 4 (not_dst (by kernel_rfl))
                        simp only [List.getElem?_toArray, List.getElem?_cons_zero, List.getElem?_cons_succ, Option.getD_some] at e4
                        have e5 := hbaseF 5 (not_dst (by kernel_rfl))
                        simp only [List.getElem?_toArray, List.getElem?_cons_zero, List.getElem?_cons_succ, Option.getD_some] at e5
                        have e6 := hbaseF 6 (not_dst (by kernel_rfl))
                        simp only [List.getElem?_toArray, List.getElem?_cons_zero, List.getElem?_cons_succ, Option.getD_some] at e6
                        have e7 := hbaseF 7 (not_dst (by kernel_rfl))
                        simp only [List.getElem?_toArray, List.getElem?_cons_zero, List.getElem?_cons_succ, Option.getD_some] at e7
                        have e8 := hbaseF 8 (not_dst (by kernel_rfl))
                        simp only [List.getElem?_toArray, List.getElem?_cons_zero, List.getElem?_cons_succ, Option.getD_some] at e8
                        have e9 := hbaseF 9 (not_dst (by kernel_rfl))
                        simp only [List.getElem?_toArray, List.getElem?_cons_zero, List.getElem?_cons_succ, Option.getD_some] at e9
                        have e10 := hbaseF 10 (not_dst (by kernel_rfl))
                        simp only [List.getElem?_toArray, List.getElem?_cons_zero, List.getElem?_cons_succ, Option.getD_some] at e10
                        have e11 := hbaseF 11 (not_dst (by kernel_rfl))
                        simp only [List.getElem?_toArray, List.getElem?_cons_zero, List.getElem?_cons_succ, Option.getD_some] at e11
                        have e12 := hbaseF 12 (not_dst (by kernel_rfl))
                        simp only [List.getElem?_toArray, List.getElem?_cons_zero, List.getElem?_cons_succ, Option.getD_some] at e12
                        have e13 := hbaseF 13 (not_dst (by kernel_rfl))
                        simp only [List.getElem?_toArray, List.getElem?_cons_zero, List.getElem?_cons_succ, Option.getD_some] at e13
                        have e14 := hbaseF 14 (not_dst (by kernel_rfl))
                        simp only [List.getElem?_toArray, List.getElem?_cons_zero, List.getElem?_cons_succ, Option.getD_some] at e14
                        have e15 := hbaseF 15 (not_dst (by kernel_rfl))
                        simp only [List.getElem?_toArray, List.getElem?_cons_zero, List.getElem?_cons_succ, Option.getD_some] at e15
                        have e16 := hbaseF 16 (not_dst (by kernel_rfl))
                        simp only [List.getElem?_toArray, List.getElem?_cons_zero, List.getElem?_cons_succ, Option.getD_some] at e16
                        have e2 := hfactF 51 2 (by decide) rfl
                        replace e2 : T[2]?.getD undef = .bool B := e2
                        clear hbaseF hfactF
                        have hT : T = #[T[0]?.getD undef, T[1]?.getD undef, T[2]?.getD undef, T[3]?.getD undef, T[4]?.getD undef, T[5]?.getD undef, T[6]?.getD undef, T[7]?.getD undef, T[8]?.getD undef, T[9]?.getD undef, T[10]?.getD undef, T[11]?.getD undef, T[12]?.getD undef, T[13]?.getD undef, T[14]?.getD undef, T[15]?.getD undef, T[16]?.getD undef, T[17]?.getD undef, T[18]?.getD undef, T[19]?.getD undef, T[20]?.getD undef, T[21]?.getD undef, T[22]?.getD undef, T[23]?.getD undef, T[24]?.getD undef, T[25]?.getD undef, T[26]?.getD undef, T[27]?.getD undef, T[28]?.getD undef, T[29]?.getD undef, T[30]?.getD undef, T[31]?.getD undef, T[32]?.getD undef, T[33]?.getD undef, T[34]?.getD undef, T[35]?.getD undef, T[36]?.getD undef, T[37]?.getD undef, T[38]?.getD undef, T[39]?.getD undef, T[40]?.getD undef, T[41]?.getD undef, T[42]?.getD undef, T[43]?.getD undef, T[44]?.getD undef, T[45]?.getD undef, T[46]?.getD undef, T[47]?.getD undef, T[48]?.getD undef, T[49]?.getD undef, T[50]?.getD undef, T[51]?.getD undef, T[52]?.getD undef, T[53]?.getD undef, T[54]?.getD undef, T[55]?.getD undef, T[56]?.getD undef, T[57]?.getD undef, T[58]?.getD undef, T[59]?.getD undef, T[60]?.getD undef, T[61]?.getD undef, T[62]?.getD undef, T[63]?.getD undef, T[64]?.getD undef, T[65]?.getD undef, T[66]?.getD undef, T[67]?.getD undef] := arr_eq T 68 hsF
                        clear hsF
                        rw [e0] at hT; clear e0
                        rw [e1] at hT; clear e1
                        rw [e2] at hT; clear e2
                        rw [e3] at hT; clear e3
                        rw [e4] at hT; clear e4
                        rw [e5] at hT; clear e5
                        rw [e6] at hT; clear e6
                        rw [e7] at hT; clear e7
                        rw [e8] at hT; clear e8
                        rw [e9] at hT; clear e9
                        rw [e10] at hT; clear e10
                        rw [e11] at hT; clear e11
                        rw [e12] at hT; clear e12
                        rw [e13] at hT; clear e13
                        rw [e14] at hT; clear e14
                        rw [e15] at hT; clear e15
                        rw [e16] at hT; clear e16
                        generalize T[17]?.getD undef = u17 at hT
                        generalize T[18]?.getD undef = u18 at hT
                        generalize T[19]?.getD undef = u19 at hT
                        generalize T[20]?.getD undef = u20 at hT
                        generalize T[21]?.getD undef = u21 at hT
                        generalize T[22]?.getD undef = u22 at hT
                        generalize T[23]?.getD undef = u23 at hT
                        generalize T[24]?.getD undef = u24 at hT
                        generalize T[25]?.getD undef = u25 at hT
                        generalize T[26]?.getD undef = u26 at hT
                        generalize T[27]?.getD undef = u27 at hT
                        generalize T[28]?.getD undef = u28 at hT
                        generalize T[29]?.getD undef = u29 at hT
                        generalize T[30]?.getD undef = u30 at hT
                        generalize T[31]?.getD undef = u31 at hT
                        generalize T[32]?.getD undef = u32 at hT
                        generalize T[33]?.getD undef = u33 at hT
                        generalize T[34]?.getD undef = u34 at hT
                        generalize T[35]?.getD undef = u35 at hT
                        generalize T[36]?.getD undef = u36 at hT
                        generalize T[37]?.getD undef = u37 at hT
                        generalize T[38]?.getD undef = u38 at hT
                        generalize T[39]?.getD undef = u39 at hT
                        generalize T[40]?.getD undef = u40 at hT
                        generalize T[41]?.getD undef = u41 at hT
                        generalize T[42]?.getD undef = u42 at hT
                        generalize T[43]?.getD undef = u43 at hT
                        generalize T[44]?.getD undef = u44 at hT
                        generalize T[45]?.getD undef = u45 at hT
                        generalize T[46]?.getD undef = u46 at hT
                        generalize T[47]?.getD undef = u47 at hT
                        generalize T[48]?.getD undef = u48 at hT
                        generalize T[49]?.getD undef = u49 at hT
                        generalize T[50]?.getD undef = u50 at hT
                        generalize T[51]?.getD undef = u51 at hT
                        generalize T[52]?.getD undef = u52 at hT
                        generalize T[53]?.getD undef = u53 at hT
                        generalize T[54]?.getD undef = u54 at hT
                        generalize T[55]?.getD undef = u55 at hT
                        generalize T[56]?.getD undef = u56 at hT
                        generalize T[57]?.getD undef = u57 at hT
                        generalize T[58]?.getD undef = u58 at hT
                        generalize T[59]?.getD undef = u59 at hT
                        generalize T[60]?.getD undef = u60 at hT
                        generalize T[61]?.getD undef = u61 at hT
                        generalize T[62]?.getD undef = u62 at hT
                        generalize T[63]?.getD undef = u63 at hT
                        generalize T[64]?.getD undef = u64 at hT
                        generalize T[65]?.getD undef = u65 at hT
                        generalize T[66]?.getD undef = u66 at hT
                        generalize T[67]?.getD undef = u67 at hT
                        subst hT
                        go_wp2_with fail
                        go_ret
                        exact ⟨by rw [hr.out]; rfl, (by (have q_hbF := Below.size hbF; (try simp at q_hbF); repeat (first | exact Below.refl _ _ | (refine Below.trans ?_ (Below.mono hbF (by first | omega | (simp; omega) | simp))) | (refine Below.setCell ?_ (by first | omega | (simp; omega) | simp) _) | (refine Below.alloc ?_ (by first | omega | (simp; omega) | simp) _) | apply Below.drew | apply below_drewN)))⟩
      · have hr := Lib.hid (show mayA ((f1, f2, f3, f4, f5, f6), L) = false by simp [mayA, hl, c2])
        have q2 : (1024 : Int) < n := by omega
        go_enter Try.func14, Try.ntmps14
        go_wp2_with fail
        go_ret
        exact ⟨by rw [hr.out]; rfl, (by (repeat (first | exact Below.refl _ _ | (refine Below.setCell ?_ (by first | omega | (simp; omega) | simp) _) | (refine Below.alloc ?_ (by first | omega | (simp; omega) | simp) _) | apply Below.drew | apply below_drewN)))⟩
    · have hr := Lib.hid (show mayA ((f1, f2, f3, f4, f5, f6), L) = false by simp [mayA, c1])
      have q2 : (19 : Int) < f1 := by omega
      go_enter Try.func14, Try.ntmps14
      go_wp2_with fail
      go_ret
      exact ⟨by rw [hr.out]; rfl, (by (repeat (first | exact Below.refl _ _ | (refine Below.setCell ?_ (by first | omega | (simp; omega) | simp) _) | (refine Below.alloc ?_ (by first | omega | (simp; omega) | simp) _) | apply Below.drew | apply below_drewN)))⟩
  · have hr := Lib.hid (show mayA ((f1, f2, f3, f4, f5, f6), L) = false by simp [mayA, c0])
    have q2 : f1 < 0 := by omega
    go_enter Try.func14, Try.ntmps14
    go_wp2_with fail
    go_ret
    exact ⟨by rw [hr.out]; rfl, (by (repeat (first | exact Below.refl _ _ | (refine Below.setCell ?_ (by first | omega | (simp; omega) | simp) _) | (refine Below.alloc ?_ (by first | omega | (simp; omega) | simp) _) | apply Below.drew | apply below_drewN)))⟩
end Go.Proofs.Ythlgagjnlnakkaa
