/- Slots: the laws' helpers: a step that takes. -/
import Derived.Test.YtnocjjaebemkoaaSlotK
namespace Go.Proofs.Ytnocjjaebemkoaa
open Go.RowKit

set_option maxRecDepth 100000 in
set_option maxHeartbeats 4000000 in
theorem step_take0 {c : Int} {z N : Nat} (hc : ClassOK c z N) (A : Option Addr) (cp : Nat) (p : List UInt8) (Al : Option Addr) (cl : Nat) (l : List Ob) (w : World) (hr : Rd w A 256 p) (hn : 256 ≤ cp) (hcp : cp ≤ maxLen) (hrl : RdR obK w.heap.size 5 w Al N l) (hP : PageOf z N p l)
    (K m a1 s : Int) (Ab : Option Addr) (nb cb : Nat) (bs : List UInt8) (hb : Rd w Ab nb bs) (hnb : nb ≤ cb) :
    Calls Try.prog 22 #[.slice A 256 cp, .slice Al N cl, .int .i64 c, .agg #[.int .i64 0, .int .i64 K, .int .i64 m, .int .i64 a1, .int .u64 s, .slice Ab nb cb]] w (Stepped 5 z N w) := by
  go_enter Try.func22, Try.ntmps22
  go_upto_if 22 with fail
  go_cut [7] (fun a wx => a = .pointer (some ⟨w.heap.size, 0, none⟩) ∧ (∃ nb' bs', Blk wx w.heap.size 34 #[.int .i64 0, .int .i64 K, .int .i64 m, .int .i64 a1, .int .u64 s, .slice Ab nb' cb] ∧ Rd wx Ab nb' bs' ∧ nb' ≤ 130 ∧ nb' ≤ cb) ∧ Below w.heap.size w wx)
  case first =>
    have B0 := Blk.new w 34 #[.int .i64 0, .int .i64 K, .int .i64 m, .int .i64 a1, .int .u64 s, .slice Ab nb cb]
    have c0 := B0.cell
    have f0 := B0.frozen
    by_cases h130 : 130 < nb
    · go_wp2_with fail
      go_meet
      exact ⟨rfl, ⟨130, bs.take 130, Blk.new _ _ _, (hb.head 130 (by omega)).alloc _, by omega, by omega⟩, (by (repeat (first | exact Below.refl _ _ | (refine Below.setCell ?_ (by first | omega | (simp; omega) | simp) _) | (refine Below.alloc ?_ (by first | omega | (simp; omega) | simp) _) | apply Below.drew | apply below_drewN)))⟩
    · go_wp2_with fail
      go_meet
      exact ⟨rfl, ⟨nb, bs, B0, hb.alloc _, by omega, hnb⟩, (by (repeat (first | exact Below.refl _ _ | (refine Below.setCell ?_ (by first | omega | (simp; omega) | simp) _) | (refine Below.alloc ?_ (by first | omega | (simp; omega) | simp) _) | apply Below.drew | apply below_drewN)))⟩
  case rest =>
    obtain ⟨rfl, ⟨nb', bs', hB, hbR, h130, hnb'⟩, hbel⟩ := hcut
    have hzc := hbel.size
    have hrc := hr.below hbel
    have hrlc := hrl.below hbel
    have hcv := conv cp _ hrc
    have cB := hB.cell
    have hzB := hB.lt
    have hmp := (hP.may hc).1
    have hN16 := hc.few
    have hsz := hc.size
    have hz1 := hc.z128
    have hll := hP.len
    obtain ⟨S0, hS0⟩ : ∃ S0, S0 = sizeI c := ⟨_, rfl⟩
    have hS := fun W => rsize_any c W
    have hRA := fun h => take_arg A 256 cp p c s m wc hrc hn hcp hmp h
    rw [← hS0] at hS hsz hRA
    clear hS0
    by_cases hs1 : s < 1
    ·
      have hF := hRA (by omega)
      clear hRA
      go_wp2_with fail
      refine hF.mono ?_
      rintro e w1 ⟨rfl, hb1⟩
      clear hF
      have hrl1 := hrlc.below hb1
      have hB1 := hB.on hb1
      have hbX := hbel.trans (hb1.mono hzc)
      clear cB hcv
      go_wp2_with fail
      refine (rfirst_any Al N cl _ _ l _ hrl1 (by omega)).mono ?_
      rintro e w2 ⟨rfl, hb2⟩
      replace hrl1 := hrl1.below hb2
      replace hB1 := hB1.on hb2
      replace hbX := hbX.trans (hb2.mono hbX.size)
      go_wp2_with fail
      refine wp_flows [(fun y_ _ => y_ = .pointer (some ⟨w.heap.size, 4, none⟩)), (fun y_ _ => y_ = .int .u64 s), (fun y_ _ => y_ = .bool true), (fun y_ _ => y_ = .bool true), (fun y_ _ => y_ = undef), (fun y_ _ => y_ = undef), (fun y_ _ => y_ = undef), (fun y_ _ => y_ = .bool true), (fun y_ _ => y_ = .bool true), (fun y_ _ => y_ = undef), (fun y_ _ => y_ = undef), (fun y_ _ => y_ = undef), (fun y_ _ => y_ = .bool true), (fun y_ _ => y_ = .bool true), (fun y_ _ => y_ = undef), (fun y_ _ => y_ = undef), (fun y_ _ => y_ = undef), (fun y_ _ => y_ = undef), (fun y_ _ => y_ = undef), (fun y_ _ => y_ = .bool true)] (by kernel_rfl) ⟨Stab.eq _, Stab.eq _, Stab.eq _, Stab.eq _, Stab.eq _, Stab.eq _, Stab.eq _, Stab.eq _, Stab.eq _, Stab.eq _, Stab.eq _, Stab.eq _, Stab.eq _, Stab.eq _, Stab.eq _, Stab.eq _, Stab.eq _, Stab.eq _, Stab.eq _, Stab.eq _, trivial⟩ (by kernel_rfl) (by rfl) ?_ ?_
      · intro kq hkq
        match kq, hkq with
        | 0, _ =>
          refine StepOk.plain _ 51 rfl rfl rfl [(7, none)] (by kernel_rfl) (fun af wf hbw hf Kf hKf => ?_)
          obtain ⟨g7, _⟩ := hf
          have h7 : af.tmps[7]?.getD undef = .pointer (some ⟨w.heap.size, 0, none⟩) := g7
          clear g7
          go_simp
          exact hKf _ _ (Below.refl _ _) rfl
        | 1, _ =>
          refine StepOk.plain _ 52 rfl rfl rfl [(51, some 0)] (by kernel_rfl) (fun af wf hbw hf Kf hKf => ?_)
          obtain ⟨g51, _⟩ := hf
          have h51 : af.tmps[51]?.getD undef = .pointer (some ⟨w.heap.size, 4, none⟩) := g51
          clear g51
          have cB0 := (Blk.on (Blk.drew (hB1)) hbw).cell
          go_simp
          exact hKf _ _ (Below.refl _ _) rfl
        | 2, _ =>
          refine StepOk.plain _ 53 rfl rfl rfl [(52, some 1)] (by kernel_rfl) (fun af wf hbw hf Kf hKf => ?_)
          obtain ⟨g52, _⟩ := hf
          have h52 : af.tmps[52]?.getD undef = .int .u64 s := g52
          clear g52
          have hd2 : decide (s < 1) = true := by simp; omega
          go_simp
          exact hKf _ _ (Below.refl _ _) rfl
        | 3, _ =>
          refine StepOk.plain _ 54 rfl rfl rfl [(53, some 2)] (by kernel_rfl) (fun af wf hbw hf Kf hKf => ?_)
          obtain ⟨g53, _⟩ := hf
          have h53 : af.tmps[53]?.getD undef = .bool true := g53
          clear g53
          go_simp
          exact hKf _ _ (Below.refl _ _) rfl
        | 4, _ => exact StepOk.no _ 55 rfl rfl rfl rfl (fun _ _ h => h) (by decide) (by kernel_rfl) (fun _ => rfl)
        | 5, _ => exact StepOk.no _ 56 rfl rfl rfl rfl (fun _ _ h => h) (by decide) (by kernel_rfl) (fun _ => rfl)
        | 6, _ => exact StepOk.no _ 57 rfl rfl rfl rfl (fun _ _ h => h) (by decide) (by kernel_rfl) (fun _ => rfl)
        | 7, _ =>
          refine StepOk.plain _ 58 rfl rfl rfl [(54, some 3), (57, some 6)] (by kernel_rfl) (fun af wf hbw hf Kf hKf => ?_)
          obtain ⟨g54, g57, _⟩ := hf
          have h54 : af.tmps[54]?.getD undef = .bool true := g54
          have h57 : af.tmps[57]?.getD undef = undef := g57
          clear g54 g57
          go_simp
          exact hKf _ _ (Below.refl _ _) rfl
        | 8, _ =>
          refine StepOk.plain _ 59 rfl rfl rfl [(58, some 7)] (by kernel_rfl) (fun af wf hbw hf Kf hKf => ?_)
          obtain ⟨g58, _⟩ := hf
          have h58 : af.tmps[58]?.getD undef = .bool true := g58
          clear g58
          go_simp
          exact hKf _ _ (Below.refl _ _) rfl
        | 9, _ => exact StepOk.no _ 60 rfl rfl rfl rfl (fun _ _ h => h) (by decide) (by kernel_rfl) (fun _ => rfl)
        | 10, _ => exact StepOk.no _ 61 rfl rfl rfl rfl (fun _ _ h => h) (by decide) (by kernel_rfl) (fun _ => rfl)
        | 11, _ => exact StepOk.no _ 62 rfl rfl rfl rfl (fun _ _ h => h) (by decide) (by kernel_rfl) (fun _ => rfl)
        | 12, _ =>
          refine StepOk.plain _ 63 rfl rfl rfl [(59, some 8), (62, some 11)] (by kernel_rfl) (fun af wf hbw hf Kf hKf => ?_)
          obtain ⟨g59, g62, _⟩ := hf
          have h59 : af.tmps[59]?.getD undef = .bool true := g59
          have h62 : af.tmps[62]?.getD undef = undef := g62
          clear g59 g62
          go_simp
          exact hKf _ _ (Below.refl _ _) rfl
        | 13, _ =>
          refine StepOk.plain _ 64 rfl rfl rfl [(63, some 12)] (by kernel_rfl) (fun af wf hbw hf Kf hKf => ?_)
          obtain ⟨g63, _⟩ := hf
          have h63 : af.tmps[63]?.getD undef = .bool true := g63
          clear g63
          go_simp
          exact hKf _ _ (Below.refl _ _) rfl
        | 14, _ => exact StepOk.no _ 65 rfl rfl rfl rfl (fun _ _ h => h) (by decide) (by kernel_rfl) (fun _ => rfl)
        | 15, _ => exact StepOk.no _ 66 rfl rfl rfl rfl (fun _ _ h => h) (by decide) (by kernel_rfl) (fun _ => rfl)
        | 16, _ => exact StepOk.no _ 67 rfl rfl rfl rfl (fun _ _ h => h) (by decide) (by kernel_rfl) (fun _ => rfl)
        | 17, _ => exact StepOk.no _ 68 rfl rfl rfl rfl (fun _ _ h => h) (by decide) (by kernel_rfl) (fun _ => rfl)
        | 18, _ => exact StepOk.no _ 69 rfl rfl rfl rfl (fun _ _ h => h) (by decide) (by kernel_rfl) (fun _ => rfl)
        | 19, _ =>
          refine StepOk.plain _ 70 rfl rfl rfl [(64, some 13), (69, some 18)] (by kernel_rfl) (fun af wf hbw hf Kf hKf => ?_)
          obtain ⟨g64, g69, _⟩ := hf
          have h64 : af.tmps[64]?.getD undef = .bool true := g64
          have h69 : af.tmps[69]?.getD undef = undef := g69
          clear g64 g69
          go_simp
          exact hKf _ _ (Below.refl _ _) rfl
        | i + 20, h => exact absurd h (by show ¬ (i + 20 < 20); omega)
      · intro af wF hbF hdF hsF hbaseF hfactF
        obtain ⟨T, dsF⟩ := af
        obtain rfl : dsF = _ := hdF
        have e70 := hfactF 19 70 (by decide) rfl
        replace e70 : T[70]?.getD undef = .bool true := e70
        have hT := frame_back T [51, 52, 53, 54, 55, 56, 57, 58, 59, 60, 61, 62, 63, 64, 65, 66, 67, 68, 69, 70] hbaseF hsF (by kernel_rfl)
        simp only [List.foldl_cons, List.foldl_nil, List.setIfInBounds_toArray, List.set_cons_zero, List.set_cons_succ] at hT
        clear hbaseF hfactF hsF
        generalize T[51]?.getD undef = u51 at hT
        generalize T[52]?.getD undef = u52 at hT
        generalize T[53]?.getD undef = u53 at hT
        generalize T[54]?.getD undef = u54 at hT
        generalize T[55]?.getD undef = u55 at hT
        generalize T[56]?.getD undef = u56 at hT
        generalize T[57]?.getD undef = u57 at hT
        generalize T[58]?.getD undef = u58 at hT
        generalize T[59]?.getD undef = u59 at hT
        generalize T[60]?.getD undef = u60 at hT
        generalize T[61]?.getD undef = u61 at hT
        generalize T[62]?.getD undef = u62 at hT
        generalize T[63]?.getD undef = u63 at hT
        generalize T[64]?.getD undef = u64 at hT
        generalize T[65]?.getD undef = u65 at hT
        generalize T[66]?.getD undef = u66 at hT
        generalize T[67]?.getD undef = u67 at hT
        generalize T[68]?.getD undef = u68 at hT
        generalize T[69]?.getD undef = u69 at hT
        rw [e70] at hT; clear e70
        subst hT
        have hbY := hbX.trans (hbF.mono hbX.size)
        have hcv1 := conv cp _ (hr.below hbY)
        go_wp2_with fail
        go_ret3
        exact Stepped.same hr hn hcp hrl hP (by (have q_hbY := Below.size hbY; (try simp at q_hbY); repeat (first | exact Below.refl _ _ | (refine Below.trans ?_ (Below.mono hbY (by first | omega | (simp; omega) | simp))) | (refine Below.setCell ?_ (by first | omega | (simp; omega) | simp) _) | (refine Below.alloc ?_ (by first | omega | (simp; omega) | simp) _) | apply Below.drew | apply below_drewN)))
    · by_cases hs2 : 281474976710656 ≤ s
      ·
        have hF := hRA (by omega)
        clear hRA
        go_wp2_with fail
        refine hF.mono ?_
        rintro e w1 ⟨rfl, hb1⟩
        clear hF
        have hrl1 := hrlc.below hb1
        have hB1 := hB.on hb1
        have hbX := hbel.trans (hb1.mono hzc)
        clear cB hcv
        go_wp2_with fail
        refine (rfirst_any Al N cl _ _ l _ hrl1 (by omega)).mono ?_
        rintro e w2 ⟨rfl, hb2⟩
        replace hrl1 := hrl1.below hb2
        replace hB1 := hB1.on hb2
        replace hbX := hbX.trans (hb2.mono hbX.size)
        go_wp2_with fail
        refine wp_flows [(fun y_ _ => y_ = .pointer (some ⟨w.heap.size, 4, none⟩)), (fun y_ _ => y_ = .int .u64 s), (fun y_ _ => y_ = .bool false), (fun y_ _ => y_ = .bool false), (fun y_ _ => y_ = .pointer (some ⟨w.heap.size, 4, none⟩)), (fun y_ _ => y_ = .int .u64 s), (fun y_ _ => y_ = .bool true), (fun y_ _ => y_ = .bool true), (fun y_ _ => y_ = .bool true), (fun y_ _ => y_ = undef), (fun y_ _ => y_ = undef), (fun y_ _ => y_ = undef), (fun y_ _ => y_ = .bool true), (fun y_ _ => y_ = .bool true), (fun y_ _ => y_ = undef), (fun y_ _ => y_ = undef), (fun y_ _ => y_ = undef), (fun y_ _ => y_ = undef), (fun y_ _ => y_ = undef), (fun y_ _ => y_ = .bool true)] (by kernel_rfl) ⟨Stab.eq _, Stab.eq _, Stab.eq _, Stab.eq _, Stab.eq _, Stab.eq _, Stab.eq _, Stab.eq _, Stab.eq _, Stab.eq _, Stab.eq _, Stab.eq _, Stab.eq _, Stab.eq _, Stab.eq _, Stab.eq _, Stab.eq _, Stab.eq _, Stab.eq _, Stab.eq _, trivial⟩ (by kernel_rfl) (by rfl) ?_ ?_
        · intro kq hkq
          match kq, hkq with
          | 0, _ =>
            refine StepOk.plain _ 51 rfl rfl rfl [(7, none)] (by kernel_rfl) (fun af wf hbw hf Kf hKf => ?_)
            obtain ⟨g7, _⟩ := hf
            have h7 : af.tmps[7]?.getD undef = .pointer (some ⟨w.heap.size, 0, none⟩) := g7
            clear g7
            go_simp
            exact hKf _ _ (Below.refl _ _) rfl
          | 1, _ =>
            refine StepOk.plain _ 52 rfl rfl rfl [(51, some 0)] (by kernel_rfl) (fun af wf hbw hf Kf hKf => ?_)
            obtain ⟨g51, _⟩ := hf
            have h51 : af.tmps[51]?.getD undef = .pointer (some ⟨w.heap.size, 4, none⟩) := g51
            clear g51
            have cB0 := (Blk.on (Blk.drew (hB1)) hbw).cell
            go_simp
            exact hKf _ _ (Below.refl _ _) rfl
          | 2, _ =>
            refine StepOk.plain _ 53 rfl rfl rfl [(52, some 1)] (by kernel_rfl) (fun af wf hbw hf Kf hKf => ?_)
            obtain ⟨g52, _⟩ := hf
            have h52 : af.tmps[52]?.getD undef = .int .u64 s := g52
            clear g52
            have hd2 : decide (s < 1) = false := by simp; omega
            go_simp
            exact hKf _ _ (Below.refl _ _) rfl
          | 3, _ =>
            refine StepOk.plain _ 54 rfl rfl rfl [(53, some 2)] (by kernel_rfl) (fun af wf hbw hf Kf hKf => ?_)
            obtain ⟨g53, _⟩ := hf
            have h53 : af.tmps[53]?.getD undef = .bool false := g53
            clear g53
            go_simp
            exact hKf _ _ (Below.refl _ _) rfl
          | 4, _ =>
            refine StepOk.yes _ 55 rfl rfl rfl rfl (fun _ _ h => h) [(7, none)] (by kernel_rfl) (fun af wf hbw hf Kf hKf => ?_)
            obtain ⟨g7, _⟩ := hf
            have h7 : af.tmps[7]?.getD undef = .pointer (some ⟨w.heap.size, 0, none⟩) := g7
            clear g7
            go_simp
            exact hKf _ _ (Below.refl _ _) rfl
          | 5, _ =>
            refine StepOk.yes _ 56 rfl rfl rfl rfl (fun _ _ h => h) [(55, some 4)] (by kernel_rfl) (fun af wf hbw hf Kf hKf => ?_)
            obtain ⟨g55, _⟩ := hf
            have h55 : af.tmps[55]?.getD undef = .pointer (some ⟨w.heap.size, 4, none⟩) := g55
            clear g55
            have cB0 := (Blk.on (Blk.drew (hB1)) hbw).cell
            go_simp
            exact hKf _ _ (Below.refl _ _) rfl
          | 6, _ =>
            refine StepOk.yes _ 57 rfl rfl rfl rfl (fun _ _ h => h) [(56, some 5)] (by kernel_rfl) (fun af wf hbw hf Kf hKf => ?_)
            obtain ⟨g56, _⟩ := hf
            have h56 : af.tmps[56]?.getD undef = .int .u64 s := g56
            clear g56
            have hd6 : decide ((281474976710656 : Int) ≤ s) = true := by simp; omega
            go_simp
            exact hKf _ _ (Below.refl _ _) rfl
          | 7, _ =>
            refine StepOk.plain _ 58 rfl rfl rfl [(54, some 3), (57, some 6)] (by kernel_rfl) (fun af wf hbw hf Kf hKf => ?_)
            obtain ⟨g54, g57, _⟩ := hf
            have h54 : af.tmps[54]?.getD undef = .bool false := g54
            have h57 : af.tmps[57]?.getD undef = .bool true := g57
            clear g54 g57
            go_simp
            exact hKf _ _ (Below.refl _ _) rfl
          | 8, _ =>
            refine StepOk.plain _ 59 rfl rfl rfl [(58, some 7)] (by kernel_rfl) (fun af wf hbw hf Kf hKf => ?_)
            obtain ⟨g58, _⟩ := hf
            have h58 : af.tmps[58]?.getD undef = .bool true := g58
            clear g58
            go_simp
            exact hKf _ _ (Below.refl _ _) rfl
          | 9, _ => exact StepOk.no _ 60 rfl rfl rfl rfl (fun _ _ h => h) (by decide) (by kernel_rfl) (fun _ => rfl)
          | 10, _ => exact StepOk.no _ 61 rfl rfl rfl rfl (fun _ _ h => h) (by decide) (by kernel_rfl) (fun _ => rfl)
          | 11, _ => exact StepOk.no _ 62 rfl rfl rfl rfl (fun _ _ h => h) (by decide) (by kernel_rfl) (fun _ => rfl)
          | 12, _ =>
            refine StepOk.plain _ 63 rfl rfl rfl [(59, some 8), (62, some 11)] (by kernel_rfl) (fun af wf hbw hf Kf hKf => ?_)
            obtain ⟨g59, g62, _⟩ := hf
            have h59 : af.tmps[59]?.getD undef = .bool true := g59
            have h62 : af.tmps[62]?.getD undef = undef := g62
            clear g59 g62
            go_simp
            exact hKf _ _ (Below.refl _ _) rfl
          | 13, _ =>
            refine StepOk.plain _ 64 rfl rfl rfl [(63, some 12)] (by kernel_rfl) (fun af wf hbw hf Kf hKf => ?_)
            obtain ⟨g63, _⟩ := hf
            have h63 : af.tmps[63]?.getD undef = .bool true := g63
            clear g63
            go_simp
            exact hKf _ _ (Below.refl _ _) rfl
          | 14, _ => exact StepOk.no _ 65 rfl rfl rfl rfl (fun _ _ h => h) (by decide) (by kernel_rfl) (fun _ => rfl)
          | 15, _ => exact StepOk.no _ 66 rfl rfl rfl rfl (fun _ _ h => h) (by decide) (by kernel_rfl) (fun _ => rfl)
          | 16, _ => exact StepOk.no _ 67 rfl rfl rfl rfl (fun _ _ h => h) (by decide) (by kernel_rfl) (fun _ => rfl)
          | 17, _ => exact StepOk.no _ 68 rfl rfl rfl rfl (fun _ _ h => h) (by decide) (by kernel_rfl) (fun _ => rfl)
          | 18, _ => exact StepOk.no _ 69 rfl rfl rfl rfl (fun _ _ h => h) (by decide) (by kernel_rfl) (fun _ => rfl)
          | 19, _ =>
            refine StepOk.plain _ 70 rfl rfl rfl [(64, some 13), (69, some 18)] (by kernel_rfl) (fun af wf hbw hf Kf hKf => ?_)
            obtain ⟨g64, g69, _⟩ := hf
            have h64 : af.tmps[64]?.getD undef = .bool true := g64
            have h69 : af.tmps[69]?.getD undef = undef := g69
            clear g64 g69
            go_simp
            exact hKf _ _ (Below.refl _ _) rfl
          | i + 20, h => exact absurd h (by show ¬ (i + 20 < 20); omega)
        · intro af wF hbF hdF hsF hbaseF hfactF
          obtain ⟨T, dsF⟩ := af
          obtain rfl : dsF = _ := hdF
          have e70 := hfactF 19 70 (by decide) rfl
          replace e70 : T[70]?.getD undef = .bool true := e70
          have hT := frame_back T [51, 52, 53, 54, 55, 56, 57, 58, 59, 60, 61, 62, 63, 64, 65, 66, 67, 68, 69, 70] hbaseF hsF (by kernel_rfl)
          simp only [List.foldl_cons, List.foldl_nil, List.setIfInBounds_toArray, List.set_cons_zero, List.set_cons_succ] at hT
          clear hbaseF hfactF hsF
          generalize T[51]?.getD undef = u51 at hT
          generalize T[52]?.getD undef = u52 at hT
          generalize T[53]?.getD undef = u53 at hT
          generalize T[54]?.getD undef = u54 at hT
          generalize T[55]?.getD undef = u55 at hT
          generalize T[56]?.getD undef = u56 at hT
          generalize T[57]?.getD undef = u57 at hT
          generalize T[58]?.getD undef = u58 at hT
          generalize T[59]?.getD undef = u59 at hT
          generalize T[60]?.getD undef = u60 at hT
          generalize T[61]?.getD undef = u61 at hT
          generalize T[62]?.getD undef = u62 at hT
          generalize T[63]?.getD undef = u63 at hT
          generalize T[64]?.getD undef = u64 at hT
          generalize T[65]?.getD undef = u65 at hT
          generalize T[66]?.getD undef = u66 at hT
          generalize T[67]?.getD undef = u67 at hT
          generalize T[68]?.getD undef = u68 at hT
          generalize T[69]?.getD undef = u69 at hT
          rw [e70] at hT; clear e70
          subst hT
          have hbY := hbX.trans (hbF.mono hbX.size)
          have hcv1 := conv cp _ (hr.below hbY)
          go_wp2_with fail
          go_ret3
          exact Stepped.same hr hn hcp hrl hP (by (have q_hbY := Below.size hbY; (try simp at q_hbY); repeat (first | exact Below.refl _ _ | (refine Below.trans ?_ (Below.mono hbY (by first | omega | (simp; omega) | simp))) | (refine Below.setCell ?_ (by first | omega | (simp; omega) | simp) _) | (refine Below.alloc ?_ (by first | omega | (simp; omega) | simp) _) | apply Below.drew | apply below_drewN)))
      · by_cases hm1 : m < 1
        ·
          have hF := hRA (by omega)
          clear hRA
          go_wp2_with fail
          refine hF.mono ?_
          rintro e w1 ⟨rfl, hb1⟩
          clear hF
          have hrl1 := hrlc.below hb1
          have hB1 := hB.on hb1
          have hbX := hbel.trans (hb1.mono hzc)
          clear cB hcv
          go_wp2_with fail
          refine (rfirst_any Al N cl _ _ l _ hrl1 (by omega)).mono ?_
          rintro e w2 ⟨rfl, hb2⟩
          replace hrl1 := hrl1.below hb2
          replace hB1 := hB1.on hb2
          replace hbX := hbX.trans (hb2.mono hbX.size)
          go_wp2_with fail
          refine wp_flows [(fun y_ _ => y_ = .pointer (some ⟨w.heap.size, 4, none⟩)), (fun y_ _ => y_ = .int .u64 s), (fun y_ _ => y_ = .bool false), (fun y_ _ => y_ = .bool false), (fun y_ _ => y_ = .pointer (some ⟨w.heap.size, 4, none⟩)), (fun y_ _ => y_ = .int .u64 s), (fun y_ _ => y_ = .bool false), (fun y_ _ => y_ = .bool false), (fun y_ _ => y_ = .bool false), (fun y_ _ => y_ = .pointer (some ⟨w.heap.size, 2, none⟩)), (fun y_ _ => y_ = .int .i64 m), (fun y_ _ => y_ = .bool true), (fun y_ _ => y_ = .bool true), (fun y_ _ => y_ = .bool true), (fun y_ _ => y_ = undef), (fun y_ _ => y_ = undef), (fun y_ _ => y_ = undef), (fun y_ _ => y_ = undef), (fun y_ _ => y_ = undef), (fun y_ _ => y_ = .bool true)] (by kernel_rfl) ⟨Stab.eq _, Stab.eq _, Stab.eq _, Stab.eq _, Stab.eq _, Stab.eq _, Stab.eq _, Stab.eq _, Stab.eq _, Stab.eq _, Stab.eq _, Stab.eq _, Stab.eq _, Stab.eq _, Stab.eq _, Stab.eq _, Stab.eq _, Stab.eq _, Stab.eq _, Stab.eq _, trivial⟩ (by kernel_rfl) (by rfl) ?_ ?_
          · intro kq hkq
            match kq, hkq with
            | 0, _ =>
              refine StepOk.plain _ 51 rfl rfl rfl [(7, none)] (by kernel_rfl) (fun af wf hbw hf Kf hKf => ?_)
              obtain ⟨g7, _⟩ := hf
              have h7 : af.tmps[7]?.getD undef = .pointer (some ⟨w.heap.size, 0, none⟩) := g7
              clear g7
              go_simp
              exact hKf _ _ (Below.refl _ _) rfl
            | 1, _ =>
              refine StepOk.plain _ 52 rfl rfl rfl [(51, some 0)] (by kernel_rfl) (fun af wf hbw hf Kf hKf => ?_)
              obtain ⟨g51, _⟩ := hf
              have h51 : af.tmps[51]?.getD undef = .pointer (some ⟨w.heap.size, 4, none⟩) := g51
              clear g51
              have cB0 := (Blk.on (Blk.drew (hB1)) hbw).cell
              go_simp
              exact hKf _ _ (Below.refl _ _) rfl
            | 2, _ =>
              refine StepOk.plain _ 53 rfl rfl rfl [(52, some 1)] (by kernel_rfl) (fun af wf hbw hf Kf hKf => ?_)
              obtain ⟨g52, _⟩ := hf
              have h52 : af.tmps[52]?.getD undef = .int .u64 s := g52
              clear g52
              have hd2 : decide (s < 1) = false := by simp; omega
              go_simp
              exact hKf _ _ (Below.refl _ _) rfl
            | 3, _ =>
              refine StepOk.plain _ 54 rfl rfl rfl [(53, some 2)] (by kernel_rfl) (fun af wf hbw hf Kf hKf => ?_)
              obtain ⟨g53, _⟩ := hf
              have h53 : af.tmps[53]?.getD undef = .bool false := g53
              clear g53
              go_simp
              exact hKf _ _ (Below.refl _ _) rfl
            | 4, _ =>
              refine StepOk.yes _ 55 rfl rfl rfl rfl (fun _ _ h => h) [(7, none)] (by kernel_rfl) (fun af wf hbw hf Kf hKf => ?_)
              obtain ⟨g7, _⟩ := hf
              have h7 : af.tmps[7]?.getD undef = .pointer (some ⟨w.heap.size, 0, none⟩) := g7
              clear g7
              go_simp
              exact hKf _ _ (Below.refl _ _) rfl
            | 5, _ =>
              refine StepOk.yes _ 56 rfl rfl rfl rfl (fun _ _ h => h) [(55, some 4)] (by kernel_rfl) (fun af wf hbw hf Kf hKf => ?_)
              obtain ⟨g55, _⟩ := hf
              have h55 : af.tmps[55]?.getD undef = .pointer (some ⟨w.heap.size, 4, none⟩) := g55
              clear g55
              have cB0 := (Blk.on (Blk.drew (hB1)) hbw).cell
              go_simp
              exact hKf _ _ (Below.refl _ _) rfl
            | 6, _ =>
              refine StepOk.yes _ 57 rfl rfl rfl rfl (fun _ _ h => h) [(56, some 5)] (by kernel_rfl) (fun af wf hbw hf Kf hKf => ?_)
              obtain ⟨g56, _⟩ := hf
              have h56 : af.tmps[56]?.getD undef = .int .u64 s := g56
              clear g56
              have hd6 : decide ((281474976710656 : Int) ≤ s) = false := by simp; omega
              go_simp
              exact hKf _ _ (Below.refl _ _) rfl
            | 7, _ =>
              refine StepOk.plain _ 58 rfl rfl rfl [(54, some 3), (57, some 6)] (by kernel_rfl) (fun af wf hbw hf Kf hKf => ?_)
              obtain ⟨g54, g57, _⟩ := hf
              have h54 : af.tmps[54]?.getD undef = .bool false := g54
              have h57 : af.tmps[57]?.getD undef = .bool false := g57
              clear g54 g57
              go_simp
              exact hKf _ _ (Below.refl _ _) rfl
            | 8, _ =>
              refine StepOk.plain _ 59 rfl rfl rfl [(58, some 7)] (by kernel_rfl) (fun af wf hbw hf Kf hKf => ?_)
              obtain ⟨g58, _⟩ := hf
              have h58 : af.tmps[58]?.getD undef = .bool false := g58
              clear g58
              go_simp
              exact hKf _ _ (Below.refl _ _) rfl
            | 9, _ =>
              refine StepOk.yes _ 60 rfl rfl rfl rfl (fun _ _ h => h) [(7, none)] (by kernel_rfl) (fun af wf hbw hf Kf hKf => ?_)
              obtain ⟨g7, _⟩ := hf
              have h7 : af.tmps[7]?.getD undef = .pointer (some ⟨w.heap.size, 0, none⟩) := g7
              clear g7
              go_simp
              exact hKf _ _ (Below.refl _ _) rfl
            | 10, _ =>
              refine StepOk.yes _ 61 rfl rfl rfl rfl (fun _ _ h => h) [(60, some 9)] (by kernel_rfl) (fun af wf hbw hf Kf hKf => ?_)
              obtain ⟨g60, _⟩ := hf
              have h60 : af.tmps[60]?.getD undef = .pointer (some ⟨w.heap.size, 2, none⟩) := g60
              clear g60
              have cB0 := (Blk.on (Blk.drew (hB1)) hbw).cell
              go_simp
              exact hKf _ _ (Below.refl _ _) rfl
            | 11, _ =>
              refine StepOk.yes _ 62 rfl rfl rfl rfl (fun _ _ h => h) [(61, some 10)] (by kernel_rfl) (fun af wf hbw hf Kf hKf => ?_)
              obtain ⟨g61, _⟩ := hf
              have h61 : af.tmps[61]?.getD undef = .int .i64 m := g61
              clear g61
              have hd11 : decide (m < 1) = true := by simp; omega
              go_simp
              exact hKf _ _ (Below.refl _ _) rfl
            | 12, _ =>
              refine StepOk.plain _ 63 rfl rfl rfl [(59, some 8), (62, some 11)] (by kernel_rfl) (fun af wf hbw hf Kf hKf => ?_)
              obtain ⟨g59, g62, _⟩ := hf
              have h59 : af.tmps[59]?.getD undef = .bool false := g59
              have h62 : af.tmps[62]?.getD undef = .bool true := g62
              clear g59 g62
              go_simp
              exact hKf _ _ (Below.refl _ _) rfl
            | 13, _ =>
              refine StepOk.plain _ 64 rfl rfl rfl [(63, some 12)] (by kernel_rfl) (fun af wf hbw hf Kf hKf => ?_)
              obtain ⟨g63, _⟩ := hf
              have h63 : af.tmps[63]?.getD undef = .bool true := g63
              clear g63
              go_simp
              exact hKf _ _ (Below.refl _ _) rfl
            | 14, _ => exact StepOk.no _ 65 rfl rfl rfl rfl (fun _ _ h => h) (by decide) (by kernel_rfl) (fun _ => rfl)
            | 15, _ => exact StepOk.no _ 66 rfl rfl rfl rfl (fun _ _ h => h) (by decide) (by kernel_rfl) (fun _ => rfl)
            | 16, _ => exact StepOk.no _ 67 rfl rfl rfl rfl (fun _ _ h => h) (by decide) (by kernel_rfl) (fun _ => rfl)
            | 17, _ => exact StepOk.no _ 68 rfl rfl rfl rfl (fun _ _ h => h) (by decide) (by kernel_rfl) (fun _ => rfl)
            | 18, _ => exact StepOk.no _ 69 rfl rfl rfl rfl (fun _ _ h => h) (by decide) (by kernel_rfl) (fun _ => rfl)
            | 19, _ =>
              refine StepOk.plain _ 70 rfl rfl rfl [(64, some 13), (69, some 18)] (by kernel_rfl) (fun af wf hbw hf Kf hKf => ?_)
              obtain ⟨g64, g69, _⟩ := hf
              have h64 : af.tmps[64]?.getD undef = .bool true := g64
              have h69 : af.tmps[69]?.getD undef = undef := g69
              clear g64 g69
              go_simp
              exact hKf _ _ (Below.refl _ _) rfl
            | i + 20, h => exact absurd h (by show ¬ (i + 20 < 20); omega)
          · intro af wF hbF hdF hsF hbaseF hfactF
            obtain ⟨T, dsF⟩ := af
            obtain rfl : dsF = _ := hdF
            have e70 := hfactF 19 70 (by decide) rfl
            replace e70 : T[70]?.getD undef = .bool true := e70
            have hT := frame_back T [51, 52, 53, 54, 55, 56, 57, 58, 59, 60, 61, 62, 63, 64, 65, 66, 67, 68, 69, 70] hbaseF hsF (by kernel_rfl)
            simp only [List.foldl_cons, List.foldl_nil, List.setIfInBounds_toArray, List.set_cons_zero, List.set_cons_succ] at hT
            clear hbaseF hfactF hsF
            generalize T[51]?.getD undef = u51 at hT
            generalize T[52]?.getD undef = u52 at hT
            generalize T[53]?.getD undef = u53 at hT
            generalize T[54]?.getD undef = u54 at hT
            generalize T[55]?.getD undef = u55 at hT
            generalize T[56]?.getD undef = u56 at hT
            generalize T[57]?.getD undef = u57 at hT
            generalize T[58]?.getD undef = u58 at hT
            generalize T[59]?.getD undef = u59 at hT
            generalize T[60]?.getD undef = u60 at hT
            generalize T[61]?.getD undef = u61 at hT
            generalize T[62]?.getD undef = u62 at hT
            generalize T[63]?.getD undef = u63 at hT
            generalize T[64]?.getD undef = u64 at hT
            generalize T[65]?.getD undef = u65 at hT
            generalize T[66]?.getD undef = u66 at hT
            generalize T[67]?.getD undef = u67 at hT
            generalize T[68]?.getD undef = u68 at hT
            generalize T[69]?.getD undef = u69 at hT
            rw [e70] at hT; clear e70
            subst hT
            have hbY := hbX.trans (hbF.mono hbX.size)
            have hcv1 := conv cp _ (hr.below hbY)
            go_wp2_with fail
            go_ret3
            exact Stepped.same hr hn hcp hrl hP (by (have q_hbY := Below.size hbY; (try simp at q_hbY); repeat (first | exact Below.refl _ _ | (refine Below.trans ?_ (Below.mono hbY (by first | omega | (simp; omega) | simp))) | (refine Below.setCell ?_ (by first | omega | (simp; omega) | simp) _) | (refine Below.alloc ?_ (by first | omega | (simp; omega) | simp) _) | apply Below.drew | apply below_drewN)))
        · by_cases hm2 : S0 < m
          ·
            have hF := hRA (by omega)
            clear hRA
            go_wp2_with fail
            refine hF.mono ?_
            rintro e w1 ⟨rfl, hb1⟩
            clear hF
            have hrl1 := hrlc.below hb1
            have hB1 := hB.on hb1
            have hbX := hbel.trans (hb1.mono hzc)
            clear cB hcv
            go_wp2_with fail
            refine (rfirst_any Al N cl _ _ l _ hrl1 (by omega)).mono ?_
            rintro e w2 ⟨rfl, hb2⟩
            replace hrl1 := hrl1.below hb2
            replace hB1 := hB1.on hb2
            replace hbX := hbX.trans (hb2.mono hbX.size)
            go_wp2_with fail
            refine wp_flows [(fun y_ _ => y_ = .pointer (some ⟨w.heap.size, 4, none⟩)), (fun y_ _ => y_ = .int .u64 s), (fun y_ _ => y_ = .bool false), (fun y_ _ => y_ = .bool false), (fun y_ _ => y_ = .pointer (some ⟨w.heap.size, 4, none⟩)), (fun y_ _ => y_ = .int .u64 s), (fun y_ _ => y_ = .bool false), (fun y_ _ => y_ = .bool false), (fun y_ _ => y_ = .bool false), (fun y_ _ => y_ = .pointer (some ⟨w.heap.size, 2, none⟩)), (fun y_ _ => y_ = .int .i64 m), (fun y_ _ => y_ = .bool false), (fun y_ _ => y_ = .bool false), (fun y_ _ => y_ = .bool false), (fun y_ _ => y_ = .pointer (some ⟨w.heap.size, 2, none⟩)), (fun y_ _ => y_ = .int .i64 m), (fun y_ _ => y_ = .int .i64 c), (fun y_ _ => y_ = .int .i64 S0), (fun y_ _ => y_ = .bool true), (fun y_ _ => y_ = .bool true)] (by kernel_rfl) ⟨Stab.eq _, Stab.eq _, Stab.eq _, Stab.eq _, Stab.eq _, Stab.eq _, Stab.eq _, Stab.eq _, Stab.eq _, Stab.eq _, Stab.eq _, Stab.eq _, Stab.eq _, Stab.eq _, Stab.eq _, Stab.eq _, Stab.eq _, Stab.eq _, Stab.eq _, Stab.eq _, trivial⟩ (by kernel_rfl) (by rfl) ?_ ?_
            · intro kq hkq
              match kq, hkq with
              | 0, _ =>
                refine StepOk.plain _ 51 rfl rfl rfl [(7, none)] (by kernel_rfl) (fun af wf hbw hf Kf hKf => ?_)
                obtain ⟨g7, _⟩ := hf
                have h7 : af.tmps[7]?.getD undef = .pointer (some ⟨w.heap.size, 0, none⟩) := g7
                clear g7
                go_simp
                exact hKf _ _ (Below.refl _ _) rfl
              | 1, _ =>
                refine StepOk.plain _ 52 rfl rfl rfl [(51, some 0)] (by kernel_rfl) (fun af wf hbw hf Kf hKf => ?_)
                obtain ⟨g51, _⟩ := hf
                have h51 : af.tmps[51]?.getD undef = .pointer (some ⟨w.heap.size, 4, none⟩) := g51
                clear g51
                have cB0 := (Blk.on (Blk.drew (hB1)) hbw).cell
                go_simp
                exact hKf _ _ (Below.refl _ _) rfl
              | 2, _ =>
                refine StepOk.plain _ 53 rfl rfl rfl [(52, some 1)] (by kernel_rfl) (fun af wf hbw hf Kf hKf => ?_)
                obtain ⟨g52, _⟩ := hf
                have h52 : af.tmps[52]?.getD undef = .int .u64 s := g52
                clear g52
                have hd2 : decide (s < 1) = false := by simp; omega
                go_simp
                exact hKf _ _ (Below.refl _ _) rfl
              | 3, _ =>
                refine StepOk.plain _ 54 rfl rfl rfl [(53, some 2)] (by kernel_rfl) (fun af wf hbw hf Kf hKf => ?_)
                obtain ⟨g53, _⟩ := hf
                have h53 : af.tmps[53]?.getD undef = .bool false := g53
                clear g53
                go_simp
                exact hKf _ _ (Below.refl _ _) rfl
              | 4, _ =>
                refine StepOk.yes _ 55 rfl rfl rfl rfl (fun _ _ h => h) [(7, none)] (by kernel_rfl) (fun af wf hbw hf Kf hKf => ?_)
                obtain ⟨g7, _⟩ := hf
                have h7 : af.tmps[7]?.getD undef = .pointer (some ⟨w.heap.size, 0, none⟩) := g7
                clear g7
                go_simp
                exact hKf _ _ (Below.refl _ _) rfl
              | 5, _ =>
                refine StepOk.yes _ 56 rfl rfl rfl rfl (fun _ _ h => h) [(55, some 4)] (by kernel_rfl) (fun af wf hbw hf Kf hKf => ?_)
                obtain ⟨g55, _⟩ := hf
                have h55 : af.tmps[55]?.getD undef = .pointer (some ⟨w.heap.size, 4, none⟩) := g55
                clear g55
                have cB0 := (Blk.on (Blk.drew (hB1)) hbw).cell
                go_simp
                exact hKf _ _ (Below.refl _ _) rfl
              | 6, _ =>
                refine StepOk.yes _ 57 rfl rfl rfl rfl (fun _ _ h => h) [(56, some 5)] (by kernel_rfl) (fun af wf hbw hf Kf hKf => ?_)
                obtain ⟨g56, _⟩ := hf
                have h56 : af.tmps[56]?.getD undef = .int .u64 s := g56
                clear g56
                have hd6 : decide ((281474976710656 : Int) ≤ s) = false := by simp; omega
                go_simp
                exact hKf _ _ (Below.refl _ _) rfl
              | 7, _ =>
                refine StepOk.plain _ 58 rfl rfl rfl [(54, some 3), (57, some 6)] (by kernel_rfl) (fun af wf hbw hf Kf hKf => ?_)
                obtain ⟨g54, g57, _⟩ := hf
                have h54 : af.tmps[54]?.getD undef = .bool false := g54
                have h57 : af.tmps[57]?.getD undef = .bool false := g57
                clear g54 g57
                go_simp
                exact hKf _ _ (Below.refl _ _) rfl
              | 8, _ =>
                refine StepOk.plain _ 59 rfl rfl rfl [(58, some 7)] (by kernel_rfl) (fun af wf hbw hf Kf hKf => ?_)
                obtain ⟨g58, _⟩ := hf
                have h58 : af.tmps[58]?.getD undef = .bool false := g58
                clear g58
                go_simp
                exact hKf _ _ (Below.refl _ _) rfl
              | 9, _ =>
                refine StepOk.yes _ 60 rfl rfl rfl rfl (fun _ _ h => h) [(7, none)] (by kernel_rfl) (fun af wf hbw hf Kf hKf => ?_)
                obtain ⟨g7, _⟩ := hf
                have h7 : af.tmps[7]?.getD undef = .pointer (some ⟨w.heap.size, 0, none⟩) := g7
                clear g7
                go_simp
                exact hKf _ _ (Below.refl _ _) rfl
              | 10, _ =>
                refine StepOk.yes _ 61 rfl rfl rfl rfl (fun _ _ h => h) [(60, some 9)] (by kernel_rfl) (fun af wf hbw hf Kf hKf => ?_)
                obtain ⟨g60, _⟩ := hf
                have h60 : af.tmps[60]?.getD undef = .pointer (some ⟨w.heap.size, 2, none⟩) := g60
                clear g60
                have cB0 := (Blk.on (Blk.drew (hB1)) hbw).cell
                go_simp
                exact hKf _ _ (Below.refl _ _) rfl
              | 11, _ =>
                refine StepOk.yes _ 62 rfl rfl rfl rfl (fun _ _ h => h) [(61, some 10)] (by kernel_rfl) (fun af wf hbw hf Kf hKf => ?_)
                obtain ⟨g61, _⟩ := hf
                have h61 : af.tmps[61]?.getD undef = .int .i64 m := g61
                clear g61
                have hd11 : decide (m < 1) = false := by simp; omega
                go_simp
                exact hKf _ _ (Below.refl _ _) rfl
              | 12, _ =>
                refine StepOk.plain _ 63 rfl rfl rfl [(59, some 8), (62, some 11)] (by kernel_rfl) (fun af wf hbw hf Kf hKf => ?_)
                obtain ⟨g59, g62, _⟩ := hf
                have h59 : af.tmps[59]?.getD undef = .bool false := g59
                have h62 : af.tmps[62]?.getD undef = .bool false := g62
                clear g59 g62
                go_simp
                exact hKf _ _ (Below.refl _ _) rfl
              | 13, _ =>
                refine StepOk.plain _ 64 rfl rfl rfl [(63, some 12)] (by kernel_rfl) (fun af wf hbw hf Kf hKf => ?_)
                obtain ⟨g63, _⟩ := hf
                have h63 : af.tmps[63]?.getD undef = .bool false := g63
                clear g63
                go_simp
                exact hKf _ _ (Below.refl _ _) rfl
              | 14, _ =>
                refine StepOk.yes _ 65 rfl rfl rfl rfl (fun _ _ h => h) [(7, none)] (by kernel_rfl) (fun af wf hbw hf Kf hKf => ?_)
                obtain ⟨g7, _⟩ := hf
                have h7 : af.tmps[7]?.getD undef = .pointer (some ⟨w.heap.size, 0, none⟩) := g7
                clear g7
                go_simp
                exact hKf _ _ (Below.refl _ _) rfl
              | 15, _ =>
                refine StepOk.yes _ 66 rfl rfl rfl rfl (fun _ _ h => h) [(65, some 14)] (by kernel_rfl) (fun af wf hbw hf Kf hKf => ?_)
                obtain ⟨g65, _⟩ := hf
                have h65 : af.tmps[65]?.getD undef = .pointer (some ⟨w.heap.size, 2, none⟩) := g65
                clear g65
                have cB0 := (Blk.on (Blk.drew (hB1)) hbw).cell
                go_simp
                exact hKf _ _ (Below.refl _ _) rfl
              | 16, _ =>
                refine StepOk.yes _ 67 rfl rfl rfl rfl (fun _ _ h => h) [(2, none)] (by kernel_rfl) (fun af wf hbw hf Kf hKf => ?_)
                obtain ⟨g2, _⟩ := hf
                have h2 : af.tmps[2]?.getD undef = .int .i64 c := g2
                clear g2
                go_simp
                exact hKf _ _ (Below.refl _ _) rfl
              | 17, _ =>
                refine StepOk.yes _ 68 rfl rfl rfl rfl (fun _ _ h => h) [(67, some 16)] (by kernel_rfl) (fun af wf hbw hf Kf hKf => ?_)
                obtain ⟨g67, _⟩ := hf
                have h67 : af.tmps[67]?.getD undef = .int .i64 c := g67
                clear g67
                go_simp
                refine (hS _).mono ?_
                rintro e wN ⟨rfl, rfl⟩
                exact hKf _ _ (Below.refl _ _) (rfl)
              | 18, _ =>
                refine StepOk.yes _ 69 rfl rfl rfl rfl (fun _ _ h => h) [(66, some 15), (68, some 17)] (by kernel_rfl) (fun af wf hbw hf Kf hKf => ?_)
                obtain ⟨g66, g68, _⟩ := hf
                have h66 : af.tmps[66]?.getD undef = .int .i64 m := g66
                have h68 : af.tmps[68]?.getD undef = .int .i64 S0 := g68
                clear g66 g68
                have hd18 : decide (S0 < m) = true := by simp; omega
                go_simp
                exact hKf _ _ (Below.refl _ _) rfl
              | 19, _ =>
                refine StepOk.plain _ 70 rfl rfl rfl [(64, some 13), (69, some 18)] (by kernel_rfl) (fun af wf hbw hf Kf hKf => ?_)
                obtain ⟨g64, g69, _⟩ := hf
                have h64 : af.tmps[64]?.getD undef = .bool false := g64
                have h69 : af.tmps[69]?.getD undef = .bool true := g69
                clear g64 g69
                go_simp
                exact hKf _ _ (Below.refl _ _) rfl
              | i + 20, h => exact absurd h (by show ¬ (i + 20 < 20); omega)
            · intro af wF hbF hdF hsF hbaseF hfactF
              obtain ⟨T, dsF⟩ := af
              obtain rfl : dsF = _ := hdF
              have e70 := hfactF 19 70 (by decide) rfl
              replace e70 : T[70]?.getD undef = .bool true := e70
              have hT := frame_back T [51, 52, 53, 54, 55, 56, 57, 58, 59, 60, 61, 62, 63, 64, 65, 66, 67, 68, 69, 70] hbaseF hsF (by kernel_rfl)
              simp only [List.foldl_cons, List.foldl_nil, List.setIfInBounds_toArray, List.set_cons_zero, List.set_cons_succ] at hT
              clear hbaseF hfactF hsF
              generalize T[51]?.getD undef = u51 at hT
              generalize T[52]?.getD undef = u52 at hT
              generalize T[53]?.getD undef = u53 at hT
              generalize T[54]?.getD undef = u54 at hT
              generalize T[55]?.getD undef = u55 at hT
              generalize T[56]?.getD undef = u56 at hT
              generalize T[57]?.getD undef = u57 at hT
              generalize T[58]?.getD undef = u58 at hT
              generalize T[59]?.getD undef = u59 at hT
              generalize T[60]?.getD undef = u60 at hT
              generalize T[61]?.getD undef = u61 at hT
              generalize T[62]?.getD undef = u62 at hT
              generalize T[63]?.getD undef = u63 at hT
              generalize T[64]?.getD undef = u64 at hT
              generalize T[65]?.getD undef = u65 at hT
              generalize T[66]?.getD undef = u66 at hT
              generalize T[67]?.getD undef = u67 at hT
              generalize T[68]?.getD undef = u68 at hT
              generalize T[69]?.getD undef = u69 at hT
              rw [e70] at hT; clear e70
              subst hT
              have hbY := hbX.trans (hbF.mono hbX.size)
              have hcv1 := conv cp _ (hr.below hbY)
              go_wp2_with fail
              go_ret3
              exact Stepped.same hr hn hcp hrl hP (by (have q_hbY := Below.size hbY; (try simp at q_hbY); repeat (first | exact Below.refl _ _ | (refine Below.trans ?_ (Below.mono hbY (by first | omega | (simp; omega) | simp))) | (refine Below.setCell ?_ (by first | omega | (simp; omega) | simp) _) | (refine Below.alloc ?_ (by first | omega | (simp; omega) | simp) _) | apply Below.drew | apply below_drewN)))
          · obtain ⟨mN, rfl⟩ : ∃ mN : Nat, m = mN := ⟨m.toNat, by omega⟩
            clear hRA
            rcases first_cases l with ⟨hfi, hno⟩ | ⟨k, o, hfi, hk, ho, ho0, hno⟩
            · have hF := take_full hc A cp p s mN wc hrc hn hcp hmp (hP.noneFree hc (by rw [← hll]; exact hno) (Nat.le_refl _)) (by omega) (by omega) (by omega) (by omega)
              have HFI := Lib.hid hfi
              clear hfi
              go_wp2_with fail
              refine hF.mono ?_
              rintro e w1 ⟨rfl, hb1⟩
              clear hF
              have hrl1 := hrlc.below hb1
              have hB1 := hB.on hb1
              have hbX := hbel.trans (hb1.mono hzc)
              clear cB hcv
              go_wp2_with fail
              refine (rfirst_any Al N cl _ _ l _ hrl1 (by omega)).mono ?_
              rintro e w2 ⟨rfl, hb2⟩
              replace hrl1 := hrl1.below hb2
              replace hB1 := hB1.on hb2
              replace hbX := hbX.trans (hb2.mono hbX.size)
              rw [HFI.out]
              go_wp2_with fail
              refine wp_flows [(fun y_ _ => y_ = .pointer (some ⟨w.heap.size, 4, none⟩)), (fun y_ _ => y_ = .int .u64 s), (fun y_ _ => y_ = .bool false), (fun y_ _ => y_ = .bool false), (fun y_ _ => y_ = .pointer (some ⟨w.heap.size, 4, none⟩)), (fun y_ _ => y_ = .int .u64 s), (fun y_ _ => y_ = .bool false), (fun y_ _ => y_ = .bool false), (fun y_ _ => y_ = .bool false), (fun y_ _ => y_ = .pointer (some ⟨w.heap.size, 2, none⟩)), (fun y_ _ => y_ = .int .i64 (mN : Int)), (fun y_ _ => y_ = .bool false), (fun y_ _ => y_ = .bool false), (fun y_ _ => y_ = .bool false), (fun y_ _ => y_ = .pointer (some ⟨w.heap.size, 2, none⟩)), (fun y_ _ => y_ = .int .i64 (mN : Int)), (fun y_ _ => y_ = .int .i64 c), (fun y_ _ => y_ = .int .i64 S0), (fun y_ _ => y_ = .bool false), (fun y_ _ => y_ = .bool false)] (by kernel_rfl) ⟨Stab.eq _, Stab.eq _, Stab.eq _, Stab.eq _, Stab.eq _, Stab.eq _, Stab.eq _, Stab.eq _, Stab.eq _, Stab.eq _, Stab.eq _, Stab.eq _, Stab.eq _, Stab.eq _, Stab.eq _, Stab.eq _, Stab.eq _, Stab.eq _, Stab.eq _, Stab.eq _, trivial⟩ (by kernel_rfl) (by rfl) ?_ ?_
              · intro kq hkq
                match kq, hkq with
                | 0, _ =>
                  refine StepOk.plain _ 51 rfl rfl rfl [(7, none)] (by kernel_rfl) (fun af wf hbw hf Kf hKf => ?_)
                  obtain ⟨g7, _⟩ := hf
                  have h7 : af.tmps[7]?.getD undef = .pointer (some ⟨w.heap.size, 0, none⟩) := g7
                  clear g7
                  go_simp
                  exact hKf _ _ (Below.refl _ _) rfl
                | 1, _ =>
                  refine StepOk.plain _ 52 rfl rfl rfl [(51, some 0)] (by kernel_rfl) (fun af wf hbw hf Kf hKf => ?_)
                  obtain ⟨g51, _⟩ := hf
                  have h51 : af.tmps[51]?.getD undef = .pointer (some ⟨w.heap.size, 4, none⟩) := g51
                  clear g51
                  have cB0 := (Blk.on (Blk.drew (hB1)) hbw).cell
                  go_simp
                  exact hKf _ _ (Below.refl _ _) rfl
                | 2, _ =>
                  refine StepOk.plain _ 53 rfl rfl rfl [(52, some 1)] (by kernel_rfl) (fun af wf hbw hf Kf hKf => ?_)
                  obtain ⟨g52, _⟩ := hf
                  have h52 : af.tmps[52]?.getD undef = .int .u64 s := g52
                  clear g52
                  have hd2 : decide (s < 1) = false := by simp; omega
                  go_simp
                  exact hKf _ _ (Below.refl _ _) rfl
                | 3, _ =>
                  refine StepOk.plain _ 54 rfl rfl rfl [(53, some 2)] (by kernel_rfl) (fun af wf hbw hf Kf hKf => ?_)
                  obtain ⟨g53, _⟩ := hf
                  have h53 : af.tmps[53]?.getD undef = .bool false := g53
                  clear g53
                  go_simp
                  exact hKf _ _ (Below.refl _ _) rfl
                | 4, _ =>
                  refine StepOk.yes _ 55 rfl rfl rfl rfl (fun _ _ h => h) [(7, none)] (by kernel_rfl) (fun af wf hbw hf Kf hKf => ?_)
                  obtain ⟨g7, _⟩ := hf
                  have h7 : af.tmps[7]?.getD undef = .pointer (some ⟨w.heap.size, 0, none⟩) := g7
                  clear g7
                  go_simp
                  exact hKf _ _ (Below.refl _ _) rfl
                | 5, _ =>
                  refine StepOk.yes _ 56 rfl rfl rfl rfl (fun _ _ h => h) [(55, some 4)] (by kernel_rfl) (fun af wf hbw hf Kf hKf => ?_)
                  obtain ⟨g55, _⟩ := hf
                  have h55 : af.tmps[55]?.getD undef = .pointer (some ⟨w.heap.size, 4, none⟩) := g55
                  clear g55
                  have cB0 := (Blk.on (Blk.drew (hB1)) hbw).cell
                  go_simp
                  exact hKf _ _ (Below.refl _ _) rfl
                | 6, _ =>
                  refine StepOk.yes _ 57 rfl rfl rfl rfl (fun _ _ h => h) [(56, some 5)] (by kernel_rfl) (fun af wf hbw hf Kf hKf => ?_)
                  obtain ⟨g56, _⟩ := hf
                  have h56 : af.tmps[56]?.getD undef = .int .u64 s := g56
                  clear g56
                  have hd6 : decide ((281474976710656 : Int) ≤ s) = false := by simp; omega
                  go_simp
                  exact hKf _ _ (Below.refl _ _) rfl
                | 7, _ =>
                  refine StepOk.plain _ 58 rfl rfl rfl [(54, some 3), (57, some 6)] (by kernel_rfl) (fun af wf hbw hf Kf hKf => ?_)
                  obtain ⟨g54, g57, _⟩ := hf
                  have h54 : af.tmps[54]?.getD undef = .bool false := g54
                  have h57 : af.tmps[57]?.getD undef = .bool false := g57
                  clear g54 g57
                  go_simp
                  exact hKf _ _ (Below.refl _ _) rfl
                | 8, _ =>
                  refine StepOk.plain _ 59 rfl rfl rfl [(58, some 7)] (by kernel_rfl) (fun af wf hbw hf Kf hKf => ?_)
                  obtain ⟨g58, _⟩ := hf
                  have h58 : af.tmps[58]?.getD undef = .bool false := g58
                  clear g58
                  go_simp
                  exact hKf _ _ (Below.refl _ _) rfl
                | 9, _ =>
                  refine StepOk.yes _ 60 rfl rfl rfl rfl (fun _ _ h => h) [(7, none)] (by kernel_rfl) (fun af wf hbw hf Kf hKf => ?_)
                  obtain ⟨g7, _⟩ := hf
                  have h7 : af.tmps[7]?.getD undef = .pointer (some ⟨w.heap.size, 0, none⟩) := g7
                  clear g7
                  go_simp
                  exact hKf _ _ (Below.refl _ _) rfl
                | 10, _ =>
                  refine StepOk.yes _ 61 rfl rfl rfl rfl (fun _ _ h => h) [(60, some 9)] (by kernel_rfl) (fun af wf hbw hf Kf hKf => ?_)
                  obtain ⟨g60, _⟩ := hf
                  have h60 : af.tmps[60]?.getD undef = .pointer (some ⟨w.heap.size, 2, none⟩) := g60
                  clear g60
                  have cB0 := (Blk.on (Blk.drew (hB1)) hbw).cell
                  go_simp
                  exact hKf _ _ (Below.refl _ _) rfl
                | 11, _ =>
                  refine StepOk.yes _ 62 rfl rfl rfl rfl (fun _ _ h => h) [(61, some 10)] (by kernel_rfl) (fun af wf hbw hf Kf hKf => ?_)
                  obtain ⟨g61, _⟩ := hf
                  have h61 : af.tmps[61]?.getD undef = .int .i64 (mN : Int) := g61
                  clear g61
                  have hd11 : decide ((mN : Int) < 1) = false := by simp; omega
                  go_simp
                  exact hKf _ _ (Below.refl _ _) rfl
                | 12, _ =>
                  refine StepOk.plain _ 63 rfl rfl rfl [(59, some 8), (62, some 11)] (by kernel_rfl) (fun af wf hbw hf Kf hKf => ?_)
                  obtain ⟨g59, g62, _⟩ := hf
                  have h59 : af.tmps[59]?.getD undef = .bool false := g59
                  have h62 : af.tmps[62]?.getD undef = .bool false := g62
                  clear g59 g62
                  go_simp
                  exact hKf _ _ (Below.refl _ _) rfl
                | 13, _ =>
                  refine StepOk.plain _ 64 rfl rfl rfl [(63, some 12)] (by kernel_rfl) (fun af wf hbw hf Kf hKf => ?_)
                  obtain ⟨g63, _⟩ := hf
                  have h63 : af.tmps[63]?.getD undef = .bool false := g63
                  clear g63
                  go_simp
                  exact hKf _ _ (Below.refl _ _) rfl
                | 14, _ =>
                  refine StepOk.yes _ 65 rfl rfl rfl rfl (fun _ _ h => h) [(7, none)] (by kernel_rfl) (fun af wf hbw hf Kf hKf => ?_)
                  obtain ⟨g7, _⟩ := hf
                  have h7 : af.tmps[7]?.getD undef = .pointer (some ⟨w.heap.size, 0, none⟩) := g7
                  clear g7
                  go_simp
                  exact hKf _ _ (Below.refl _ _) rfl
                | 15, _ =>
                  refine StepOk.yes _ 66 rfl rfl rfl rfl (fun _ _ h => h) [(65, some 14)] (by kernel_rfl) (fun af wf hbw hf Kf hKf => ?_)
                  obtain ⟨g65, _⟩ := hf
                  have h65 : af.tmps[65]?.getD undef = .pointer (some ⟨w.heap.size, 2, none⟩) := g65
                  clear g65
                  have cB0 := (Blk.on (Blk.drew (hB1)) hbw).cell
                  go_simp
                  exact hKf _ _ (Below.refl _ _) rfl
                | 16, _ =>
                  refine StepOk.yes _ 67 rfl rfl rfl rfl (fun _ _ h => h) [(2, none)] (by kernel_rfl) (fun af wf hbw hf Kf hKf => ?_)
                  obtain ⟨g2, _⟩ := hf
                  have h2 : af.tmps[2]?.getD undef = .int .i64 c := g2
                  clear g2
                  go_simp
                  exact hKf _ _ (Below.refl _ _) rfl
                | 17, _ =>
                  refine StepOk.yes _ 68 rfl rfl rfl rfl (fun _ _ h => h) [(67, some 16)] (by kernel_rfl) (fun af wf hbw hf Kf hKf => ?_)
                  obtain ⟨g67, _⟩ := hf
                  have h67 : af.tmps[67]?.getD undef = .int .i64 c := g67
                  clear g67
                  go_simp
                  refine (hS _).mono ?_
                  rintro e wN ⟨rfl, rfl⟩
                  exact hKf _ _ (Below.refl _ _) (rfl)
                | 18, _ =>
                  refine StepOk.yes _ 69 rfl rfl rfl rfl (fun _ _ h => h) [(66, some 15), (68, some 17)] (by kernel_rfl) (fun af wf hbw hf Kf hKf => ?_)
                  obtain ⟨g66, g68, _⟩ := hf
                  have h66 : af.tmps[66]?.getD undef = .int .i64 (mN : Int) := g66
                  have h68 : af.tmps[68]?.getD undef = .int .i64 S0 := g68
                  clear g66 g68
                  have hd18 : decide (S0 < (mN : Int)) = false := by simp; omega
                  go_simp
                  exact hKf _ _ (Below.refl _ _) rfl
                | 19, _ =>
                  refine StepOk.plain _ 70 rfl rfl rfl [(64, some 13), (69, some 18)] (by kernel_rfl) (fun af wf hbw hf Kf hKf => ?_)
                  obtain ⟨g64, g69, _⟩ := hf
                  have h64 : af.tmps[64]?.getD undef = .bool false := g64
                  have h69 : af.tmps[69]?.getD undef = .bool false := g69
                  clear g64 g69
                  go_simp
                  exact hKf _ _ (Below.refl _ _) rfl
                | i + 20, h => exact absurd h (by show ¬ (i + 20 < 20); omega)
              · intro af wF hbF hdF hsF hbaseF hfactF
                obtain ⟨T, dsF⟩ := af
                obtain rfl : dsF = _ := hdF
                have e70 := hfactF 19 70 (by decide) rfl
                replace e70 : T[70]?.getD undef = .bool false := e70
                have hT := frame_back T [51, 52, 53, 54, 55, 56, 57, 58, 59, 60, 61, 62, 63, 64, 65, 66, 67, 68, 69, 70] hbaseF hsF (by kernel_rfl)
                simp only [List.foldl_cons, List.foldl_nil, List.setIfInBounds_toArray, List.set_cons_zero, List.set_cons_succ] at hT
                clear hbaseF hfactF hsF
                generalize T[51]?.getD undef = u51 at hT
                generalize T[52]?.getD undef = u52 at hT
                generalize T[53]?.getD undef = u53 at hT
                generalize T[54]?.getD undef = u54 at hT
                generalize T[55]?.getD undef = u55 at hT
                generalize T[56]?.getD undef = u56 at hT
                generalize T[57]?.getD undef = u57 at hT
                generalize T[58]?.getD undef = u58 at hT
                generalize T[59]?.getD undef = u59 at hT
                generalize T[60]?.getD undef = u60 at hT
                generalize T[61]?.getD undef = u61 at hT
                generalize T[62]?.getD undef = u62 at hT
                generalize T[63]?.getD undef = u63 at hT
                generalize T[64]?.getD undef = u64 at hT
                generalize T[65]?.getD undef = u65 at hT
                generalize T[66]?.getD undef = u66 at hT
                generalize T[67]?.getD undef = u67 at hT
                generalize T[68]?.getD undef = u68 at hT
                generalize T[69]?.getD undef = u69 at hT
                rw [e70] at hT; clear e70
                subst hT
                have hbY := hbX.trans (hbF.mono hbX.size)
                have hcv1 := conv cp _ (hr.below hbY)
                go_wp2_with fail
                go_ret3
                exact Stepped.same hr hn hcp hrl hP (by (have q_hbY := Below.size hbY; (try simp at q_hbY); repeat (first | exact Below.refl _ _ | (refine Below.trans ?_ (Below.mono hbY (by first | omega | (simp; omega) | simp))) | (refine Below.setCell ?_ (by first | omega | (simp; omega) | simp) _) | (refine Below.alloc ?_ (by first | omega | (simp; omega) | simp) _) | apply Below.drew | apply below_drewN)))
            · have hfw : freeW (win z p k) = true := by rw [(hP.tells hc ho).2.1]; exact decide_eq_true ho0
              rw [hll] at hk
              have hF := take_yes hc A cp p s k mN wc hrc hn hcp hmp hk (hP.noneFree hc hno (by omega)) hfw (by omega) (by omega) (by omega) (by omega)
              have hPn := hP.set_ (j := 0) (x := putL 2 (mN : Int) ++ putL 6 s) (o' := (s, List.replicate mN 0)) hc.fit ho (by simp [putL_len]; omega) (sow_take z mN s o ho0 (by omega) (by omega)) (by
                right
                simp
                omega)
              rw [Nat.add_zero] at hPn
              obtain ⟨Q, hQ⟩ : ∃ Q, Q = layL p (k * z) (putL 2 (mN : Int) ++ putL 6 s) := ⟨_, rfl⟩
              obtain ⟨Z, hZ⟩ : ∃ Z : List UInt8, Z = List.replicate mN 0 := ⟨_, rfl⟩
              have hZl : Z.length = mN := by rw [hZ]; simp
              rw [← hZ] at hPn
              have HZ := Lib.hid hZ
              obtain ⟨LL, hLL⟩ : ∃ LL, LL = l.set k (s, Z) := ⟨_, rfl⟩
              have hQl := (hPn.may hc).2
              have hLl := hPn.len
              have HLL := Lib.hid hLL
              have HFI := Lib.hid hfi
              rw [← hQ] at hF hPn hQl
              rw [← hLL] at hPn hLl
              clear hQ hLL hZ ho hfw hfi hno ho0
              go_wp2_with fail
              refine hF.mono ?_
              rintro e w1 ⟨v1, rfl, hFq, hb1⟩
              obtain ⟨A2, c2, rfl, hRq, _, hn2, hm2'⟩ := hFq.rdn 256 hQl
              clear hF hFq
              have hrl1 := hrlc.below hb1
              have hB1 := hB.on hb1
              have hbX := hbel.trans (hb1.mono hzc)
              clear cB hcv
              go_wp2_with fail
              refine (rfirst_any Al N cl _ _ l _ hrl1 (by omega)).mono ?_
              rintro e w2 ⟨rfl, hb2⟩
              replace hrl1 := hrl1.below hb2
              replace hB1 := hB1.on hb2
              replace hbX := hbX.trans (hb2.mono hbX.size)
              rw [HFI.out]
              replace hRq := hRq.below hb2
              go_wp2_with fail
              refine wp_flows [(fun y_ _ => y_ = .pointer (some ⟨w.heap.size, 4, none⟩)), (fun y_ _ => y_ = .int .u64 s), (fun y_ _ => y_ = .bool false), (fun y_ _ => y_ = .bool false), (fun y_ _ => y_ = .pointer (some ⟨w.heap.size, 4, none⟩)), (fun y_ _ => y_ = .int .u64 s), (fun y_ _ => y_ = .bool false), (fun y_ _ => y_ = .bool false), (fun y_ _ => y_ = .bool false), (fun y_ _ => y_ = .pointer (some ⟨w.heap.size, 2, none⟩)), (fun y_ _ => y_ = .int .i64 (mN : Int)), (fun y_ _ => y_ = .bool false), (fun y_ _ => y_ = .bool false), (fun y_ _ => y_ = .bool false), (fun y_ _ => y_ = .pointer (some ⟨w.heap.size, 2, none⟩)), (fun y_ _ => y_ = .int .i64 (mN : Int)), (fun y_ _ => y_ = .int .i64 c), (fun y_ _ => y_ = .int .i64 S0), (fun y_ _ => y_ = .bool false), (fun y_ _ => y_ = .bool false)] (by kernel_rfl) ⟨Stab.eq _, Stab.eq _, Stab.eq _, Stab.eq _, Stab.eq _, Stab.eq _, Stab.eq _, Stab.eq _, Stab.eq _, Stab.eq _, Stab.eq _, Stab.eq _, Stab.eq _, Stab.eq _, Stab.eq _, Stab.eq _, Stab.eq _, Stab.eq _, Stab.eq _, Stab.eq _, trivial⟩ (by kernel_rfl) (by rfl) ?_ ?_
              · intro kq hkq
                match kq, hkq with
                | 0, _ =>
                  refine StepOk.plain _ 51 rfl rfl rfl [(7, none)] (by kernel_rfl) (fun af wf hbw hf Kf hKf => ?_)
                  obtain ⟨g7, _⟩ := hf
                  have h7 : af.tmps[7]?.getD undef = .pointer (some ⟨w.heap.size, 0, none⟩) := g7
                  clear g7
                  go_simp
                  exact hKf _ _ (Below.refl _ _) rfl
                | 1, _ =>
                  refine StepOk.plain _ 52 rfl rfl rfl [(51, some 0)] (by kernel_rfl) (fun af wf hbw hf Kf hKf => ?_)
                  obtain ⟨g51, _⟩ := hf
                  have h51 : af.tmps[51]?.getD undef = .pointer (some ⟨w.heap.size, 4, none⟩) := g51
                  clear g51
                  have cB0 := (Blk.on (Blk.drew (hB1)) hbw).cell
                  go_simp
                  exact hKf _ _ (Below.refl _ _) rfl
                | 2, _ =>
                  refine StepOk.plain _ 53 rfl rfl rfl [(52, some 1)] (by kernel_rfl) (fun af wf hbw hf Kf hKf => ?_)
                  obtain ⟨g52, _⟩ := hf
                  have h52 : af.tmps[52]?.getD undef = .int .u64 s := g52
                  clear g52
                  have hd2 : decide (s < 1) = false := by simp; omega
                  go_simp
                  exact hKf _ _ (Below.refl _ _) rfl
                | 3, _ =>
                  refine StepOk.plain _ 54 rfl rfl rfl [(53, some 2)] (by kernel_rfl) (fun af wf hbw hf Kf hKf => ?_)
                  obtain ⟨g53, _⟩ := hf
                  have h53 : af.tmps[53]?.getD undef = .bool false := g53
                  clear g53
                  go_simp
                  exact hKf _ _ (Below.refl _ _) rfl
                | 4, _ =>
                  refine StepOk.yes _ 55 rfl rfl rfl rfl (fun _ _ h => h) [(7, none)] (by kernel_rfl) (fun af wf hbw hf Kf hKf => ?_)
                  obtain ⟨g7, _⟩ := hf
                  have h7 : af.tmps[7]?.getD undef = .pointer (some ⟨w.heap.size, 0, none⟩) := g7
                  clear g7
                  go_simp
                  exact hKf _ _ (Below.refl _ _) rfl
                | 5, _ =>
                  refine StepOk.yes _ 56 rfl rfl rfl rfl (fun _ _ h => h) [(55, some 4)] (by kernel_rfl) (fun af wf hbw hf Kf hKf => ?_)
                  obtain ⟨g55, _⟩ := hf
                  have h55 : af.tmps[55]?.getD undef = .pointer (some ⟨w.heap.size, 4, none⟩) := g55
                  clear g55
                  have cB0 := (Blk.on (Blk.drew (hB1)) hbw).cell
                  go_simp
                  exact hKf _ _ (Below.refl _ _) rfl
                | 6, _ =>
                  refine StepOk.yes _ 57 rfl rfl rfl rfl (fun _ _ h => h) [(56, some 5)] (by kernel_rfl) (fun af wf hbw hf Kf hKf => ?_)
                  obtain ⟨g56, _⟩ := hf
                  have h56 : af.tmps[56]?.getD undef = .int .u64 s := g56
                  clear g56
                  have hd6 : decide ((281474976710656 : Int) ≤ s) = false := by simp; omega
                  go_simp
                  exact hKf _ _ (Below.refl _ _) rfl
                | 7, _ =>
                  refine StepOk.plain _ 58 rfl rfl rfl [(54, some 3), (57, some 6)] (by kernel_rfl) (fun af wf hbw hf Kf hKf => ?_)
                  obtain ⟨g54, g57, _⟩ := hf
                  have h54 : af.tmps[54]?.getD undef = .bool false := g54
                  have h57 : af.tmps[57]?.getD undef = .bool false := g57
                  clear g54 g57
                  go_simp
                  exact hKf _ _ (Below.refl _ _) rfl
                | 8, _ =>
                  refine StepOk.plain _ 59 rfl rfl rfl [(58, some 7)] (by kernel_rfl) (fun af wf hbw hf Kf hKf => ?_)
                  obtain ⟨g58, _⟩ := hf
                  have h58 : af.tmps[58]?.getD undef = .bool false := g58
                  clear g58
                  go_simp
                  exact hKf _ _ (Below.refl _ _) rfl
                | 9, _ =>
                  refine StepOk.yes _ 60 rfl rfl rfl rfl (fun _ _ h => h) [(7, none)] (by kernel_rfl) (fun af wf hbw hf Kf hKf => ?_)
                  obtain ⟨g7, _⟩ := hf
                  have h7 : af.tmps[7]?.getD undef = .pointer (some ⟨w.heap.size, 0, none⟩) := g7
                  clear g7
                  go_simp
                  exact hKf _ _ (Below.refl _ _) rfl
                | 10, _ =>
                  refine StepOk.yes _ 61 rfl rfl rfl rfl (fun _ _ h => h) [(60, some 9)] (by kernel_rfl) (fun af wf hbw hf Kf hKf => ?_)
                  obtain ⟨g60, _⟩ := hf
                  have h60 : af.tmps[60]?.getD undef = .pointer (some ⟨w.heap.size, 2, none⟩) := g60
                  clear g60
                  have cB0 := (Blk.on (Blk.drew (hB1)) hbw).cell
                  go_simp
                  exact hKf _ _ (Below.refl _ _) rfl
                | 11, _ =>
                  refine StepOk.yes _ 62 rfl rfl rfl rfl (fun _ _ h => h) [(61, some 10)] (by kernel_rfl) (fun af wf hbw hf Kf hKf => ?_)
                  obtain ⟨g61, _⟩ := hf
                  have h61 : af.tmps[61]?.getD undef = .int .i64 (mN : Int) := g61
                  clear g61
                  have hd11 : decide ((mN : Int) < 1) = false := by simp; omega
                  go_simp
                  exact hKf _ _ (Below.refl _ _) rfl
                | 12, _ =>
                  refine StepOk.plain _ 63 rfl rfl rfl [(59, some 8), (62, some 11)] (by kernel_rfl) (fun af wf hbw hf Kf hKf => ?_)
                  obtain ⟨g59, g62, _⟩ := hf
                  have h59 : af.tmps[59]?.getD undef = .bool false := g59
                  have h62 : af.tmps[62]?.getD undef = .bool false := g62
                  clear g59 g62
                  go_simp
                  exact hKf _ _ (Below.refl _ _) rfl
                | 13, _ =>
                  refine StepOk.plain _ 64 rfl rfl rfl [(63, some 12)] (by kernel_rfl) (fun af wf hbw hf Kf hKf => ?_)
                  obtain ⟨g63, _⟩ := hf
                  have h63 : af.tmps[63]?.getD undef = .bool false := g63
                  clear g63
                  go_simp
                  exact hKf _ _ (Below.refl _ _) rfl
                | 14, _ =>
                  refine StepOk.yes _ 65 rfl rfl rfl rfl (fun _ _ h => h) [(7, none)] (by kernel_rfl) (fun af wf hbw hf Kf hKf => ?_)
                  obtain ⟨g7, _⟩ := hf
                  have h7 : af.tmps[7]?.getD undef = .pointer (some ⟨w.heap.size, 0, none⟩) := g7
                  clear g7
                  go_simp
                  exact hKf _ _ (Below.refl _ _) rfl
                | 15, _ =>
                  refine StepOk.yes _ 66 rfl rfl rfl rfl (fun _ _ h => h) [(65, some 14)] (by kernel_rfl) (fun af wf hbw hf Kf hKf => ?_)
                  obtain ⟨g65, _⟩ := hf
                  have h65 : af.tmps[65]?.getD undef = .pointer (some ⟨w.heap.size, 2, none⟩) := g65
                  clear g65
                  have cB0 := (Blk.on (Blk.drew (hB1)) hbw).cell
                  go_simp
                  exact hKf _ _ (Below.refl _ _) rfl
                | 16, _ =>
                  refine StepOk.yes _ 67 rfl rfl rfl rfl (fun _ _ h => h) [(2, none)] (by kernel_rfl) (fun af wf hbw hf Kf hKf => ?_)
                  obtain ⟨g2, _⟩ := hf
                  have h2 : af.tmps[2]?.getD undef = .int .i64 c := g2
                  clear g2
                  go_simp
                  exact hKf _ _ (Below.refl _ _) rfl
                | 17, _ =>
                  refine StepOk.yes _ 68 rfl rfl rfl rfl (fun _ _ h => h) [(67, some 16)] (by kernel_rfl) (fun af wf hbw hf Kf hKf => ?_)
                  obtain ⟨g67, _⟩ := hf
                  have h67 : af.tmps[67]?.getD undef = .int .i64 c := g67
                  clear g67
                  go_simp
                  refine (hS _).mono ?_
                  rintro e wN ⟨rfl, rfl⟩
                  exact hKf _ _ (Below.refl _ _) (rfl)
                | 18, _ =>
                  refine StepOk.yes _ 69 rfl rfl rfl rfl (fun _ _ h => h) [(66, some 15), (68, some 17)] (by kernel_rfl) (fun af wf hbw hf Kf hKf => ?_)
                  obtain ⟨g66, g68, _⟩ := hf
                  have h66 : af.tmps[66]?.getD undef = .int .i64 (mN : Int) := g66
                  have h68 : af.tmps[68]?.getD undef = .int .i64 S0 := g68
                  clear g66 g68
                  have hd18 : decide (S0 < (mN : Int)) = false := by simp; omega
                  go_simp
                  exact hKf _ _ (Below.refl _ _) rfl
                | 19, _ =>
                  refine StepOk.plain _ 70 rfl rfl rfl [(64, some 13), (69, some 18)] (by kernel_rfl) (fun af wf hbw hf Kf hKf => ?_)
                  obtain ⟨g64, g69, _⟩ := hf
                  have h64 : af.tmps[64]?.getD undef = .bool false := g64
                  have h69 : af.tmps[69]?.getD undef = .bool false := g69
                  clear g64 g69
                  go_simp
                  exact hKf _ _ (Below.refl _ _) rfl
                | i + 20, h => exact absurd h (by show ¬ (i + 20 < 20); omega)
              · intro af wF hbF hdF hsF hbaseF hfactF
                obtain ⟨T, dsF⟩ := af
                obtain rfl : dsF = _ := hdF
                have e70 := hfactF 19 70 (by decide) rfl
                replace e70 : T[70]?.getD undef = .bool false := e70
                have hT := frame_back T [51, 52, 53, 54, 55, 56, 57, 58, 59, 60, 61, 62, 63, 64, 65, 66, 67, 68, 69, 70] hbaseF hsF (by kernel_rfl)
                simp only [List.foldl_cons, List.foldl_nil, List.setIfInBounds_toArray, List.set_cons_zero, List.set_cons_succ] at hT
                clear hbaseF hfactF hsF
                generalize T[51]?.getD undef = u51 at hT
                generalize T[52]?.getD undef = u52 at hT
                generalize T[53]?.getD undef = u53 at hT
                generalize T[54]?.getD undef = u54 at hT
                generalize T[55]?.getD undef = u55 at hT
                generalize T[56]?.getD undef = u56 at hT
                generalize T[57]?.getD undef = u57 at hT
                generalize T[58]?.getD undef = u58 at hT
                generalize T[59]?.getD undef = u59 at hT
                generalize T[60]?.getD undef = u60 at hT
                generalize T[61]?.getD undef = u61 at hT
                generalize T[62]?.getD undef = u62 at hT
                generalize T[63]?.getD undef = u63 at hT
                generalize T[64]?.getD undef = u64 at hT
                generalize T[65]?.getD undef = u65 at hT
                generalize T[66]?.getD undef = u66 at hT
                generalize T[67]?.getD undef = u67 at hT
                generalize T[68]?.getD undef = u68 at hT
                generalize T[69]?.getD undef = u69 at hT
                rw [e70] at hT; clear e70
                subst hT
                have hB4 := hB1.on hbF
                have hrl4 := hrl1.below hbF
                have hbY := hbX.trans (hbF.mono hbX.size)
                have hRq2 := hRq.below hbF
                obtain ⟨w4, hw4⟩ : ∃ w4, w4 = wF := ⟨_, rfl⟩
                subst hw4
                clear hbF hB1 hrl1 hRq hbX hb1 hb2
                go_wp2_with fail
                refine wp_flows [(fun y_ _ => y_ = .slice Al N cl), (fun y_ _ => y_ = .int .i64 (k : Int)), (fun y_ _ => y_ = .pointer (some ⟨w.heap.size, 4, none⟩)), (fun y_ _ => y_ = .int .u64 s), (fun y_ _ => y_ = .pointer (some ⟨w.heap.size, 2, none⟩)), (fun y_ _ => y_ = .int .i64 (mN : Int)), IsFr 5 mN Z, IsFrAg 5 s mN Z, IsObs 5 w.heap.size N LL, IsObs 5 w.heap.size N LL] (by kernel_rfl) ⟨Stab.eq _, Stab.eq _, Stab.eq _, Stab.eq _, Stab.eq _, Stab.eq _, IsFr.stab _ _ _, IsFrAg.stab _ _ _ _, IsObs.stab _ _ _ _, IsObs.stab _ _ _ _, trivial⟩ (by kernel_rfl) (by rfl) ?_ ?_
                · intro kq hkq
                  match kq, hkq with
                  | 0, _ =>
                    refine StepOk.plain _ 73 rfl rfl rfl [(1, none)] (by kernel_rfl) (fun af wf hbw hf Kf hKf => ?_)
                    obtain ⟨g1, _⟩ := hf
                    have h1 : af.tmps[1]?.getD undef = .slice Al N cl := g1
                    clear g1
                    go_simp
                    exact hKf _ _ (Below.refl _ _) rfl
                  | 1, _ =>
                    refine StepOk.plain _ 74 rfl rfl rfl [(17, none)] (by kernel_rfl) (fun af wf hbw hf Kf hKf => ?_)
                    obtain ⟨g17, _⟩ := hf
                    have h17 : af.tmps[17]?.getD undef = .int .i64 (k : Int) := g17
                    clear g17
                    go_simp
                    exact hKf _ _ (Below.refl _ _) rfl
                  | 2, _ =>
                    refine StepOk.plain _ 75 rfl rfl rfl [(7, none)] (by kernel_rfl) (fun af wf hbw hf Kf hKf => ?_)
                    obtain ⟨g7, _⟩ := hf
                    have h7 : af.tmps[7]?.getD undef = .pointer (some ⟨w.heap.size, 0, none⟩) := g7
                    clear g7
                    go_simp
                    exact hKf _ _ (Below.refl _ _) rfl
                  | 3, _ =>
                    refine StepOk.plain _ 76 rfl rfl rfl [(75, some 2)] (by kernel_rfl) (fun af wf hbw hf Kf hKf => ?_)
                    obtain ⟨g75, _⟩ := hf
                    have h75 : af.tmps[75]?.getD undef = .pointer (some ⟨w.heap.size, 4, none⟩) := g75
                    clear g75
                    have cB0 := (Blk.on (Blk.drew (hB4)) hbw).cell
                    go_simp
                    exact hKf _ _ (Below.refl _ _) rfl
                  | 4, _ =>
                    refine StepOk.plain _ 77 rfl rfl rfl [(7, none)] (by kernel_rfl) (fun af wf hbw hf Kf hKf => ?_)
                    obtain ⟨g7, _⟩ := hf
                    have h7 : af.tmps[7]?.getD undef = .pointer (some ⟨w.heap.size, 0, none⟩) := g7
                    clear g7
                    go_simp
                    exact hKf _ _ (Below.refl _ _) rfl
                  | 5, _ =>
                    refine StepOk.plain _ 78 rfl rfl rfl [(77, some 4)] (by kernel_rfl) (fun af wf hbw hf Kf hKf => ?_)
                    obtain ⟨g77, _⟩ := hf
                    have h77 : af.tmps[77]?.getD undef = .pointer (some ⟨w.heap.size, 2, none⟩) := g77
                    clear g77
                    have cB0 := (Blk.on (Blk.drew (hB4)) hbw).cell
                    go_simp
                    exact hKf _ _ (Below.refl _ _) rfl
                  | 6, _ =>
                    refine StepOk.plain _ 79 rfl rfl rfl [(78, some 5)] (by kernel_rfl) (fun af wf hbw hf Kf hKf => ?_)
                    obtain ⟨g78, _⟩ := hf
                    have h78 : af.tmps[78]?.getD undef = .int .i64 (mN : Int) := g78
                    clear g78
                    have hmk := make_bytes (P := Try.prog) Try.underlying32 info8 .i64 .i64 mN (by omega) Z hZl
                    go_simp
                    exact hKf _ _ ((Below.refl _ _).alloc (Nat.le_refl _) _) (IsFr.of (Fresh.noughts _ _ Z mN HZ.out (by unfold maxLen; omega)) hZl)
                  | 7, _ =>
                    refine StepOk.plain _ 80 rfl rfl rfl [(76, some 3), (79, some 6)] (by kernel_rfl) (fun af wf hbw hf Kf hKf => ?_)
                    obtain ⟨g76, g79, _⟩ := hf
                    have h76 : af.tmps[76]?.getD undef = .int .u64 s := g76
                    have g79 : IsFr 5 mN Z (af.tmps[79]?.getD undef) wf := g79
                    obtain ⟨A79, c79, h79, hX79, hn79, hm79⟩ := g79
                    clear g76
                    go_simp
                    exact hKf _ _ (Below.refl _ _) (⟨A79, c79, rfl, hX79, hn79, hm79⟩)
                  | 8, _ =>
                    refine StepOk.plain _ 81 rfl rfl rfl [(73, some 0), (74, some 1), (80, some 7)] (by kernel_rfl) (fun af wf hbw hf Kf hKf => ?_)
                    obtain ⟨g73, g74, g80, _⟩ := hf
                    have h73 : af.tmps[73]?.getD undef = .slice Al N cl := g73
                    have h74 : af.tmps[74]?.getD undef = .int .i64 (k : Int) := g74
                    have g80 : IsFrAg 5 s mN Z (af.tmps[80]?.getD undef) wf := g80
                    obtain ⟨A80, c80, h80, hX80, hn80, hm80⟩ := g80
                    clear g73 g74
                    go_simp
                    refine (rwith_any Al N cl w.heap.size l k s A80 mN c80 Z _ (hrl4.drew.below hbw) (Nat.le_trans hbY.size hbw.size) (by omega) hk (hX80.mono (Nat.zero_le _)) hn80 hm80).mono ?_
                    rintro e wN ⟨r, rfl, hF, hb⟩
                    exact hKf _ _ (hb) (IsObs.of (HLL.out ▸ hF) hLl)
                  | 9, _ =>
                    refine StepOk.plain _ 15 rfl rfl rfl [(81, some 8)] (by kernel_rfl) (fun af wf hbw hf Kf hKf => ?_)
                    obtain ⟨g81, _⟩ := hf
                    have g81 : IsObs 5 w.heap.size N LL (af.tmps[81]?.getD undef) wf := g81
                    obtain ⟨A81, c81, h81, hR81⟩ := g81
                    go_simp
                    exact hKf _ _ (Below.refl _ _) (⟨A81, c81, rfl, hR81⟩)
                  | i + 10, h => exact absurd h (by show ¬ (i + 10 < 10); omega)
                · intro af wF hbF hdF hsF hbaseF hfactF
                  obtain ⟨T, dsF⟩ := af
                  obtain rfl : dsF = _ := hdF
                  have e15 := hfactF 9 15 (by decide) rfl
                  replace e15 : IsObs 5 w.heap.size N LL (T[15]?.getD undef) wF := e15
                  have hT := frame_back T [15, 73, 74, 75, 76, 77, 78, 79, 80, 81] hbaseF hsF (by kernel_rfl)
                  simp only [List.foldl_cons, List.foldl_nil, List.setIfInBounds_toArray, List.set_cons_zero, List.set_cons_succ] at hT
                  clear hbaseF hfactF hsF
                  generalize T[15]?.getD undef = u15 at hT e15
                  generalize T[73]?.getD undef = u73 at hT
                  generalize T[74]?.getD undef = u74 at hT
                  generalize T[75]?.getD undef = u75 at hT
                  generalize T[76]?.getD undef = u76 at hT
                  generalize T[77]?.getD undef = u77 at hT
                  generalize T[78]?.getD undef = u78 at hT
                  generalize T[79]?.getD undef = u79 at hT
                  generalize T[80]?.getD undef = u80 at hT
                  generalize T[81]?.getD undef = u81 at hT
                  subst hT
                  obtain ⟨Am, cm, rfl, hRm⟩ := e15
                  have hbX := hbY.trans (hbF.mono hbY.size)
                  have hR2 := hRq2.below hbF
                  have hcv1 := conv cp _ (hr.below hbX)
                  clear hbF
                  have hOKl := Lib.hid (hPn.small hc)
                  have HPG := Lib.hid hPn.page.symm
                  have hN16 := hc.few
                  go_wp2_with fail
                  refine wp_flows [(fun y_ _ => y_ = .slice A2 256 c2), (fun y_ _ => y_ = .slice Am N cm), (fun y_ _ => y_ = .slice A2 256 c2), (fun y_ _ => y_ = .string (str Q)), (fun y_ _ => y_ = .slice Am N cm), (fun y_ _ => y_ = .int .i64 c), (IsB (256) (Q)), (fun y_ _ => y_ = .string (str (Q))), (fun y_ _ => y_ = .bool true), (fun y_ _ => y_ = .slice A2 256 c2), (fun y_ _ => y_ = .slice Am N cm), (fun y_ _ => y_ = .bool true)] (by kernel_rfl) ⟨Stab.eq _, Stab.eq _, Stab.eq _, Stab.eq _, Stab.eq _, Stab.eq _, Stab.b _ _, Stab.eq _, Stab.eq _, Stab.eq _, Stab.eq _, Stab.eq _, trivial⟩ (by kernel_rfl) (by rfl) ?_ ?_
                  · intro kq hkq
                    match kq, hkq with
                    | 0, _ =>
                      refine StepOk.plain _ 259 rfl rfl rfl [(12, none)] (by kernel_rfl) (fun af wf hbw hf Kf hKf => ?_)
                      obtain ⟨g12, _⟩ := hf
                      have h12 : af.tmps[12]?.getD undef = .slice A2 256 c2 := g12
                      clear g12
                      go_simp
                      exact hKf _ _ (Below.refl _ _) rfl
                    | 1, _ =>
                      refine StepOk.plain _ 260 rfl rfl rfl [(15, none)] (by kernel_rfl) (fun af wf hbw hf Kf hKf => ?_)
                      obtain ⟨g15, _⟩ := hf
                      have h15 : af.tmps[15]?.getD undef = .slice Am N cm := g15
                      clear g15
                      go_simp
                      exact hKf _ _ (Below.refl _ _) rfl
                    | 2, _ =>
                      refine StepOk.plain _ 261 rfl rfl rfl [(12, none)] (by kernel_rfl) (fun af wf hbw hf Kf hKf => ?_)
                      obtain ⟨g12, _⟩ := hf
                      have h12 : af.tmps[12]?.getD undef = .slice A2 256 c2 := g12
                      clear g12
                      go_simp
                      exact hKf _ _ (Below.refl _ _) rfl
                    | 3, _ =>
                      refine StepOk.plain _ 262 rfl rfl rfl [(261, some 2)] (by kernel_rfl) (fun af wf hbw hf Kf hKf => ?_)
                      obtain ⟨g261, _⟩ := hf
                      have h261 : af.tmps[261]?.getD undef = .slice A2 256 c2 := g261
                      clear g261
                      have hcv := conv c2 _ (Rd.below (Rd.drew hR2) hbw)
                      go_simp
                      exact hKf _ _ (Below.refl _ _) rfl
                    | 4, _ =>
                      refine StepOk.plain _ 263 rfl rfl rfl [(15, none)] (by kernel_rfl) (fun af wf hbw hf Kf hKf => ?_)
                      obtain ⟨g15, _⟩ := hf
                      have h15 : af.tmps[15]?.getD undef = .slice Am N cm := g15
                      clear g15
                      go_simp
                      exact hKf _ _ (Below.refl _ _) rfl
                    | 5, _ =>
                      refine StepOk.plain _ 264 rfl rfl rfl [(2, none)] (by kernel_rfl) (fun af wf hbw hf Kf hKf => ?_)
                      obtain ⟨g2, _⟩ := hf
                      have h2 : af.tmps[2]?.getD undef = .int .i64 c := g2
                      clear g2
                      go_simp
                      exact hKf _ _ (Below.refl _ _) rfl
                    | 6, _ =>
                      refine StepOk.plain _ 265 rfl rfl rfl [(263, some 4), (264, some 5)] (by kernel_rfl) (fun af wf hbw hf Kf hKf => ?_)
                      obtain ⟨g263, g264, _⟩ := hf
                      have h263 : af.tmps[263]?.getD undef = .slice Am N cm := g263
                      have h264 : af.tmps[264]?.getD undef = .int .i64 c := g264
                      clear g263 g264
                      go_simp
                      refine (rpage_any hc Am N cm _ _ LL _ (hRm.drew.below hbw) hN16 hOKl.out).mono ?_
                      rintro e wN ⟨r, rfl, hF, hb⟩
                      exact hKf _ _ (hb) (IsB.of (HPG.out ▸ hF) hQl)
                    | 7, _ =>
                      refine StepOk.plain _ 266 rfl rfl rfl [(265, some 6)] (by kernel_rfl) (fun af wf hbw hf Kf hKf => ?_)
                      obtain ⟨g265, _⟩ := hf
                      obtain ⟨A265, c265, h265, hR265, hn265, hm265⟩ : IsB (256) (Q) (af.tmps[265]?.getD undef) wf := g265
                      have hcv := conv c265 _ hR265
                      go_simp
                      exact hKf _ _ (Below.refl _ _) rfl
                    | 8, _ =>
                      refine StepOk.plain _ 267 rfl rfl rfl [(262, some 3), (266, some 7)] (by kernel_rfl) (fun af wf hbw hf Kf hKf => ?_)
                      obtain ⟨g262, g266, _⟩ := hf
                      have h262 : af.tmps[262]?.getD undef = .string (str Q) := g262
                      have h266 : af.tmps[266]?.getD undef = .string (str (Q)) := g266
                      clear g262 g266
                      go_simp
                      exact hKf _ _ (Below.refl _ _) rfl
                    | 9, _ =>
                      refine StepOk.plain _ 8 rfl rfl rfl [(259, some 0)] (by kernel_rfl) (fun af wf hbw hf Kf hKf => ?_)
                      obtain ⟨g259, _⟩ := hf
                      have h259 : af.tmps[259]?.getD undef = .slice A2 256 c2 := g259
                      clear g259
                      go_simp
                      exact hKf _ _ (Below.refl _ _) rfl
                    | 10, _ =>
                      refine StepOk.plain _ 9 rfl rfl rfl [(260, some 1)] (by kernel_rfl) (fun af wf hbw hf Kf hKf => ?_)
                      obtain ⟨g260, _⟩ := hf
                      have h260 : af.tmps[260]?.getD undef = .slice Am N cm := g260
                      clear g260
                      go_simp
                      exact hKf _ _ (Below.refl _ _) rfl
                    | 11, _ =>
                      refine StepOk.plain _ 10 rfl rfl rfl [(267, some 8)] (by kernel_rfl) (fun af wf hbw hf Kf hKf => ?_)
                      obtain ⟨g267, _⟩ := hf
                      have h267 : af.tmps[267]?.getD undef = .bool true := g267
                      clear g267
                      go_simp
                      exact hKf _ _ (Below.refl _ _) rfl
                    | i + 12, h => exact absurd h (by show ¬ (i + 12 < 12); omega)
                  · intro af wF hbF hdF hsF hbaseF hfactF
                    obtain ⟨T, dsF⟩ := af
                    obtain rfl : dsF = _ := hdF
                    have e8 := hfactF 9 8 (by decide) rfl
                    replace e8 : T[8]?.getD undef = .slice A2 256 c2 := e8
                    have e9 := hfactF 10 9 (by decide) rfl
                    replace e9 : T[9]?.getD undef = .slice Am N cm := e9
                    have e10 := hfactF 11 10 (by decide) rfl
                    replace e10 : T[10]?.getD undef = .bool true := e10
                    have hT := frame_back T [8, 9, 10, 259, 260, 261, 262, 263, 264, 265, 266, 267] hbaseF hsF (by kernel_rfl)
                    simp only [List.foldl_cons, List.foldl_nil, List.setIfInBounds_toArray, List.set_cons_zero, List.set_cons_succ] at hT
                    clear hbaseF hfactF hsF
                    rw [e8] at hT; clear e8
                    rw [e9] at hT; clear e9
                    rw [e10] at hT; clear e10
                    generalize T[259]?.getD undef = u259 at hT
                    generalize T[260]?.getD undef = u260 at hT
                    generalize T[261]?.getD undef = u261 at hT
                    generalize T[262]?.getD undef = u262 at hT
                    generalize T[263]?.getD undef = u263 at hT
                    generalize T[264]?.getD undef = u264 at hT
                    generalize T[265]?.getD undef = u265 at hT
                    generalize T[266]?.getD undef = u266 at hT
                    generalize T[267]?.getD undef = u267 at hT
                    subst hT
                    go_wp2_with fail
                    go_ret3
                    exact ⟨A2, c2, Q, Am, cm, LL, rfl, hR2.below hbF, hn2, by assumption, (hRm.below hbF).mono (by have := hbF.size; have := hbX.size; omega), hPn, hbX.trans (hbF.mono hbX.size)⟩
end Go.Proofs.Ytnocjjaebemkoaa
