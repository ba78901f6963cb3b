/- Slots: the laws' helpers: a step that writes, by the other number. -/
import Derived.Test.YtnocjjaebemkoaaSlotK
namespace Go.Proofs.Ytnocjjaebemkoaa
open Go.RowKit

set_option maxRecDepth 100000 in
set_option maxHeartbeats 4000000 in
theorem step_write6 {c : Int} {z N : Nat} (hc : ClassOK c z N) (A : Option Addr) (cp : Nat) (p : List UInt8) (Al : Option Addr) (cl : Nat) (l : List Ob) (w : World) (hr : Rd w A 256 p) (hn : 256 ≤ cp) (hcp : cp ≤ maxLen) (hrl : RdR obK w.heap.size 5 w Al N l) (hP : PageOf z N p l)
    (K m a1 s : Int) (Ab : Option Addr) (nb cb : Nat) (bs : List UInt8) (hb : Rd w Ab nb bs) (hnb : nb ≤ cb) :
    Calls Try.prog 22 #[.slice A 256 cp, .slice Al N cl, .int .i64 c, .agg #[.int .i64 6, .int .i64 K, .int .i64 m, .int .i64 a1, .int .u64 s, .slice Ab nb cb]] w (Stepped 5 z N w) := by
  go_enter Try.func22, Try.ntmps22
  go_upto_if 22 with fail
  go_cut [7] (fun a wx => a = .pointer (some ⟨w.heap.size, 0, none⟩) ∧ (∃ nb' bs', Blk wx w.heap.size 34 #[.int .i64 6, .int .i64 K, .int .i64 m, .int .i64 a1, .int .u64 s, .slice Ab nb' cb] ∧ Rd wx Ab nb' bs' ∧ nb' ≤ 130 ∧ nb' ≤ cb) ∧ Below w.heap.size w wx)
  case first =>
    have B0 := Blk.new w 34 #[.int .i64 6, .int .i64 K, .int .i64 m, .int .i64 a1, .int .u64 s, .slice Ab nb cb]
    have c0 := B0.cell
    have f0 := B0.frozen
    by_cases h130 : 130 < nb
    · go_wp2_with fail
      go_meet
      exact ⟨rfl, ⟨130, bs.take 130, Blk.new _ _ _, (hb.head 130 (by omega)).alloc _, by omega, by omega⟩, (by (repeat (first | exact Below.refl _ _ | (refine Below.setCell ?_ (by first | omega | (simp; omega) | simp) _) | (refine Below.alloc ?_ (by first | omega | (simp; omega) | simp) _) | apply Below.drew | apply below_drewN)))⟩
    · go_wp2_with fail
      go_meet
      exact ⟨rfl, ⟨nb, bs, B0, hb.alloc _, by omega, hnb⟩, (by (repeat (first | exact Below.refl _ _ | (refine Below.setCell ?_ (by first | omega | (simp; omega) | simp) _) | (refine Below.alloc ?_ (by first | omega | (simp; omega) | simp) _) | apply Below.drew | apply below_drewN)))⟩
  case rest =>
    obtain ⟨rfl, ⟨nb', bs', hB, hbR, h130, hnb'⟩, hbel⟩ := hcut
    have hzc := hbel.size
    have hrc := hr.below hbel
    have hrlc := hrl.below hbel
    have hcv := conv cp _ hrc
    have cB := hB.cell
    have hzB := hB.lt
    cases hth : thereL l K with
    | false =>
      have hF := write_no A 256 cp c K 6 a1 (.slice Ab nb' cb) wc (.inr rfl) (hP.object_no hc hrc hn hcp hth)
      have HTH := Lib.hid hth
      clear hth
      go_wp2_with fail
      refine hF.mono ?_
      rintro e w1 ⟨rfl, hb1⟩
      have hrl1 := hrlc.below hb1
      have hB1 := hB.on hb1
      have hbX := hbel.trans (hb1.mono hzc)
      clear cB hF hcv
      go_wp2_with fail
      refine wp_flows [(fun y_ _ => y_ = .slice Al N cl), (fun y_ _ => y_ = .pointer (some ⟨w.heap.size, 1, none⟩)), (fun y_ _ => y_ = .int .i64 K), (fun y_ _ => y_ = .bool false), (fun y_ _ => y_ = .bool false), (fun y_ _ => y_ = undef), (fun y_ _ => y_ = undef), (fun y_ _ => y_ = undef), (fun y_ _ => y_ = undef), (fun y_ _ => y_ = undef), (fun y_ _ => y_ = undef), (fun y_ _ => y_ = undef), (fun y_ _ => y_ = undef), (fun y_ _ => y_ = undef), (fun y_ _ => y_ = undef), (fun y_ _ => y_ = undef), (fun y_ _ => y_ = undef), (fun y_ _ => y_ = undef), (fun y_ _ => y_ = undef), (fun y_ _ => y_ = undef), (fun y_ _ => y_ = undef), (fun y_ _ => y_ = undef), (fun y_ _ => y_ = undef), (fun y_ _ => y_ = undef), (fun y_ _ => y_ = undef), (fun y_ _ => y_ = undef), (fun y_ _ => y_ = undef), (fun y_ _ => y_ = undef), (fun y_ _ => y_ = undef), (fun y_ _ => y_ = undef), (fun y_ _ => y_ = undef), (fun y_ _ => y_ = undef), (fun y_ _ => y_ = undef), (fun y_ _ => y_ = undef), (fun y_ _ => y_ = undef), (fun y_ _ => y_ = undef), (fun y_ _ => y_ = .bool false)] (by kernel_rfl) ⟨Stab.eq _, Stab.eq _, Stab.eq _, Stab.eq _, Stab.eq _, Stab.eq _, Stab.eq _, Stab.eq _, Stab.eq _, Stab.eq _, Stab.eq _, Stab.eq _, Stab.eq _, Stab.eq _, Stab.eq _, Stab.eq _, Stab.eq _, Stab.eq _, Stab.eq _, Stab.eq _, Stab.eq _, Stab.eq _, Stab.eq _, Stab.eq _, Stab.eq _, Stab.eq _, Stab.eq _, Stab.eq _, Stab.eq _, Stab.eq _, Stab.eq _, Stab.eq _, Stab.eq _, Stab.eq _, Stab.eq _, Stab.eq _, Stab.eq _, trivial⟩ (by kernel_rfl) (by rfl) ?_ ?_
      · intro kq hkq
        match kq, hkq with
        | 0, _ =>
          refine StepOk.plain _ 173 rfl rfl rfl [(1, none)] (by kernel_rfl) (fun af wf hbw hf Kf hKf => ?_)
          obtain ⟨g1, _⟩ := hf
          have h1 : af.tmps[1]?.getD undef = .slice Al N cl := g1
          clear g1
          go_simp
          exact hKf _ _ (Below.refl _ _) rfl
        | 1, _ =>
          refine StepOk.plain _ 174 rfl rfl rfl [(7, none)] (by kernel_rfl) (fun af wf hbw hf Kf hKf => ?_)
          obtain ⟨g7, _⟩ := hf
          have h7 : af.tmps[7]?.getD undef = .pointer (some ⟨w.heap.size, 0, none⟩) := g7
          clear g7
          go_simp
          exact hKf _ _ (Below.refl _ _) rfl
        | 2, _ =>
          refine StepOk.plain _ 175 rfl rfl rfl [(174, some 1)] (by kernel_rfl) (fun af wf hbw hf Kf hKf => ?_)
          obtain ⟨g174, _⟩ := hf
          have h174 : af.tmps[174]?.getD undef = .pointer (some ⟨w.heap.size, 1, none⟩) := g174
          clear g174
          have cB0 := (Blk.on (Blk.drew (hB1)) hbw).cell
          go_simp
          exact hKf _ _ (Below.refl _ _) rfl
        | 3, _ =>
          refine StepOk.plain _ 176 rfl rfl rfl [(173, some 0), (175, some 2)] (by kernel_rfl) (fun af wf hbw hf Kf hKf => ?_)
          obtain ⟨g173, g175, _⟩ := hf
          have h173 : af.tmps[173]?.getD undef = .slice Al N cl := g173
          have h175 : af.tmps[175]?.getD undef = .int .i64 K := g175
          clear g173 g175
          go_simp
          refine (rthere_any Al N cl _ _ l K _ (hrl1.drew.below hbw)).mono ?_
          rintro e wN ⟨rfl, rfl⟩
          exact hKf _ _ (Below.refl _ _) (congrArg Value.bool HTH.out)
        | 4, _ =>
          refine StepOk.plain _ 177 rfl rfl rfl [(176, some 3)] (by kernel_rfl) (fun af wf hbw hf Kf hKf => ?_)
          obtain ⟨g176, _⟩ := hf
          have h176 : af.tmps[176]?.getD undef = .bool false := g176
          clear g176
          go_simp
          exact hKf _ _ (Below.refl _ _) rfl
        | 5, _ => exact StepOk.no _ 178 rfl rfl rfl rfl (fun _ _ h => h) (by decide) (by kernel_rfl) (fun _ => rfl)
        | 6, _ => exact StepOk.no _ 179 rfl rfl rfl rfl (fun _ _ h => h) (by decide) (by kernel_rfl) (fun _ => rfl)
        | 7, _ => exact StepOk.no _ 180 rfl rfl rfl rfl (fun _ _ h => h) (by decide) (by kernel_rfl) (fun _ => rfl)
        | 8, _ => exact StepOk.no _ 181 rfl rfl rfl rfl (fun _ _ h => h) (by decide) (by kernel_rfl) (fun _ => rfl)
        | 9, _ => exact StepOk.nou _ 182 rfl rfl rfl rfl (fun _ _ h => h) (by kernel_rfl) (fun _ => rfl)
        | 10, _ => exact StepOk.nou _ 183 rfl rfl rfl rfl (fun _ _ h => h) (by kernel_rfl) (fun _ => rfl)
        | 11, _ => exact StepOk.nou _ 184 rfl rfl rfl rfl (fun _ _ h => h) (by kernel_rfl) (fun _ => rfl)
        | 12, _ => exact StepOk.nou _ 185 rfl rfl rfl rfl (fun _ _ h => h) (by kernel_rfl) (fun _ => rfl)
        | 13, _ => exact StepOk.nou _ 186 rfl rfl rfl rfl (fun _ _ h => h) (by kernel_rfl) (fun _ => rfl)
        | 14, _ => exact StepOk.nou _ 187 rfl rfl rfl rfl (fun _ _ h => h) (by kernel_rfl) (fun _ => rfl)
        | 15, _ => exact StepOk.nou _ 188 rfl rfl rfl rfl (fun _ _ h => h) (by kernel_rfl) (fun _ => rfl)
        | 16, _ => exact StepOk.nou _ 189 rfl rfl rfl rfl (fun _ _ h => h) (by kernel_rfl) (fun _ => rfl)
        | 17, _ => exact StepOk.nou _ 190 rfl rfl rfl rfl (fun _ _ h => h) (by kernel_rfl) (fun _ => rfl)
        | 18, _ => exact StepOk.nou _ 191 rfl rfl rfl rfl (fun _ _ h => h) (by kernel_rfl) (fun _ => rfl)
        | 19, _ => exact StepOk.no _ 192 rfl rfl rfl rfl (fun _ _ h => h) (by decide) (by kernel_rfl) (fun _ => rfl)
        | 20, _ => exact StepOk.no _ 193 rfl rfl rfl rfl (fun _ _ h => h) (by decide) (by kernel_rfl) (fun _ => rfl)
        | 21, _ => exact StepOk.nou _ 194 rfl rfl rfl rfl (fun _ _ h => h) (by kernel_rfl) (fun _ => rfl)
        | 22, _ => exact StepOk.nou _ 195 rfl rfl rfl rfl (fun _ _ h => h) (by kernel_rfl) (fun _ => rfl)
        | 23, _ => exact StepOk.nou _ 196 rfl rfl rfl rfl (fun _ _ h => h) (by kernel_rfl) (fun _ => rfl)
        | 24, _ => exact StepOk.nou _ 197 rfl rfl rfl rfl (fun _ _ h => h) (by kernel_rfl) (fun _ => rfl)
        | 25, _ => exact StepOk.nou _ 198 rfl rfl rfl rfl (fun _ _ h => h) (by kernel_rfl) (fun _ => rfl)
        | 26, _ => exact StepOk.nou _ 199 rfl rfl rfl rfl (fun _ _ h => h) (by kernel_rfl) (fun _ => rfl)
        | 27, _ => exact StepOk.nou _ 200 rfl rfl rfl rfl (fun _ _ h => h) (by kernel_rfl) (fun _ => rfl)
        | 28, _ => exact StepOk.nou _ 201 rfl rfl rfl rfl (fun _ _ h => h) (by kernel_rfl) (fun _ => rfl)
        | 29, _ => exact StepOk.nou _ 202 rfl rfl rfl rfl (fun _ _ h => h) (by kernel_rfl) (fun _ => rfl)
        | 30, _ => exact StepOk.nou _ 203 rfl rfl rfl rfl (fun _ _ h => h) (by kernel_rfl) (fun _ => rfl)
        | 31, _ => exact StepOk.nou _ 204 rfl rfl rfl rfl (fun _ _ h => h) (by kernel_rfl) (fun _ => rfl)
        | 32, _ => exact StepOk.nou _ 205 rfl rfl rfl rfl (fun _ _ h => h) (by kernel_rfl) (fun _ => rfl)
        | 33, _ => exact StepOk.nou _ 206 rfl rfl rfl rfl (fun _ _ h => h) (by kernel_rfl) (fun _ => rfl)
        | 34, _ => exact StepOk.nou _ 207 rfl rfl rfl rfl (fun _ _ h => h) (by kernel_rfl) (fun _ => rfl)
        | 35, _ => exact StepOk.no _ 208 rfl rfl rfl rfl (fun _ _ h => h) (by decide) (by kernel_rfl) (fun _ => rfl)
        | 36, _ =>
          refine StepOk.plain _ 209 rfl rfl rfl [(177, some 4), (208, some 35)] (by kernel_rfl) (fun af wf hbw hf Kf hKf => ?_)
          obtain ⟨g177, g208, _⟩ := hf
          have h177 : af.tmps[177]?.getD undef = .bool false := g177
          have h208 : af.tmps[208]?.getD undef = undef := g208
          clear g177 g208
          go_simp
          exact hKf _ _ (Below.refl _ _) rfl
        | i + 37, h => exact absurd h (by show ¬ (i + 37 < 37); omega)
      · intro af wF hbF hdF hsF hbaseF hfactF
        obtain ⟨T, dsF⟩ := af
        obtain rfl : dsF = _ := hdF
        have e209 := hfactF 36 209 (by decide) rfl
        replace e209 : T[209]?.getD undef = .bool false := e209
        have hT := frame_back T [173, 174, 175, 176, 177, 178, 179, 180, 181, 182, 183, 184, 185, 186, 187, 188, 189, 190, 191, 192, 193, 194, 195, 196, 197, 198, 199, 200, 201, 202, 203, 204, 205, 206, 207, 208, 209] hbaseF hsF (by kernel_rfl)
        simp only [List.foldl_cons, List.foldl_nil, List.setIfInBounds_toArray, List.set_cons_zero, List.set_cons_succ] at hT
        clear hbaseF hfactF hsF
        generalize T[173]?.getD undef = u173 at hT
        generalize T[174]?.getD undef = u174 at hT
        generalize T[175]?.getD undef = u175 at hT
        generalize T[176]?.getD undef = u176 at hT
        generalize T[177]?.getD undef = u177 at hT
        generalize T[178]?.getD undef = u178 at hT
        generalize T[179]?.getD undef = u179 at hT
        generalize T[180]?.getD undef = u180 at hT
        generalize T[181]?.getD undef = u181 at hT
        generalize T[182]?.getD undef = u182 at hT
        generalize T[183]?.getD undef = u183 at hT
        generalize T[184]?.getD undef = u184 at hT
        generalize T[185]?.getD undef = u185 at hT
        generalize T[186]?.getD undef = u186 at hT
        generalize T[187]?.getD undef = u187 at hT
        generalize T[188]?.getD undef = u188 at hT
        generalize T[189]?.getD undef = u189 at hT
        generalize T[190]?.getD undef = u190 at hT
        generalize T[191]?.getD undef = u191 at hT
        generalize T[192]?.getD undef = u192 at hT
        generalize T[193]?.getD undef = u193 at hT
        generalize T[194]?.getD undef = u194 at hT
        generalize T[195]?.getD undef = u195 at hT
        generalize T[196]?.getD undef = u196 at hT
        generalize T[197]?.getD undef = u197 at hT
        generalize T[198]?.getD undef = u198 at hT
        generalize T[199]?.getD undef = u199 at hT
        generalize T[200]?.getD undef = u200 at hT
        generalize T[201]?.getD undef = u201 at hT
        generalize T[202]?.getD undef = u202 at hT
        generalize T[203]?.getD undef = u203 at hT
        generalize T[204]?.getD undef = u204 at hT
        generalize T[205]?.getD undef = u205 at hT
        generalize T[206]?.getD undef = u206 at hT
        generalize T[207]?.getD undef = u207 at hT
        generalize T[208]?.getD undef = u208 at hT
        rw [e209] at hT; clear e209
        subst hT
        have hTh := rthere_any Al N cl _ _ l K wF (hrl1.below hbF)
        rw [HTH.out] at hTh
        have cBF := (hB1.on hbF).cell
        have hbY := hbX.trans (hbF.mono hbX.size)
        have hcv1 := conv cp _ (hr.below hbY)
        go_wp2_with fail
        refine hTh.mono ?_
        rintro e w2 ⟨rfl, rfl⟩
        go_wp2_with fail
        go_ret3
        exact Stepped.same hr hn hcp hrl hP (by (have q_hbY := Below.size hbY; (try simp at q_hbY); repeat (first | exact Below.refl _ _ | (refine Below.trans ?_ (Below.mono hbY (by first | omega | (simp; omega) | simp))) | (refine Below.setCell ?_ (by first | omega | (simp; omega) | simp) _) | (refine Below.alloc ?_ (by first | omega | (simp; omega) | simp) _) | apply Below.drew | apply below_drewN)))
    | true =>
      obtain ⟨k, rfl, hk, o, ho, ho1, hfw⟩ := hP.there hc hth
      have HTH := Lib.hid hth
      have hmp := (hP.may hc).1
      have hN16 := hc.few
      have hz1 := hc.z128
      have hlw := (hP.tells hc ho).2.2.2.2
      have HO := Lib.hid ho
      have hol : 8 + o.2.length ≤ z ∧ 1 ≤ o.2.length := by rcases hP.ok o (List.mem_of_getElem? ho) with h | h <;> omega
      obtain ⟨hol, hol1⟩ := hol
      clear hth
      by_cases ha1 : a1 < 0
      ·
        have hF := write_range hc A cp p k a1 Ab nb' cb wc hrc hn hcp hmp hk hfw (by rw [hlw]; omega) (by omega)
        clear hfw ho
        go_wp2_with fail
        refine hF.mono ?_
        rintro e w1 ⟨rfl, hb1⟩
        have hrl1 := hrlc.below hb1
        have hB1 := hB.on hb1
        have hbX := hbel.trans (hb1.mono hzc)
        clear cB hF hcv
        obtain ⟨bo, off, S, Ad, nd, cd, L, hAl, hbo, hoe, hc0, hc1, hX, hnd, hcd⟩ := hrl1.ob hk
        have hoo : o = (S, L) := by have := HO.out; rw [this] at hoe; injection hoe
        subst hoo
        subst hAl
        have hXl : L.length = nd := hX.1.len
        simp only at ho1 hol hlw
        have q1 : (k : Int) < N := by omega
        go_wp2_with fail
        refine wp_flows [(fun y_ _ => y_ = .slice (some ⟨bo, off, none⟩) N cl), (fun y_ _ => y_ = .pointer (some ⟨w.heap.size, 1, none⟩)), (fun y_ _ => y_ = .int .i64 (k : Int)), (fun y_ _ => y_ = .bool true), (fun y_ _ => y_ = .bool true), (fun y_ _ => y_ = .pointer (some ⟨w.heap.size, 3, none⟩)), (fun y_ _ => y_ = .int .i64 a1), (fun y_ _ => y_ = .bool true), (fun y_ _ => y_ = .bool true), (fun y_ _ => y_ = undef), (fun y_ _ => y_ = undef), (fun y_ _ => y_ = undef), (fun y_ _ => y_ = undef), (fun y_ _ => y_ = undef), (fun y_ _ => y_ = undef), (fun y_ _ => y_ = undef), (fun y_ _ => y_ = undef), (fun y_ _ => y_ = undef), (fun y_ _ => y_ = undef), (fun y_ _ => y_ = .bool true), (fun y_ _ => y_ = .bool true), (fun y_ _ => y_ = undef), (fun y_ _ => y_ = undef), (fun y_ _ => y_ = undef), (fun y_ _ => y_ = undef), (fun y_ _ => y_ = undef), (fun y_ _ => y_ = undef), (fun y_ _ => y_ = undef), (fun y_ _ => y_ = undef), (fun y_ _ => y_ = undef), (fun y_ _ => y_ = undef), (fun y_ _ => y_ = undef), (fun y_ _ => y_ = undef), (fun y_ _ => y_ = undef), (fun y_ _ => y_ = undef), (fun y_ _ => y_ = .bool true), (fun y_ _ => y_ = .bool true)] (by kernel_rfl) ⟨Stab.eq _, Stab.eq _, Stab.eq _, Stab.eq _, Stab.eq _, Stab.eq _, Stab.eq _, Stab.eq _, Stab.eq _, Stab.eq _, Stab.eq _, Stab.eq _, Stab.eq _, Stab.eq _, Stab.eq _, Stab.eq _, Stab.eq _, Stab.eq _, Stab.eq _, Stab.eq _, Stab.eq _, Stab.eq _, Stab.eq _, Stab.eq _, Stab.eq _, Stab.eq _, Stab.eq _, Stab.eq _, Stab.eq _, Stab.eq _, Stab.eq _, Stab.eq _, Stab.eq _, Stab.eq _, Stab.eq _, Stab.eq _, Stab.eq _, trivial⟩ (by kernel_rfl) (by rfl) ?_ ?_
        · intro kq hkq
          match kq, hkq with
          | 0, _ =>
            refine StepOk.plain _ 173 rfl rfl rfl [(1, none)] (by kernel_rfl) (fun af wf hbw hf Kf hKf => ?_)
            obtain ⟨g1, _⟩ := hf
            have h1 : af.tmps[1]?.getD undef = .slice (some ⟨bo, off, none⟩) N cl := g1
            clear g1
            go_simp
            exact hKf _ _ (Below.refl _ _) rfl
          | 1, _ =>
            refine StepOk.plain _ 174 rfl rfl rfl [(7, none)] (by kernel_rfl) (fun af wf hbw hf Kf hKf => ?_)
            obtain ⟨g7, _⟩ := hf
            have h7 : af.tmps[7]?.getD undef = .pointer (some ⟨w.heap.size, 0, none⟩) := g7
            clear g7
            go_simp
            exact hKf _ _ (Below.refl _ _) rfl
          | 2, _ =>
            refine StepOk.plain _ 175 rfl rfl rfl [(174, some 1)] (by kernel_rfl) (fun af wf hbw hf Kf hKf => ?_)
            obtain ⟨g174, _⟩ := hf
            have h174 : af.tmps[174]?.getD undef = .pointer (some ⟨w.heap.size, 1, none⟩) := g174
            clear g174
            have cB0 := (Blk.on (Blk.drew (hB1)) hbw).cell
            go_simp
            exact hKf _ _ (Below.refl _ _) rfl
          | 3, _ =>
            refine StepOk.plain _ 176 rfl rfl rfl [(173, some 0), (175, some 2)] (by kernel_rfl) (fun af wf hbw hf Kf hKf => ?_)
            obtain ⟨g173, g175, _⟩ := hf
            have h173 : af.tmps[173]?.getD undef = .slice (some ⟨bo, off, none⟩) N cl := g173
            have h175 : af.tmps[175]?.getD undef = .int .i64 (k : Int) := g175
            clear g173 g175
            go_simp
            refine (rthere_any _ N cl _ _ l k _ (hrl1.drew.below hbw)).mono ?_
            rintro e wN ⟨rfl, rfl⟩
            exact hKf _ _ (Below.refl _ _) (congrArg Value.bool HTH.out)
          | 4, _ =>
            refine StepOk.plain _ 177 rfl rfl rfl [(176, some 3)] (by kernel_rfl) (fun af wf hbw hf Kf hKf => ?_)
            obtain ⟨g176, _⟩ := hf
            have h176 : af.tmps[176]?.getD undef = .bool true := g176
            clear g176
            go_simp
            exact hKf _ _ (Below.refl _ _) rfl
          | 5, _ =>
            refine StepOk.yes _ 178 rfl rfl rfl rfl (fun _ _ h => h) [(7, none)] (by kernel_rfl) (fun af wf hbw hf Kf hKf => ?_)
            obtain ⟨g7, _⟩ := hf
            have h7 : af.tmps[7]?.getD undef = .pointer (some ⟨w.heap.size, 0, none⟩) := g7
            clear g7
            go_simp
            exact hKf _ _ (Below.refl _ _) rfl
          | 6, _ =>
            refine StepOk.yes _ 179 rfl rfl rfl rfl (fun _ _ h => h) [(178, some 5)] (by kernel_rfl) (fun af wf hbw hf Kf hKf => ?_)
            obtain ⟨g178, _⟩ := hf
            have h178 : af.tmps[178]?.getD undef = .pointer (some ⟨w.heap.size, 3, none⟩) := g178
            clear g178
            have cB0 := (Blk.on (Blk.drew (hB1)) hbw).cell
            go_simp
            exact hKf _ _ (Below.refl _ _) rfl
          | 7, _ =>
            refine StepOk.yes _ 180 rfl rfl rfl rfl (fun _ _ h => h) [(179, some 6)] (by kernel_rfl) (fun af wf hbw hf Kf hKf => ?_)
            obtain ⟨g179, _⟩ := hf
            have h179 : af.tmps[179]?.getD undef = .int .i64 a1 := g179
            clear g179
            have hd7 : decide (a1 < 0) = true := by first | (simp; done) | (simp; omega)
            go_simp
            exact hKf _ _ (Below.refl _ _) rfl
          | 8, _ =>
            refine StepOk.yes _ 181 rfl rfl rfl rfl (fun _ _ h => h) [(180, some 7)] (by kernel_rfl) (fun af wf hbw hf Kf hKf => ?_)
            obtain ⟨g180, _⟩ := hf
            have h180 : af.tmps[180]?.getD undef = .bool true := g180
            clear g180
            go_simp
            exact hKf _ _ (Below.refl _ _) rfl
          | 9, _ => exact StepOk.no _ 182 rfl rfl rfl rfl (fun _ _ h => h) (by decide) (by kernel_rfl) (fun _ => rfl)
          | 10, _ => exact StepOk.no _ 183 rfl rfl rfl rfl (fun _ _ h => h) (by decide) (by kernel_rfl) (fun _ => rfl)
          | 11, _ => exact StepOk.no _ 184 rfl rfl rfl rfl (fun _ _ h => h) (by decide) (by kernel_rfl) (fun _ => rfl)
          | 12, _ => exact StepOk.no _ 185 rfl rfl rfl rfl (fun _ _ h => h) (by decide) (by kernel_rfl) (fun _ => rfl)
          | 13, _ => exact StepOk.no _ 186 rfl rfl rfl rfl (fun _ _ h => h) (by decide) (by kernel_rfl) (fun _ => rfl)
          | 14, _ => exact StepOk.no _ 187 rfl rfl rfl rfl (fun _ _ h => h) (by decide) (by kernel_rfl) (fun _ => rfl)
          | 15, _ => exact StepOk.no _ 188 rfl rfl rfl rfl (fun _ _ h => h) (by decide) (by kernel_rfl) (fun _ => rfl)
          | 16, _ => exact StepOk.no _ 189 rfl rfl rfl rfl (fun _ _ h => h) (by decide) (by kernel_rfl) (fun _ => rfl)
          | 17, _ => exact StepOk.no _ 190 rfl rfl rfl rfl (fun _ _ h => h) (by decide) (by kernel_rfl) (fun _ => rfl)
          | 18, _ => exact StepOk.no _ 191 rfl rfl rfl rfl (fun _ _ h => h) (by decide) (by kernel_rfl) (fun _ => rfl)
          | 19, _ =>
            refine StepOk.yes _ 192 rfl rfl rfl rfl (fun _ _ h => h) [(181, some 8), (191, some 18)] (by kernel_rfl) (fun af wf hbw hf Kf hKf => ?_)
            obtain ⟨g181, g191, _⟩ := hf
            have h181 : af.tmps[181]?.getD undef = .bool true := g181
            have h191 : af.tmps[191]?.getD undef = undef := g191
            clear g181 g191
            go_simp
            exact hKf _ _ (Below.refl _ _) rfl
          | 20, _ =>
            refine StepOk.yes _ 193 rfl rfl rfl rfl (fun _ _ h => h) [(192, some 19)] (by kernel_rfl) (fun af wf hbw hf Kf hKf => ?_)
            obtain ⟨g192, _⟩ := hf
            have h192 : af.tmps[192]?.getD undef = .bool true := g192
            clear g192
            go_simp
            exact hKf _ _ (Below.refl _ _) rfl
          | 21, _ => exact StepOk.no _ 194 rfl rfl rfl rfl (fun _ _ h => h) (by decide) (by kernel_rfl) (fun _ => rfl)
          | 22, _ => exact StepOk.no _ 195 rfl rfl rfl rfl (fun _ _ h => h) (by decide) (by kernel_rfl) (fun _ => rfl)
          | 23, _ => exact StepOk.no _ 196 rfl rfl rfl rfl (fun _ _ h => h) (by decide) (by kernel_rfl) (fun _ => rfl)
          | 24, _ => exact StepOk.no _ 197 rfl rfl rfl rfl (fun _ _ h => h) (by decide) (by kernel_rfl) (fun _ => rfl)
          | 25, _ => exact StepOk.no _ 198 rfl rfl rfl rfl (fun _ _ h => h) (by decide) (by kernel_rfl) (fun _ => rfl)
          | 26, _ => exact StepOk.no _ 199 rfl rfl rfl rfl (fun _ _ h => h) (by decide) (by kernel_rfl) (fun _ => rfl)
          | 27, _ => exact StepOk.no _ 200 rfl rfl rfl rfl (fun _ _ h => h) (by decide) (by kernel_rfl) (fun _ => rfl)
          | 28, _ => exact StepOk.no _ 201 rfl rfl rfl rfl (fun _ _ h => h) (by decide) (by kernel_rfl) (fun _ => rfl)
          | 29, _ => exact StepOk.no _ 202 rfl rfl rfl rfl (fun _ _ h => h) (by decide) (by kernel_rfl) (fun _ => rfl)
          | 30, _ => exact StepOk.no _ 203 rfl rfl rfl rfl (fun _ _ h => h) (by decide) (by kernel_rfl) (fun _ => rfl)
          | 31, _ => exact StepOk.no _ 204 rfl rfl rfl rfl (fun _ _ h => h) (by decide) (by kernel_rfl) (fun _ => rfl)
          | 32, _ => exact StepOk.no _ 205 rfl rfl rfl rfl (fun _ _ h => h) (by decide) (by kernel_rfl) (fun _ => rfl)
          | 33, _ => exact StepOk.no _ 206 rfl rfl rfl rfl (fun _ _ h => h) (by decide) (by kernel_rfl) (fun _ => rfl)
          | 34, _ => exact StepOk.no _ 207 rfl rfl rfl rfl (fun _ _ h => h) (by decide) (by kernel_rfl) (fun _ => rfl)
          | 35, _ =>
            refine StepOk.yes _ 208 rfl rfl rfl rfl (fun _ _ h => h) [(193, some 20), (207, some 34)] (by kernel_rfl) (fun af wf hbw hf Kf hKf => ?_)
            obtain ⟨g193, g207, _⟩ := hf
            have h193 : af.tmps[193]?.getD undef = .bool true := g193
            have h207 : af.tmps[207]?.getD undef = undef := g207
            clear g193 g207
            go_simp
            exact hKf _ _ (Below.refl _ _) rfl
          | 36, _ =>
            refine StepOk.plain _ 209 rfl rfl rfl [(177, some 4), (208, some 35)] (by kernel_rfl) (fun af wf hbw hf Kf hKf => ?_)
            obtain ⟨g177, g208, _⟩ := hf
            have h177 : af.tmps[177]?.getD undef = .bool true := g177
            have h208 : af.tmps[208]?.getD undef = .bool true := g208
            clear g177 g208
            go_simp
            exact hKf _ _ (Below.refl _ _) rfl
          | i + 37, h => exact absurd h (by show ¬ (i + 37 < 37); omega)
        · intro af wF hbF hdF hsF hbaseF hfactF
          obtain ⟨T, dsF⟩ := af
          obtain rfl : dsF = _ := hdF
          have e209 := hfactF 36 209 (by decide) rfl
          replace e209 : T[209]?.getD undef = .bool true := e209
          have hT := frame_back T [173, 174, 175, 176, 177, 178, 179, 180, 181, 182, 183, 184, 185, 186, 187, 188, 189, 190, 191, 192, 193, 194, 195, 196, 197, 198, 199, 200, 201, 202, 203, 204, 205, 206, 207, 208, 209] hbaseF hsF (by kernel_rfl)
          simp only [List.foldl_cons, List.foldl_nil, List.setIfInBounds_toArray, List.set_cons_zero, List.set_cons_succ] at hT
          clear hbaseF hfactF hsF
          generalize T[173]?.getD undef = u173 at hT
          generalize T[174]?.getD undef = u174 at hT
          generalize T[175]?.getD undef = u175 at hT
          generalize T[176]?.getD undef = u176 at hT
          generalize T[177]?.getD undef = u177 at hT
          generalize T[178]?.getD undef = u178 at hT
          generalize T[179]?.getD undef = u179 at hT
          generalize T[180]?.getD undef = u180 at hT
          generalize T[181]?.getD undef = u181 at hT
          generalize T[182]?.getD undef = u182 at hT
          generalize T[183]?.getD undef = u183 at hT
          generalize T[184]?.getD undef = u184 at hT
          generalize T[185]?.getD undef = u185 at hT
          generalize T[186]?.getD undef = u186 at hT
          generalize T[187]?.getD undef = u187 at hT
          generalize T[188]?.getD undef = u188 at hT
          generalize T[189]?.getD undef = u189 at hT
          generalize T[190]?.getD undef = u190 at hT
          generalize T[191]?.getD undef = u191 at hT
          generalize T[192]?.getD undef = u192 at hT
          generalize T[193]?.getD undef = u193 at hT
          generalize T[194]?.getD undef = u194 at hT
          generalize T[195]?.getD undef = u195 at hT
          generalize T[196]?.getD undef = u196 at hT
          generalize T[197]?.getD undef = u197 at hT
          generalize T[198]?.getD undef = u198 at hT
          generalize T[199]?.getD undef = u199 at hT
          generalize T[200]?.getD undef = u200 at hT
          generalize T[201]?.getD undef = u201 at hT
          generalize T[202]?.getD undef = u202 at hT
          generalize T[203]?.getD undef = u203 at hT
          generalize T[204]?.getD undef = u204 at hT
          generalize T[205]?.getD undef = u205 at hT
          generalize T[206]?.getD undef = u206 at hT
          generalize T[207]?.getD undef = u207 at hT
          generalize T[208]?.getD undef = u208 at hT
          rw [e209] at hT; clear e209
          subst hT
          have hbY := hbX.trans (hbF.mono hbX.size)
          have hcv1 := conv cp _ (hr.below hbY)
          go_wp2_with fail
          go_ret3
          exact Stepped.same hr hn hcp hrl hP (by (have q_hbY := Below.size hbY; (try simp at q_hbY); repeat (first | exact Below.refl _ _ | (refine Below.trans ?_ (Below.mono hbY (by first | omega | (simp; omega) | simp))) | (refine Below.setCell ?_ (by first | omega | (simp; omega) | simp) _) | (refine Below.alloc ?_ (by first | omega | (simp; omega) | simp) _) | apply Below.drew | apply below_drewN)))
      · by_cases ha2 : (o.2.length : Int) < a1
        ·
          have hF := write_range hc A cp p k a1 Ab nb' cb wc hrc hn hcp hmp hk hfw (by rw [hlw]; omega) (by omega)
          clear hfw ho
          go_wp2_with fail
          refine hF.mono ?_
          rintro e w1 ⟨rfl, hb1⟩
          have hrl1 := hrlc.below hb1
          have hB1 := hB.on hb1
          have hbX := hbel.trans (hb1.mono hzc)
          clear cB hF hcv
          obtain ⟨bo, off, S, Ad, nd, cd, L, hAl, hbo, hoe, hc0, hc1, hX, hnd, hcd⟩ := hrl1.ob hk
          have hoo : o = (S, L) := by have := HO.out; rw [this] at hoe; injection hoe
          subst hoo
          subst hAl
          have hXl : L.length = nd := hX.1.len
          simp only at ho1 hol hlw
          have q1 : (k : Int) < N := by omega
          go_wp2_with fail
          refine wp_flows [(fun y_ _ => y_ = .slice (some ⟨bo, off, none⟩) N cl), (fun y_ _ => y_ = .pointer (some ⟨w.heap.size, 1, none⟩)), (fun y_ _ => y_ = .int .i64 (k : Int)), (fun y_ _ => y_ = .bool true), (fun y_ _ => y_ = .bool true), (fun y_ _ => y_ = .pointer (some ⟨w.heap.size, 3, none⟩)), (fun y_ _ => y_ = .int .i64 a1), (fun y_ _ => y_ = .bool false), (fun y_ _ => y_ = .bool false), (fun y_ _ => y_ = .pointer (some ⟨w.heap.size, 3, none⟩)), (fun y_ _ => y_ = .int .i64 a1), (fun y_ _ => y_ = .slice (some ⟨bo, off, none⟩) N cl), (fun y_ _ => y_ = .pointer (some ⟨w.heap.size, 1, none⟩)), (fun y_ _ => y_ = .int .i64 (k : Int)), (fun y_ _ => y_ = .pointer (some ⟨bo, off + k * 2, none⟩)), (fun y_ _ => y_ = .pointer (some ⟨bo, off + k * 2 + 1, none⟩)), (fun y_ _ => y_ = .slice Ad nd cd), (fun y_ _ => y_ = .int .i64 (nd : Int)), (fun y_ _ => y_ = .bool true), (fun y_ _ => y_ = .bool true), (fun y_ _ => y_ = .bool true), (fun y_ _ => y_ = undef), (fun y_ _ => y_ = undef), (fun y_ _ => y_ = undef), (fun y_ _ => y_ = undef), (fun y_ _ => y_ = undef), (fun y_ _ => y_ = undef), (fun y_ _ => y_ = undef), (fun y_ _ => y_ = undef), (fun y_ _ => y_ = undef), (fun y_ _ => y_ = undef), (fun y_ _ => y_ = undef), (fun y_ _ => y_ = undef), (fun y_ _ => y_ = undef), (fun y_ _ => y_ = undef), (fun y_ _ => y_ = .bool true), (fun y_ _ => y_ = .bool true)] (by kernel_rfl) ⟨Stab.eq _, Stab.eq _, Stab.eq _, Stab.eq _, Stab.eq _, Stab.eq _, Stab.eq _, Stab.eq _, Stab.eq _, Stab.eq _, Stab.eq _, Stab.eq _, Stab.eq _, Stab.eq _, Stab.eq _, Stab.eq _, Stab.eq _, Stab.eq _, Stab.eq _, Stab.eq _, Stab.eq _, Stab.eq _, Stab.eq _, Stab.eq _, Stab.eq _, Stab.eq _, Stab.eq _, Stab.eq _, Stab.eq _, Stab.eq _, Stab.eq _, Stab.eq _, Stab.eq _, Stab.eq _, Stab.eq _, Stab.eq _, Stab.eq _, trivial⟩ (by kernel_rfl) (by rfl) ?_ ?_
          · intro kq hkq
            match kq, hkq with
            | 0, _ =>
              refine StepOk.plain _ 173 rfl rfl rfl [(1, none)] (by kernel_rfl) (fun af wf hbw hf Kf hKf => ?_)
              obtain ⟨g1, _⟩ := hf
              have h1 : af.tmps[1]?.getD undef = .slice (some ⟨bo, off, none⟩) N cl := g1
              clear g1
              go_simp
              exact hKf _ _ (Below.refl _ _) rfl
            | 1, _ =>
              refine StepOk.plain _ 174 rfl rfl rfl [(7, none)] (by kernel_rfl) (fun af wf hbw hf Kf hKf => ?_)
              obtain ⟨g7, _⟩ := hf
              have h7 : af.tmps[7]?.getD undef = .pointer (some ⟨w.heap.size, 0, none⟩) := g7
              clear g7
              go_simp
              exact hKf _ _ (Below.refl _ _) rfl
            | 2, _ =>
              refine StepOk.plain _ 175 rfl rfl rfl [(174, some 1)] (by kernel_rfl) (fun af wf hbw hf Kf hKf => ?_)
              obtain ⟨g174, _⟩ := hf
              have h174 : af.tmps[174]?.getD undef = .pointer (some ⟨w.heap.size, 1, none⟩) := g174
              clear g174
              have cB0 := (Blk.on (Blk.drew (hB1)) hbw).cell
              go_simp
              exact hKf _ _ (Below.refl _ _) rfl
            | 3, _ =>
              refine StepOk.plain _ 176 rfl rfl rfl [(173, some 0), (175, some 2)] (by kernel_rfl) (fun af wf hbw hf Kf hKf => ?_)
              obtain ⟨g173, g175, _⟩ := hf
              have h173 : af.tmps[173]?.getD undef = .slice (some ⟨bo, off, none⟩) N cl := g173
              have h175 : af.tmps[175]?.getD undef = .int .i64 (k : Int) := g175
              clear g173 g175
              go_simp
              refine (rthere_any _ N cl _ _ l k _ (hrl1.drew.below hbw)).mono ?_
              rintro e wN ⟨rfl, rfl⟩
              exact hKf _ _ (Below.refl _ _) (congrArg Value.bool HTH.out)
            | 4, _ =>
              refine StepOk.plain _ 177 rfl rfl rfl [(176, some 3)] (by kernel_rfl) (fun af wf hbw hf Kf hKf => ?_)
              obtain ⟨g176, _⟩ := hf
              have h176 : af.tmps[176]?.getD undef = .bool true := g176
              clear g176
              go_simp
              exact hKf _ _ (Below.refl _ _) rfl
            | 5, _ =>
              refine StepOk.yes _ 178 rfl rfl rfl rfl (fun _ _ h => h) [(7, none)] (by kernel_rfl) (fun af wf hbw hf Kf hKf => ?_)
              obtain ⟨g7, _⟩ := hf
              have h7 : af.tmps[7]?.getD undef = .pointer (some ⟨w.heap.size, 0, none⟩) := g7
              clear g7
              go_simp
              exact hKf _ _ (Below.refl _ _) rfl
            | 6, _ =>
              refine StepOk.yes _ 179 rfl rfl rfl rfl (fun _ _ h => h) [(178, some 5)] (by kernel_rfl) (fun af wf hbw hf Kf hKf => ?_)
              obtain ⟨g178, _⟩ := hf
              have h178 : af.tmps[178]?.getD undef = .pointer (some ⟨w.heap.size, 3, none⟩) := g178
              clear g178
              have cB0 := (Blk.on (Blk.drew (hB1)) hbw).cell
              go_simp
              exact hKf _ _ (Below.refl _ _) rfl
            | 7, _ =>
              refine StepOk.yes _ 180 rfl rfl rfl rfl (fun _ _ h => h) [(179, some 6)] (by kernel_rfl) (fun af wf hbw hf Kf hKf => ?_)
              obtain ⟨g179, _⟩ := hf
              have h179 : af.tmps[179]?.getD undef = .int .i64 a1 := g179
              clear g179
              have hd7 : decide (a1 < 0) = false := by first | (simp; done) | (simp; omega)
              go_simp
              exact hKf _ _ (Below.refl _ _) rfl
            | 8, _ =>
              refine StepOk.yes _ 181 rfl rfl rfl rfl (fun _ _ h => h) [(180, some 7)] (by kernel_rfl) (fun af wf hbw hf Kf hKf => ?_)
              obtain ⟨g180, _⟩ := hf
              have h180 : af.tmps[180]?.getD undef = .bool false := g180
              clear g180
              go_simp
              exact hKf _ _ (Below.refl _ _) rfl
            | 9, _ =>
              refine StepOk.yes _ 182 rfl rfl rfl rfl (fun _ _ h => h) [(7, none)] (by kernel_rfl) (fun af wf hbw hf Kf hKf => ?_)
              obtain ⟨g7, _⟩ := hf
              have h7 : af.tmps[7]?.getD undef = .pointer (some ⟨w.heap.size, 0, none⟩) := g7
              clear g7
              go_simp
              exact hKf _ _ (Below.refl _ _) rfl
            | 10, _ =>
              refine StepOk.yes _ 183 rfl rfl rfl rfl (fun _ _ h => h) [(182, some 9)] (by kernel_rfl) (fun af wf hbw hf Kf hKf => ?_)
              obtain ⟨g182, _⟩ := hf
              have h182 : af.tmps[182]?.getD undef = .pointer (some ⟨w.heap.size, 3, none⟩) := g182
              clear g182
              have cB0 := (Blk.on (Blk.drew (hB1)) hbw).cell
              go_simp
              exact hKf _ _ (Below.refl _ _) rfl
            | 11, _ =>
              refine StepOk.yes _ 184 rfl rfl rfl rfl (fun _ _ h => h) [(1, none)] (by kernel_rfl) (fun af wf hbw hf Kf hKf => ?_)
              obtain ⟨g1, _⟩ := hf
              have h1 : af.tmps[1]?.getD undef = .slice (some ⟨bo, off, none⟩) N cl := g1
              clear g1
              go_simp
              exact hKf _ _ (Below.refl _ _) rfl
            | 12, _ =>
              refine StepOk.yes _ 185 rfl rfl rfl rfl (fun _ _ h => h) [(7, none)] (by kernel_rfl) (fun af wf hbw hf Kf hKf => ?_)
              obtain ⟨g7, _⟩ := hf
              have h7 : af.tmps[7]?.getD undef = .pointer (some ⟨w.heap.size, 0, none⟩) := g7
              clear g7
              go_simp
              exact hKf _ _ (Below.refl _ _) rfl
            | 13, _ =>
              refine StepOk.yes _ 186 rfl rfl rfl rfl (fun _ _ h => h) [(185, some 12)] (by kernel_rfl) (fun af wf hbw hf Kf hKf => ?_)
              obtain ⟨g185, _⟩ := hf
              have h185 : af.tmps[185]?.getD undef = .pointer (some ⟨w.heap.size, 1, none⟩) := g185
              clear g185
              have cB0 := (Blk.on (Blk.drew (hB1)) hbw).cell
              go_simp
              exact hKf _ _ (Below.refl _ _) rfl
            | 14, _ =>
              refine StepOk.yes _ 187 rfl rfl rfl rfl (fun _ _ h => h) [(184, some 11), (186, some 13)] (by kernel_rfl) (fun af wf hbw hf Kf hKf => ?_)
              obtain ⟨g184, g186, _⟩ := hf
              have h184 : af.tmps[184]?.getD undef = .slice (some ⟨bo, off, none⟩) N cl := g184
              have h186 : af.tmps[186]?.getD undef = .int .i64 (k : Int) := g186
              clear g184 g186
              go_simp
              exact hKf _ _ (Below.refl _ _) rfl
            | 15, _ =>
              refine StepOk.yes _ 188 rfl rfl rfl rfl (fun _ _ h => h) [(187, some 14)] (by kernel_rfl) (fun af wf hbw hf Kf hKf => ?_)
              obtain ⟨g187, _⟩ := hf
              have h187 : af.tmps[187]?.getD undef = .pointer (some ⟨bo, off + k * 2, none⟩) := g187
              clear g187
              go_simp
              exact hKf _ _ (Below.refl _ _) rfl
            | 16, _ =>
              refine StepOk.yes _ 189 rfl rfl rfl rfl (fun _ _ h => h) [(188, some 15)] (by kernel_rfl) (fun af wf hbw hf Kf hKf => ?_)
              obtain ⟨g188, _⟩ := hf
              have h188 : af.tmps[188]?.getD undef = .pointer (some ⟨bo, off + k * 2 + 1, none⟩) := g188
              clear g188
              have cB0 := (Blk.on (Blk.drew (hB1)) hbw).cell
              have cB9 := (Below.cell (p := ⟨bo, off + k * 2 + 1, none⟩) hbw hbo).trans hc1
              go_simp
              exact hKf _ _ (Below.refl _ _) rfl
            | 17, _ =>
              refine StepOk.yes _ 190 rfl rfl rfl rfl (fun _ _ h => h) [(189, some 16)] (by kernel_rfl) (fun af wf hbw hf Kf hKf => ?_)
              obtain ⟨g189, _⟩ := hf
              have h189 : af.tmps[189]?.getD undef = .slice Ad nd cd := g189
              clear g189
              go_simp
              exact hKf _ _ (Below.refl _ _) rfl
            | 18, _ =>
              refine StepOk.yes _ 191 rfl rfl rfl rfl (fun _ _ h => h) [(183, some 10), (190, some 17)] (by kernel_rfl) (fun af wf hbw hf Kf hKf => ?_)
              obtain ⟨g183, g190, _⟩ := hf
              have h183 : af.tmps[183]?.getD undef = .int .i64 a1 := g183
              have h190 : af.tmps[190]?.getD undef = .int .i64 (nd : Int) := g190
              clear g183 g190
              have hd18 : decide ((nd : Int) < a1) = true := by simp; omega
              have h0 := trivial
              go_simp
              exact hKf _ _ (Below.refl _ _) rfl
            | 19, _ =>
              refine StepOk.yes _ 192 rfl rfl rfl rfl (fun _ _ h => h) [(181, some 8), (191, some 18)] (by kernel_rfl) (fun af wf hbw hf Kf hKf => ?_)
              obtain ⟨g181, g191, _⟩ := hf
              have h181 : af.tmps[181]?.getD undef = .bool false := g181
              have h191 : af.tmps[191]?.getD undef = .bool true := g191
              clear g181 g191
              go_simp
              exact hKf _ _ (Below.refl _ _) rfl
            | 20, _ =>
              refine StepOk.yes _ 193 rfl rfl rfl rfl (fun _ _ h => h) [(192, some 19)] (by kernel_rfl) (fun af wf hbw hf Kf hKf => ?_)
              obtain ⟨g192, _⟩ := hf
              have h192 : af.tmps[192]?.getD undef = .bool true := g192
              clear g192
              go_simp
              exact hKf _ _ (Below.refl _ _) rfl
            | 21, _ => exact StepOk.no _ 194 rfl rfl rfl rfl (fun _ _ h => h) (by decide) (by kernel_rfl) (fun _ => rfl)
            | 22, _ => exact StepOk.no _ 195 rfl rfl rfl rfl (fun _ _ h => h) (by decide) (by kernel_rfl) (fun _ => rfl)
            | 23, _ => exact StepOk.no _ 196 rfl rfl rfl rfl (fun _ _ h => h) (by decide) (by kernel_rfl) (fun _ => rfl)
            | 24, _ => exact StepOk.no _ 197 rfl rfl rfl rfl (fun _ _ h => h) (by decide) (by kernel_rfl) (fun _ => rfl)
            | 25, _ => exact StepOk.no _ 198 rfl rfl rfl rfl (fun _ _ h => h) (by decide) (by kernel_rfl) (fun _ => rfl)
            | 26, _ => exact StepOk.no _ 199 rfl rfl rfl rfl (fun _ _ h => h) (by decide) (by kernel_rfl) (fun _ => rfl)
            | 27, _ => exact StepOk.no _ 200 rfl rfl rfl rfl (fun _ _ h => h) (by decide) (by kernel_rfl) (fun _ => rfl)
            | 28, _ => exact StepOk.no _ 201 rfl rfl rfl rfl (fun _ _ h => h) (by decide) (by kernel_rfl) (fun _ => rfl)
            | 29, _ => exact StepOk.no _ 202 rfl rfl rfl rfl (fun _ _ h => h) (by decide) (by kernel_rfl) (fun _ => rfl)
            | 30, _ => exact StepOk.no _ 203 rfl rfl rfl rfl (fun _ _ h => h) (by decide) (by kernel_rfl) (fun _ => rfl)
            | 31, _ => exact StepOk.no _ 204 rfl rfl rfl rfl (fun _ _ h => h) (by decide) (by kernel_rfl) (fun _ => rfl)
            | 32, _ => exact StepOk.no _ 205 rfl rfl rfl rfl (fun _ _ h => h) (by decide) (by kernel_rfl) (fun _ => rfl)
            | 33, _ => exact StepOk.no _ 206 rfl rfl rfl rfl (fun _ _ h => h) (by decide) (by kernel_rfl) (fun _ => rfl)
            | 34, _ => exact StepOk.no _ 207 rfl rfl rfl rfl (fun _ _ h => h) (by decide) (by kernel_rfl) (fun _ => rfl)
            | 35, _ =>
              refine StepOk.yes _ 208 rfl rfl rfl rfl (fun _ _ h => h) [(193, some 20), (207, some 34)] (by kernel_rfl) (fun af wf hbw hf Kf hKf => ?_)
              obtain ⟨g193, g207, _⟩ := hf
              have h193 : af.tmps[193]?.getD undef = .bool true := g193
              have h207 : af.tmps[207]?.getD undef = undef := g207
              clear g193 g207
              go_simp
              exact hKf _ _ (Below.refl _ _) rfl
            | 36, _ =>
              refine StepOk.plain _ 209 rfl rfl rfl [(177, some 4), (208, some 35)] (by kernel_rfl) (fun af wf hbw hf Kf hKf => ?_)
              obtain ⟨g177, g208, _⟩ := hf
              have h177 : af.tmps[177]?.getD undef = .bool true := g177
              have h208 : af.tmps[208]?.getD undef = .bool true := g208
              clear g177 g208
              go_simp
              exact hKf _ _ (Below.refl _ _) rfl
            | i + 37, h => exact absurd h (by show ¬ (i + 37 < 37); omega)
          · intro af wF hbF hdF hsF hbaseF hfactF
            obtain ⟨T, dsF⟩ := af
            obtain rfl : dsF = _ := hdF
            have e209 := hfactF 36 209 (by decide) rfl
            replace e209 : T[209]?.getD undef = .bool true := e209
            have hT := frame_back T [173, 174, 175, 176, 177, 178, 179, 180, 181, 182, 183, 184, 185, 186, 187, 188, 189, 190, 191, 192, 193, 194, 195, 196, 197, 198, 199, 200, 201, 202, 203, 204, 205, 206, 207, 208, 209] hbaseF hsF (by kernel_rfl)
            simp only [List.foldl_cons, List.foldl_nil, List.setIfInBounds_toArray, List.set_cons_zero, List.set_cons_succ] at hT
            clear hbaseF hfactF hsF
            generalize T[173]?.getD undef = u173 at hT
            generalize T[174]?.getD undef = u174 at hT
            generalize T[175]?.getD undef = u175 at hT
            generalize T[176]?.getD undef = u176 at hT
            generalize T[177]?.getD undef = u177 at hT
            generalize T[178]?.getD undef = u178 at hT
            generalize T[179]?.getD undef = u179 at hT
            generalize T[180]?.getD undef = u180 at hT
            generalize T[181]?.getD undef = u181 at hT
            generalize T[182]?.getD undef = u182 at hT
            generalize T[183]?.getD undef = u183 at hT
            generalize T[184]?.getD undef = u184 at hT
            generalize T[185]?.getD undef = u185 at hT
            generalize T[186]?.getD undef = u186 at hT
            generalize T[187]?.getD undef = u187 at hT
            generalize T[188]?.getD undef = u188 at hT
            generalize T[189]?.getD undef = u189 at hT
            generalize T[190]?.getD undef = u190 at hT
            generalize T[191]?.getD undef = u191 at hT
            generalize T[192]?.getD undef = u192 at hT
            generalize T[193]?.getD undef = u193 at hT
            generalize T[194]?.getD undef = u194 at hT
            generalize T[195]?.getD undef = u195 at hT
            generalize T[196]?.getD undef = u196 at hT
            generalize T[197]?.getD undef = u197 at hT
            generalize T[198]?.getD undef = u198 at hT
            generalize T[199]?.getD undef = u199 at hT
            generalize T[200]?.getD undef = u200 at hT
            generalize T[201]?.getD undef = u201 at hT
            generalize T[202]?.getD undef = u202 at hT
            generalize T[203]?.getD undef = u203 at hT
            generalize T[204]?.getD undef = u204 at hT
            generalize T[205]?.getD undef = u205 at hT
            generalize T[206]?.getD undef = u206 at hT
            generalize T[207]?.getD undef = u207 at hT
            generalize T[208]?.getD undef = u208 at hT
            rw [e209] at hT; clear e209
            subst hT
            have hbY := hbX.trans (hbF.mono hbX.size)
            have hcv1 := conv cp _ (hr.below hbY)
            go_wp2_with fail
            go_ret3
            exact Stepped.same hr hn hcp hrl hP (by (have q_hbY := Below.size hbY; (try simp at q_hbY); repeat (first | exact Below.refl _ _ | (refine Below.trans ?_ (Below.mono hbY (by first | omega | (simp; omega) | simp))) | (refine Below.setCell ?_ (by first | omega | (simp; omega) | simp) _) | (refine Below.alloc ?_ (by first | omega | (simp; omega) | simp) _) | apply Below.drew | apply below_drewN)))
        · by_cases ha3 : (o.2.length : Int) - a1 < nb'
          ·
            have hF := write_range hc A cp p k a1 Ab nb' cb wc hrc hn hcp hmp hk hfw (by rw [hlw]; omega) (by omega)
            clear hfw ho
            go_wp2_with fail
            refine hF.mono ?_
            rintro e w1 ⟨rfl, hb1⟩
            have hrl1 := hrlc.below hb1
            have hB1 := hB.on hb1
            have hbX := hbel.trans (hb1.mono hzc)
            clear cB hF hcv
            obtain ⟨bo, off, S, Ad, nd, cd, L, hAl, hbo, hoe, hc0, hc1, hX, hnd, hcd⟩ := hrl1.ob hk
            have hoo : o = (S, L) := by have := HO.out; rw [this] at hoe; injection hoe
            subst hoo
            subst hAl
            have hXl : L.length = nd := hX.1.len
            simp only at ho1 hol hlw
            have q1 : (k : Int) < N := by omega
            go_wp2_with fail
            refine wp_flows [(fun y_ _ => y_ = .slice (some ⟨bo, off, none⟩) N cl), (fun y_ _ => y_ = .pointer (some ⟨w.heap.size, 1, none⟩)), (fun y_ _ => y_ = .int .i64 (k : Int)), (fun y_ _ => y_ = .bool true), (fun y_ _ => y_ = .bool true), (fun y_ _ => y_ = .pointer (some ⟨w.heap.size, 3, none⟩)), (fun y_ _ => y_ = .int .i64 a1), (fun y_ _ => y_ = .bool false), (fun y_ _ => y_ = .bool false), (fun y_ _ => y_ = .pointer (some ⟨w.heap.size, 3, none⟩)), (fun y_ _ => y_ = .int .i64 a1), (fun y_ _ => y_ = .slice (some ⟨bo, off, none⟩) N cl), (fun y_ _ => y_ = .pointer (some ⟨w.heap.size, 1, none⟩)), (fun y_ _ => y_ = .int .i64 (k : Int)), (fun y_ _ => y_ = .pointer (some ⟨bo, off + k * 2, none⟩)), (fun y_ _ => y_ = .pointer (some ⟨bo, off + k * 2 + 1, none⟩)), (fun y_ _ => y_ = .slice Ad nd cd), (fun y_ _ => y_ = .int .i64 (nd : Int)), (fun y_ _ => y_ = .bool false), (fun y_ _ => y_ = .bool false), (fun y_ _ => y_ = .bool false), (fun y_ _ => y_ = .pointer (some ⟨w.heap.size, 5, none⟩)), (fun y_ _ => y_ = .slice Ab nb' cb), (fun y_ _ => y_ = .int .i64 (nb' : Int)), (fun y_ _ => y_ = .slice (some ⟨bo, off, none⟩) N cl), (fun y_ _ => y_ = .pointer (some ⟨w.heap.size, 1, none⟩)), (fun y_ _ => y_ = .int .i64 (k : Int)), (fun y_ _ => y_ = .pointer (some ⟨bo, off + k * 2, none⟩)), (fun y_ _ => y_ = .pointer (some ⟨bo, off + k * 2 + 1, none⟩)), (fun y_ _ => y_ = .slice Ad nd cd), (fun y_ _ => y_ = .int .i64 (nd : Int)), (fun y_ _ => y_ = .pointer (some ⟨w.heap.size, 3, none⟩)), (fun y_ _ => y_ = .int .i64 a1), (fun y_ _ => y_ = .int .i64 ((nd : Int) - a1)), (fun y_ _ => y_ = .bool true), (fun y_ _ => y_ = .bool true), (fun y_ _ => y_ = .bool true)] (by kernel_rfl) ⟨Stab.eq _, Stab.eq _, Stab.eq _, Stab.eq _, Stab.eq _, Stab.eq _, Stab.eq _, Stab.eq _, Stab.eq _, Stab.eq _, Stab.eq _, Stab.eq _, Stab.eq _, Stab.eq _, Stab.eq _, Stab.eq _, Stab.eq _, Stab.eq _, Stab.eq _, Stab.eq _, Stab.eq _, Stab.eq _, Stab.eq _, Stab.eq _, Stab.eq _, Stab.eq _, Stab.eq _, Stab.eq _, Stab.eq _, Stab.eq _, Stab.eq _, Stab.eq _, Stab.eq _, Stab.eq _, Stab.eq _, Stab.eq _, Stab.eq _, trivial⟩ (by kernel_rfl) (by rfl) ?_ ?_
            · intro kq hkq
              match kq, hkq with
              | 0, _ =>
                refine StepOk.plain _ 173 rfl rfl rfl [(1, none)] (by kernel_rfl) (fun af wf hbw hf Kf hKf => ?_)
                obtain ⟨g1, _⟩ := hf
                have h1 : af.tmps[1]?.getD undef = .slice (some ⟨bo, off, none⟩) N cl := g1
                clear g1
                go_simp
                exact hKf _ _ (Below.refl _ _) rfl
              | 1, _ =>
                refine StepOk.plain _ 174 rfl rfl rfl [(7, none)] (by kernel_rfl) (fun af wf hbw hf Kf hKf => ?_)
                obtain ⟨g7, _⟩ := hf
                have h7 : af.tmps[7]?.getD undef = .pointer (some ⟨w.heap.size, 0, none⟩) := g7
                clear g7
                go_simp
                exact hKf _ _ (Below.refl _ _) rfl
              | 2, _ =>
                refine StepOk.plain _ 175 rfl rfl rfl [(174, some 1)] (by kernel_rfl) (fun af wf hbw hf Kf hKf => ?_)
                obtain ⟨g174, _⟩ := hf
                have h174 : af.tmps[174]?.getD undef = .pointer (some ⟨w.heap.size, 1, none⟩) := g174
                clear g174
                have cB0 := (Blk.on (Blk.drew (hB1)) hbw).cell
                go_simp
                exact hKf _ _ (Below.refl _ _) rfl
              | 3, _ =>
                refine StepOk.plain _ 176 rfl rfl rfl [(173, some 0), (175, some 2)] (by kernel_rfl) (fun af wf hbw hf Kf hKf => ?_)
                obtain ⟨g173, g175, _⟩ := hf
                have h173 : af.tmps[173]?.getD undef = .slice (some ⟨bo, off, none⟩) N cl := g173
                have h175 : af.tmps[175]?.getD undef = .int .i64 (k : Int) := g175
                clear g173 g175
                go_simp
                refine (rthere_any _ N cl _ _ l k _ (hrl1.drew.below hbw)).mono ?_
                rintro e wN ⟨rfl, rfl⟩
                exact hKf _ _ (Below.refl _ _) (congrArg Value.bool HTH.out)
              | 4, _ =>
                refine StepOk.plain _ 177 rfl rfl rfl [(176, some 3)] (by kernel_rfl) (fun af wf hbw hf Kf hKf => ?_)
                obtain ⟨g176, _⟩ := hf
                have h176 : af.tmps[176]?.getD undef = .bool true := g176
                clear g176
                go_simp
                exact hKf _ _ (Below.refl _ _) rfl
              | 5, _ =>
                refine StepOk.yes _ 178 rfl rfl rfl rfl (fun _ _ h => h) [(7, none)] (by kernel_rfl) (fun af wf hbw hf Kf hKf => ?_)
                obtain ⟨g7, _⟩ := hf
                have h7 : af.tmps[7]?.getD undef = .pointer (some ⟨w.heap.size, 0, none⟩) := g7
                clear g7
                go_simp
                exact hKf _ _ (Below.refl _ _) rfl
              | 6, _ =>
                refine StepOk.yes _ 179 rfl rfl rfl rfl (fun _ _ h => h) [(178, some 5)] (by kernel_rfl) (fun af wf hbw hf Kf hKf => ?_)
                obtain ⟨g178, _⟩ := hf
                have h178 : af.tmps[178]?.getD undef = .pointer (some ⟨w.heap.size, 3, none⟩) := g178
                clear g178
                have cB0 := (Blk.on (Blk.drew (hB1)) hbw).cell
                go_simp
                exact hKf _ _ (Below.refl _ _) rfl
              | 7, _ =>
                refine StepOk.yes _ 180 rfl rfl rfl rfl (fun _ _ h => h) [(179, some 6)] (by kernel_rfl) (fun af wf hbw hf Kf hKf => ?_)
                obtain ⟨g179, _⟩ := hf
                have h179 : af.tmps[179]?.getD undef = .int .i64 a1 := g179
                clear g179
                have hd7 : decide (a1 < 0) = false := by first | (simp; done) | (simp; omega)
                go_simp
                exact hKf _ _ (Below.refl _ _) rfl
              | 8, _ =>
                refine StepOk.yes _ 181 rfl rfl rfl rfl (fun _ _ h => h) [(180, some 7)] (by kernel_rfl) (fun af wf hbw hf Kf hKf => ?_)
                obtain ⟨g180, _⟩ := hf
                have h180 : af.tmps[180]?.getD undef = .bool false := g180
                clear g180
                go_simp
                exact hKf _ _ (Below.refl _ _) rfl
              | 9, _ =>
                refine StepOk.yes _ 182 rfl rfl rfl rfl (fun _ _ h => h) [(7, none)] (by kernel_rfl) (fun af wf hbw hf Kf hKf => ?_)
                obtain ⟨g7, _⟩ := hf
                have h7 : af.tmps[7]?.getD undef = .pointer (some ⟨w.heap.size, 0, none⟩) := g7
                clear g7
                go_simp
                exact hKf _ _ (Below.refl _ _) rfl
              | 10, _ =>
                refine StepOk.yes _ 183 rfl rfl rfl rfl (fun _ _ h => h) [(182, some 9)] (by kernel_rfl) (fun af wf hbw hf Kf hKf => ?_)
                obtain ⟨g182, _⟩ := hf
                have h182 : af.tmps[182]?.getD undef = .pointer (some ⟨w.heap.size, 3, none⟩) := g182
                clear g182
                have cB0 := (Blk.on (Blk.drew (hB1)) hbw).cell
                go_simp
                exact hKf _ _ (Below.refl _ _) rfl
              | 11, _ =>
                refine StepOk.yes _ 184 rfl rfl rfl rfl (fun _ _ h => h) [(1, none)] (by kernel_rfl) (fun af wf hbw hf Kf hKf => ?_)
                obtain ⟨g1, _⟩ := hf
                have h1 : af.tmps[1]?.getD undef = .slice (some ⟨bo, off, none⟩) N cl := g1
                clear g1
                go_simp
                exact hKf _ _ (Below.refl _ _) rfl
              | 12, _ =>
                refine StepOk.yes _ 185 rfl rfl rfl rfl (fun _ _ h => h) [(7, none)] (by kernel_rfl) (fun af wf hbw hf Kf hKf => ?_)
                obtain ⟨g7, _⟩ := hf
                have h7 : af.tmps[7]?.getD undef = .pointer (some ⟨w.heap.size, 0, none⟩) := g7
                clear g7
                go_simp
                exact hKf _ _ (Below.refl _ _) rfl
              | 13, _ =>
                refine StepOk.yes _ 186 rfl rfl rfl rfl (fun _ _ h => h) [(185, some 12)] (by kernel_rfl) (fun af wf hbw hf Kf hKf => ?_)
                obtain ⟨g185, _⟩ := hf
                have h185 : af.tmps[185]?.getD undef = .pointer (some ⟨w.heap.size, 1, none⟩) := g185
                clear g185
                have cB0 := (Blk.on (Blk.drew (hB1)) hbw).cell
                go_simp
                exact hKf _ _ (Below.refl _ _) rfl
              | 14, _ =>
                refine StepOk.yes _ 187 rfl rfl rfl rfl (fun _ _ h => h) [(184, some 11), (186, some 13)] (by kernel_rfl) (fun af wf hbw hf Kf hKf => ?_)
                obtain ⟨g184, g186, _⟩ := hf
                have h184 : af.tmps[184]?.getD undef = .slice (some ⟨bo, off, none⟩) N cl := g184
                have h186 : af.tmps[186]?.getD undef = .int .i64 (k : Int) := g186
                clear g184 g186
                go_simp
                exact hKf _ _ (Below.refl _ _) rfl
              | 15, _ =>
                refine StepOk.yes _ 188 rfl rfl rfl rfl (fun _ _ h => h) [(187, some 14)] (by kernel_rfl) (fun af wf hbw hf Kf hKf => ?_)
                obtain ⟨g187, _⟩ := hf
                have h187 : af.tmps[187]?.getD undef = .pointer (some ⟨bo, off + k * 2, none⟩) := g187
                clear g187
                go_simp
                exact hKf _ _ (Below.refl _ _) rfl
              | 16, _ =>
                refine StepOk.yes _ 189 rfl rfl rfl rfl (fun _ _ h => h) [(188, some 15)] (by kernel_rfl) (fun af wf hbw hf Kf hKf => ?_)
                obtain ⟨g188, _⟩ := hf
                have h188 : af.tmps[188]?.getD undef = .pointer (some ⟨bo, off + k * 2 + 1, none⟩) := g188
                clear g188
                have cB0 := (Blk.on (Blk.drew (hB1)) hbw).cell
                have cB9 := (Below.cell (p := ⟨bo, off + k * 2 + 1, none⟩) hbw hbo).trans hc1
                go_simp
                exact hKf _ _ (Below.refl _ _) rfl
              | 17, _ =>
                refine StepOk.yes _ 190 rfl rfl rfl rfl (fun _ _ h => h) [(189, some 16)] (by kernel_rfl) (fun af wf hbw hf Kf hKf => ?_)
                obtain ⟨g189, _⟩ := hf
                have h189 : af.tmps[189]?.getD undef = .slice Ad nd cd := g189
                clear g189
                go_simp
                exact hKf _ _ (Below.refl _ _) rfl
              | 18, _ =>
                refine StepOk.yes _ 191 rfl rfl rfl rfl (fun _ _ h => h) [(183, some 10), (190, some 17)] (by kernel_rfl) (fun af wf hbw hf Kf hKf => ?_)
                obtain ⟨g183, g190, _⟩ := hf
                have h183 : af.tmps[183]?.getD undef = .int .i64 a1 := g183
                have h190 : af.tmps[190]?.getD undef = .int .i64 (nd : Int) := g190
                clear g183 g190
                have hd18 : decide ((nd : Int) < a1) = false := by simp; omega
                have h0 := trivial
                go_simp
                exact hKf _ _ (Below.refl _ _) rfl
              | 19, _ =>
                refine StepOk.yes _ 192 rfl rfl rfl rfl (fun _ _ h => h) [(181, some 8), (191, some 18)] (by kernel_rfl) (fun af wf hbw hf Kf hKf => ?_)
                obtain ⟨g181, g191, _⟩ := hf
                have h181 : af.tmps[181]?.getD undef = .bool false := g181
                have h191 : af.tmps[191]?.getD undef = .bool false := g191
                clear g181 g191
                go_simp
                exact hKf _ _ (Below.refl _ _) rfl
              | 20, _ =>
                refine StepOk.yes _ 193 rfl rfl rfl rfl (fun _ _ h => h) [(192, some 19)] (by kernel_rfl) (fun af wf hbw hf Kf hKf => ?_)
                obtain ⟨g192, _⟩ := hf
                have h192 : af.tmps[192]?.getD undef = .bool false := g192
                clear g192
                go_simp
                exact hKf _ _ (Below.refl _ _) rfl
              | 21, _ =>
                refine StepOk.yes _ 194 rfl rfl rfl rfl (fun _ _ h => h) [(7, none)] (by kernel_rfl) (fun af wf hbw hf Kf hKf => ?_)
                obtain ⟨g7, _⟩ := hf
                have h7 : af.tmps[7]?.getD undef = .pointer (some ⟨w.heap.size, 0, none⟩) := g7
                clear g7
                go_simp
                exact hKf _ _ (Below.refl _ _) rfl
              | 22, _ =>
                refine StepOk.yes _ 195 rfl rfl rfl rfl (fun _ _ h => h) [(194, some 21)] (by kernel_rfl) (fun af wf hbw hf Kf hKf => ?_)
                obtain ⟨g194, _⟩ := hf
                have h194 : af.tmps[194]?.getD undef = .pointer (some ⟨w.heap.size, 5, none⟩) := g194
                clear g194
                have cB0 := (Blk.on (Blk.drew (hB1)) hbw).cell
                go_simp
                exact hKf _ _ (Below.refl _ _) rfl
              | 23, _ =>
                refine StepOk.yes _ 196 rfl rfl rfl rfl (fun _ _ h => h) [(195, some 22)] (by kernel_rfl) (fun af wf hbw hf Kf hKf => ?_)
                obtain ⟨g195, _⟩ := hf
                have h195 : af.tmps[195]?.getD undef = .slice Ab nb' cb := g195
                clear g195
                go_simp
                exact hKf _ _ (Below.refl _ _) rfl
              | 24, _ =>
                refine StepOk.yes _ 197 rfl rfl rfl rfl (fun _ _ h => h) [(1, none)] (by kernel_rfl) (fun af wf hbw hf Kf hKf => ?_)
                obtain ⟨g1, _⟩ := hf
                have h1 : af.tmps[1]?.getD undef = .slice (some ⟨bo, off, none⟩) N cl := g1
                clear g1
                go_simp
                exact hKf _ _ (Below.refl _ _) rfl
              | 25, _ =>
                refine StepOk.yes _ 198 rfl rfl rfl rfl (fun _ _ h => h) [(7, none)] (by kernel_rfl) (fun af wf hbw hf Kf hKf => ?_)
                obtain ⟨g7, _⟩ := hf
                have h7 : af.tmps[7]?.getD undef = .pointer (some ⟨w.heap.size, 0, none⟩) := g7
                clear g7
                go_simp
                exact hKf _ _ (Below.refl _ _) rfl
              | 26, _ =>
                refine StepOk.yes _ 199 rfl rfl rfl rfl (fun _ _ h => h) [(198, some 25)] (by kernel_rfl) (fun af wf hbw hf Kf hKf => ?_)
                obtain ⟨g198, _⟩ := hf
                have h198 : af.tmps[198]?.getD undef = .pointer (some ⟨w.heap.size, 1, none⟩) := g198
                clear g198
                have cB0 := (Blk.on (Blk.drew (hB1)) hbw).cell
                go_simp
                exact hKf _ _ (Below.refl _ _) rfl
              | 27, _ =>
                refine StepOk.yes _ 200 rfl rfl rfl rfl (fun _ _ h => h) [(197, some 24), (199, some 26)] (by kernel_rfl) (fun af wf hbw hf Kf hKf => ?_)
                obtain ⟨g197, g199, _⟩ := hf
                have h197 : af.tmps[197]?.getD undef = .slice (some ⟨bo, off, none⟩) N cl := g197
                have h199 : af.tmps[199]?.getD undef = .int .i64 (k : Int) := g199
                clear g197 g199
                go_simp
                exact hKf _ _ (Below.refl _ _) rfl
              | 28, _ =>
                refine StepOk.yes _ 201 rfl rfl rfl rfl (fun _ _ h => h) [(200, some 27)] (by kernel_rfl) (fun af wf hbw hf Kf hKf => ?_)
                obtain ⟨g200, _⟩ := hf
                have h200 : af.tmps[200]?.getD undef = .pointer (some ⟨bo, off + k * 2, none⟩) := g200
                clear g200
                go_simp
                exact hKf _ _ (Below.refl _ _) rfl
              | 29, _ =>
                refine StepOk.yes _ 202 rfl rfl rfl rfl (fun _ _ h => h) [(201, some 28)] (by kernel_rfl) (fun af wf hbw hf Kf hKf => ?_)
                obtain ⟨g201, _⟩ := hf
                have h201 : af.tmps[201]?.getD undef = .pointer (some ⟨bo, off + k * 2 + 1, none⟩) := g201
                clear g201
                have cB0 := (Blk.on (Blk.drew (hB1)) hbw).cell
                have cB9 := (Below.cell (p := ⟨bo, off + k * 2 + 1, none⟩) hbw hbo).trans hc1
                go_simp
                exact hKf _ _ (Below.refl _ _) rfl
              | 30, _ =>
                refine StepOk.yes _ 203 rfl rfl rfl rfl (fun _ _ h => h) [(202, some 29)] (by kernel_rfl) (fun af wf hbw hf Kf hKf => ?_)
                obtain ⟨g202, _⟩ := hf
                have h202 : af.tmps[202]?.getD undef = .slice Ad nd cd := g202
                clear g202
                go_simp
                exact hKf _ _ (Below.refl _ _) rfl
              | 31, _ =>
                refine StepOk.yes _ 204 rfl rfl rfl rfl (fun _ _ h => h) [(7, none)] (by kernel_rfl) (fun af wf hbw hf Kf hKf => ?_)
                obtain ⟨g7, _⟩ := hf
                have h7 : af.tmps[7]?.getD undef = .pointer (some ⟨w.heap.size, 0, none⟩) := g7
                clear g7
                go_simp
                exact hKf _ _ (Below.refl _ _) rfl
              | 32, _ =>
                refine StepOk.yes _ 205 rfl rfl rfl rfl (fun _ _ h => h) [(204, some 31)] (by kernel_rfl) (fun af wf hbw hf Kf hKf => ?_)
                obtain ⟨g204, _⟩ := hf
                have h204 : af.tmps[204]?.getD undef = .pointer (some ⟨w.heap.size, 3, none⟩) := g204
                clear g204
                have cB0 := (Blk.on (Blk.drew (hB1)) hbw).cell
                go_simp
                exact hKf _ _ (Below.refl _ _) rfl
              | 33, _ =>
                refine StepOk.yes _ 206 rfl rfl rfl rfl (fun _ _ h => h) [(203, some 30), (205, some 32)] (by kernel_rfl) (fun af wf hbw hf Kf hKf => ?_)
                obtain ⟨g203, g205, _⟩ := hf
                have h203 : af.tmps[203]?.getD undef = .int .i64 (nd : Int) := g203
                have h205 : af.tmps[205]?.getD undef = .int .i64 a1 := g205
                clear g203 g205
                have hwr : IntKind.i64.wrap ((nd : Int) - a1) = (nd : Int) - a1 := IntWalk.i64_in _ (by omega)
                go_simp
                exact hKf _ _ (Below.refl _ _) rfl
              | 34, _ =>
                refine StepOk.yes _ 207 rfl rfl rfl rfl (fun _ _ h => h) [(196, some 23), (206, some 33)] (by kernel_rfl) (fun af wf hbw hf Kf hKf => ?_)
                obtain ⟨g196, g206, _⟩ := hf
                have h196 : af.tmps[196]?.getD undef = .int .i64 (nb' : Int) := g196
                have h206 : af.tmps[206]?.getD undef = .int .i64 ((nd : Int) - a1) := g206
                clear g196 g206
                have hd34 : decide ((nd : Int) - a1 < nb') = true := by simp; omega
                go_simp
                exact hKf _ _ (Below.refl _ _) rfl
              | 35, _ =>
                refine StepOk.yes _ 208 rfl rfl rfl rfl (fun _ _ h => h) [(193, some 20), (207, some 34)] (by kernel_rfl) (fun af wf hbw hf Kf hKf => ?_)
                obtain ⟨g193, g207, _⟩ := hf
                have h193 : af.tmps[193]?.getD undef = .bool false := g193
                have h207 : af.tmps[207]?.getD undef = .bool true := g207
                clear g193 g207
                go_simp
                exact hKf _ _ (Below.refl _ _) rfl
              | 36, _ =>
                refine StepOk.plain _ 209 rfl rfl rfl [(177, some 4), (208, some 35)] (by kernel_rfl) (fun af wf hbw hf Kf hKf => ?_)
                obtain ⟨g177, g208, _⟩ := hf
                have h177 : af.tmps[177]?.getD undef = .bool true := g177
                have h208 : af.tmps[208]?.getD undef = .bool true := g208
                clear g177 g208
                go_simp
                exact hKf _ _ (Below.refl _ _) rfl
              | i + 37, h => exact absurd h (by show ¬ (i + 37 < 37); omega)
            · intro af wF hbF hdF hsF hbaseF hfactF
              obtain ⟨T, dsF⟩ := af
              obtain rfl : dsF = _ := hdF
              have e209 := hfactF 36 209 (by decide) rfl
              replace e209 : T[209]?.getD undef = .bool true := e209
              have hT := frame_back T [173, 174, 175, 176, 177, 178, 179, 180, 181, 182, 183, 184, 185, 186, 187, 188, 189, 190, 191, 192, 193, 194, 195, 196, 197, 198, 199, 200, 201, 202, 203, 204, 205, 206, 207, 208, 209] hbaseF hsF (by kernel_rfl)
              simp only [List.foldl_cons, List.foldl_nil, List.setIfInBounds_toArray, List.set_cons_zero, List.set_cons_succ] at hT
              clear hbaseF hfactF hsF
              generalize T[173]?.getD undef = u173 at hT
              generalize T[174]?.getD undef = u174 at hT
              generalize T[175]?.getD undef = u175 at hT
              generalize T[176]?.getD undef = u176 at hT
              generalize T[177]?.getD undef = u177 at hT
              generalize T[178]?.getD undef = u178 at hT
              generalize T[179]?.getD undef = u179 at hT
              generalize T[180]?.getD undef = u180 at hT
              generalize T[181]?.getD undef = u181 at hT
              generalize T[182]?.getD undef = u182 at hT
              generalize T[183]?.getD undef = u183 at hT
              generalize T[184]?.getD undef = u184 at hT
              generalize T[185]?.getD undef = u185 at hT
              generalize T[186]?.getD undef = u186 at hT
              generalize T[187]?.getD undef = u187 at hT
              generalize T[188]?.getD undef = u188 at hT
              generalize T[189]?.getD undef = u189 at hT
              generalize T[190]?.getD undef = u190 at hT
              generalize T[191]?.getD undef = u191 at hT
              generalize T[192]?.getD undef = u192 at hT
              generalize T[193]?.getD undef = u193 at hT
              generalize T[194]?.getD undef = u194 at hT
              generalize T[195]?.getD undef = u195 at hT
              generalize T[196]?.getD undef = u196 at hT
              generalize T[197]?.getD undef = u197 at hT
              generalize T[198]?.getD undef = u198 at hT
              generalize T[199]?.getD undef = u199 at hT
              generalize T[200]?.getD undef = u200 at hT
              generalize T[201]?.getD undef = u201 at hT
              generalize T[202]?.getD undef = u202 at hT
              generalize T[203]?.getD undef = u203 at hT
              generalize T[204]?.getD undef = u204 at hT
              generalize T[205]?.getD undef = u205 at hT
              generalize T[206]?.getD undef = u206 at hT
              generalize T[207]?.getD undef = u207 at hT
              generalize T[208]?.getD undef = u208 at hT
              rw [e209] at hT; clear e209
              subst hT
              have hbY := hbX.trans (hbF.mono hbX.size)
              have hcv1 := conv cp _ (hr.below hbY)
              go_wp2_with fail
              go_ret3
              exact Stepped.same hr hn hcp hrl hP (by (have q_hbY := Below.size hbY; (try simp at q_hbY); repeat (first | exact Below.refl _ _ | (refine Below.trans ?_ (Below.mono hbY (by first | omega | (simp; omega) | simp))) | (refine Below.setCell ?_ (by first | omega | (simp; omega) | simp) _) | (refine Below.alloc ?_ (by first | omega | (simp; omega) | simp) _) | apply Below.drew | apply below_drewN)))
          · obtain ⟨aN, rfl⟩ : ∃ aN : Nat, a1 = aN := ⟨a1.toNat, by omega⟩
            have hbl := hbR.len
            have hF := write_yes hc A cp p k aN Ab nb' cb bs' wc hrc hn hcp hmp hk hfw hbR (by rw [hlw]; omega)
            have hPn := hP.set_ (j := 8 + aN) (x := bs') (o' := (o.1, layL o.2 aN bs')) hc.fit ho (by omega) (sow_write z aN o bs' ho1 hol (by omega)) (by
              right
              have h9 : (layL o.2 aN bs').length = o.2.length := layL_len _ _ _ (by omega)
              rcases hP.ok o (List.mem_of_getElem? ho) with h | h
              · omega
              · exact ⟨h.1, h.2.1, by rw [h9]; exact h.2.2.1, by rw [h9]; exact h.2.2.2⟩)
            obtain ⟨Q, hQ⟩ : ∃ Q, Q = layL p (k * z + (8 + aN)) bs' := ⟨_, rfl⟩
            obtain ⟨NL, hNL⟩ : ∃ NL, NL = layL o.2 aN bs' := ⟨_, rfl⟩
            have hNLl0 : NL.length = o.2.length := by rw [hNL]; exact layL_len _ _ _ (by omega)
            rw [← hNL] at hPn
            obtain ⟨LL, hLL⟩ : ∃ LL, LL = l.set k (o.1, NL) := ⟨_, rfl⟩
            have hQl := (hPn.may hc).2
            have hLl := hPn.len
            have HLL := Lib.hid hLL
            have HNL := Lib.hid hNL
            rw [← hQ] at hF hPn hQl
            rw [← hLL] at hPn hLl
            clear hQ hLL hNL ho hfw
            go_wp2_with fail
            refine hF.mono ?_
            rintro e w1 ⟨v1, rfl, hFq, hb1⟩
            obtain ⟨A2, c2, rfl, hRq, _, hn2, hm2'⟩ := hFq.rdn 256 hQl
            clear hFq
            have hrl1 := hrlc.below hb1
            have hB1 := hB.on hb1
            have hbX := hbel.trans (hb1.mono hzc)
            clear cB hF hcv
            obtain ⟨bo, off, S, Ad, nd, cd, L, hAl, hbo, hoe, hc0, hc1, hX, hnd, hcd⟩ := hrl1.ob hk
            have hoo : o = (S, L) := by have := HO.out; rw [this] at hoe; injection hoe
            subst hoo
            subst hAl
            have hXl : L.length = nd := hX.1.len
            simp only at ho1 hol hlw
            have q1 : (k : Int) < N := by omega
            simp only at hNLl0 HNL hLl hol1
            go_wp2_with fail
            refine wp_flows [(fun y_ _ => y_ = .slice (some ⟨bo, off, none⟩) N cl), (fun y_ _ => y_ = .pointer (some ⟨w.heap.size, 1, none⟩)), (fun y_ _ => y_ = .int .i64 (k : Int)), (fun y_ _ => y_ = .bool true), (fun y_ _ => y_ = .bool true), (fun y_ _ => y_ = .pointer (some ⟨w.heap.size, 3, none⟩)), (fun y_ _ => y_ = .int .i64 (aN : Int)), (fun y_ _ => y_ = .bool false), (fun y_ _ => y_ = .bool false), (fun y_ _ => y_ = .pointer (some ⟨w.heap.size, 3, none⟩)), (fun y_ _ => y_ = .int .i64 (aN : Int)), (fun y_ _ => y_ = .slice (some ⟨bo, off, none⟩) N cl), (fun y_ _ => y_ = .pointer (some ⟨w.heap.size, 1, none⟩)), (fun y_ _ => y_ = .int .i64 (k : Int)), (fun y_ _ => y_ = .pointer (some ⟨bo, off + k * 2, none⟩)), (fun y_ _ => y_ = .pointer (some ⟨bo, off + k * 2 + 1, none⟩)), (fun y_ _ => y_ = .slice Ad nd cd), (fun y_ _ => y_ = .int .i64 (nd : Int)), (fun y_ _ => y_ = .bool false), (fun y_ _ => y_ = .bool false), (fun y_ _ => y_ = .bool false), (fun y_ _ => y_ = .pointer (some ⟨w.heap.size, 5, none⟩)), (fun y_ _ => y_ = .slice Ab nb' cb), (fun y_ _ => y_ = .int .i64 (nb' : Int)), (fun y_ _ => y_ = .slice (some ⟨bo, off, none⟩) N cl), (fun y_ _ => y_ = .pointer (some ⟨w.heap.size, 1, none⟩)), (fun y_ _ => y_ = .int .i64 (k : Int)), (fun y_ _ => y_ = .pointer (some ⟨bo, off + k * 2, none⟩)), (fun y_ _ => y_ = .pointer (some ⟨bo, off + k * 2 + 1, none⟩)), (fun y_ _ => y_ = .slice Ad nd cd), (fun y_ _ => y_ = .int .i64 (nd : Int)), (fun y_ _ => y_ = .pointer (some ⟨w.heap.size, 3, none⟩)), (fun y_ _ => y_ = .int .i64 (aN : Int)), (fun y_ _ => y_ = .int .i64 ((nd : Int) - (aN : Int))), (fun y_ _ => y_ = .bool false), (fun y_ _ => y_ = .bool false), (fun y_ _ => y_ = .bool false)] (by kernel_rfl) ⟨Stab.eq _, Stab.eq _, Stab.eq _, Stab.eq _, Stab.eq _, Stab.eq _, Stab.eq _, Stab.eq _, Stab.eq _, Stab.eq _, Stab.eq _, Stab.eq _, Stab.eq _, Stab.eq _, Stab.eq _, Stab.eq _, Stab.eq _, Stab.eq _, Stab.eq _, Stab.eq _, Stab.eq _, Stab.eq _, Stab.eq _, Stab.eq _, Stab.eq _, Stab.eq _, Stab.eq _, Stab.eq _, Stab.eq _, Stab.eq _, Stab.eq _, Stab.eq _, Stab.eq _, Stab.eq _, Stab.eq _, Stab.eq _, Stab.eq _, trivial⟩ (by kernel_rfl) (by rfl) ?_ ?_
            · intro kq hkq
              match kq, hkq with
              | 0, _ =>
                refine StepOk.plain _ 173 rfl rfl rfl [(1, none)] (by kernel_rfl) (fun af wf hbw hf Kf hKf => ?_)
                obtain ⟨g1, _⟩ := hf
                have h1 : af.tmps[1]?.getD undef = .slice (some ⟨bo, off, none⟩) N cl := g1
                clear g1
                go_simp
                exact hKf _ _ (Below.refl _ _) rfl
              | 1, _ =>
                refine StepOk.plain _ 174 rfl rfl rfl [(7, none)] (by kernel_rfl) (fun af wf hbw hf Kf hKf => ?_)
                obtain ⟨g7, _⟩ := hf
                have h7 : af.tmps[7]?.getD undef = .pointer (some ⟨w.heap.size, 0, none⟩) := g7
                clear g7
                go_simp
                exact hKf _ _ (Below.refl _ _) rfl
              | 2, _ =>
                refine StepOk.plain _ 175 rfl rfl rfl [(174, some 1)] (by kernel_rfl) (fun af wf hbw hf Kf hKf => ?_)
                obtain ⟨g174, _⟩ := hf
                have h174 : af.tmps[174]?.getD undef = .pointer (some ⟨w.heap.size, 1, none⟩) := g174
                clear g174
                have cB0 := (Blk.on (Blk.drew (hB1)) hbw).cell
                go_simp
                exact hKf _ _ (Below.refl _ _) rfl
              | 3, _ =>
                refine StepOk.plain _ 176 rfl rfl rfl [(173, some 0), (175, some 2)] (by kernel_rfl) (fun af wf hbw hf Kf hKf => ?_)
                obtain ⟨g173, g175, _⟩ := hf
                have h173 : af.tmps[173]?.getD undef = .slice (some ⟨bo, off, none⟩) N cl := g173
                have h175 : af.tmps[175]?.getD undef = .int .i64 (k : Int) := g175
                clear g173 g175
                go_simp
                refine (rthere_any _ N cl _ _ l k _ (hrl1.drew.below hbw)).mono ?_
                rintro e wN ⟨rfl, rfl⟩
                exact hKf _ _ (Below.refl _ _) (congrArg Value.bool HTH.out)
              | 4, _ =>
                refine StepOk.plain _ 177 rfl rfl rfl [(176, some 3)] (by kernel_rfl) (fun af wf hbw hf Kf hKf => ?_)
                obtain ⟨g176, _⟩ := hf
                have h176 : af.tmps[176]?.getD undef = .bool true := g176
                clear g176
                go_simp
                exact hKf _ _ (Below.refl _ _) rfl
              | 5, _ =>
                refine StepOk.yes _ 178 rfl rfl rfl rfl (fun _ _ h => h) [(7, none)] (by kernel_rfl) (fun af wf hbw hf Kf hKf => ?_)
                obtain ⟨g7, _⟩ := hf
                have h7 : af.tmps[7]?.getD undef = .pointer (some ⟨w.heap.size, 0, none⟩) := g7
                clear g7
                go_simp
                exact hKf _ _ (Below.refl _ _) rfl
              | 6, _ =>
                refine StepOk.yes _ 179 rfl rfl rfl rfl (fun _ _ h => h) [(178, some 5)] (by kernel_rfl) (fun af wf hbw hf Kf hKf => ?_)
                obtain ⟨g178, _⟩ := hf
                have h178 : af.tmps[178]?.getD undef = .pointer (some ⟨w.heap.size, 3, none⟩) := g178
                clear g178
                have cB0 := (Blk.on (Blk.drew (hB1)) hbw).cell
                go_simp
                exact hKf _ _ (Below.refl _ _) rfl
              | 7, _ =>
                refine StepOk.yes _ 180 rfl rfl rfl rfl (fun _ _ h => h) [(179, some 6)] (by kernel_rfl) (fun af wf hbw hf Kf hKf => ?_)
                obtain ⟨g179, _⟩ := hf
                have h179 : af.tmps[179]?.getD undef = .int .i64 (aN : Int) := g179
                clear g179
                have hd7 : decide ((aN : Int) < 0) = false := by first | (simp; done) | (simp; omega)
                go_simp
                exact hKf _ _ (Below.refl _ _) rfl
              | 8, _ =>
                refine StepOk.yes _ 181 rfl rfl rfl rfl (fun _ _ h => h) [(180, some 7)] (by kernel_rfl) (fun af wf hbw hf Kf hKf => ?_)
                obtain ⟨g180, _⟩ := hf
                have h180 : af.tmps[180]?.getD undef = .bool false := g180
                clear g180
                go_simp
                exact hKf _ _ (Below.refl _ _) rfl
              | 9, _ =>
                refine StepOk.yes _ 182 rfl rfl rfl rfl (fun _ _ h => h) [(7, none)] (by kernel_rfl) (fun af wf hbw hf Kf hKf => ?_)
                obtain ⟨g7, _⟩ := hf
                have h7 : af.tmps[7]?.getD undef = .pointer (some ⟨w.heap.size, 0, none⟩) := g7
                clear g7
                go_simp
                exact hKf _ _ (Below.refl _ _) rfl
              | 10, _ =>
                refine StepOk.yes _ 183 rfl rfl rfl rfl (fun _ _ h => h) [(182, some 9)] (by kernel_rfl) (fun af wf hbw hf Kf hKf => ?_)
                obtain ⟨g182, _⟩ := hf
                have h182 : af.tmps[182]?.getD undef = .pointer (some ⟨w.heap.size, 3, none⟩) := g182
                clear g182
                have cB0 := (Blk.on (Blk.drew (hB1)) hbw).cell
                go_simp
                exact hKf _ _ (Below.refl _ _) rfl
              | 11, _ =>
                refine StepOk.yes _ 184 rfl rfl rfl rfl (fun _ _ h => h) [(1, none)] (by kernel_rfl) (fun af wf hbw hf Kf hKf => ?_)
                obtain ⟨g1, _⟩ := hf
                have h1 : af.tmps[1]?.getD undef = .slice (some ⟨bo, off, none⟩) N cl := g1
                clear g1
                go_simp
                exact hKf _ _ (Below.refl _ _) rfl
              | 12, _ =>
                refine StepOk.yes _ 185 rfl rfl rfl rfl (fun _ _ h => h) [(7, none)] (by kernel_rfl) (fun af wf hbw hf Kf hKf => ?_)
                obtain ⟨g7, _⟩ := hf
                have h7 : af.tmps[7]?.getD undef = .pointer (some ⟨w.heap.size, 0, none⟩) := g7
                clear g7
                go_simp
                exact hKf _ _ (Below.refl _ _) rfl
              | 13, _ =>
                refine StepOk.yes _ 186 rfl rfl rfl rfl (fun _ _ h => h) [(185, some 12)] (by kernel_rfl) (fun af wf hbw hf Kf hKf => ?_)
                obtain ⟨g185, _⟩ := hf
                have h185 : af.tmps[185]?.getD undef = .pointer (some ⟨w.heap.size, 1, none⟩) := g185
                clear g185
                have cB0 := (Blk.on (Blk.drew (hB1)) hbw).cell
                go_simp
                exact hKf _ _ (Below.refl _ _) rfl
              | 14, _ =>
                refine StepOk.yes _ 187 rfl rfl rfl rfl (fun _ _ h => h) [(184, some 11), (186, some 13)] (by kernel_rfl) (fun af wf hbw hf Kf hKf => ?_)
                obtain ⟨g184, g186, _⟩ := hf
                have h184 : af.tmps[184]?.getD undef = .slice (some ⟨bo, off, none⟩) N cl := g184
                have h186 : af.tmps[186]?.getD undef = .int .i64 (k : Int) := g186
                clear g184 g186
                go_simp
                exact hKf _ _ (Below.refl _ _) rfl
              | 15, _ =>
                refine StepOk.yes _ 188 rfl rfl rfl rfl (fun _ _ h => h) [(187, some 14)] (by kernel_rfl) (fun af wf hbw hf Kf hKf => ?_)
                obtain ⟨g187, _⟩ := hf
                have h187 : af.tmps[187]?.getD undef = .pointer (some ⟨bo, off + k * 2, none⟩) := g187
                clear g187
                go_simp
                exact hKf _ _ (Below.refl _ _) rfl
              | 16, _ =>
                refine StepOk.yes _ 189 rfl rfl rfl rfl (fun _ _ h => h) [(188, some 15)] (by kernel_rfl) (fun af wf hbw hf Kf hKf => ?_)
                obtain ⟨g188, _⟩ := hf
                have h188 : af.tmps[188]?.getD undef = .pointer (some ⟨bo, off + k * 2 + 1, none⟩) := g188
                clear g188
                have cB0 := (Blk.on (Blk.drew (hB1)) hbw).cell
                have cB9 := (Below.cell (p := ⟨bo, off + k * 2 + 1, none⟩) hbw hbo).trans hc1
                go_simp
                exact hKf _ _ (Below.refl _ _) rfl
              | 17, _ =>
                refine StepOk.yes _ 190 rfl rfl rfl rfl (fun _ _ h => h) [(189, some 16)] (by kernel_rfl) (fun af wf hbw hf Kf hKf => ?_)
                obtain ⟨g189, _⟩ := hf
                have h189 : af.tmps[189]?.getD undef = .slice Ad nd cd := g189
                clear g189
                go_simp
                exact hKf _ _ (Below.refl _ _) rfl
              | 18, _ =>
                refine StepOk.yes _ 191 rfl rfl rfl rfl (fun _ _ h => h) [(183, some 10), (190, some 17)] (by kernel_rfl) (fun af wf hbw hf Kf hKf => ?_)
                obtain ⟨g183, g190, _⟩ := hf
                have h183 : af.tmps[183]?.getD undef = .int .i64 (aN : Int) := g183
                have h190 : af.tmps[190]?.getD undef = .int .i64 (nd : Int) := g190
                clear g183 g190
                have hd18 : decide ((nd : Int) < (aN : Int)) = false := by simp; omega
                have hd18n : decide (nd < aN) = false := by simp; omega
                go_simp
                exact hKf _ _ (Below.refl _ _) rfl
              | 19, _ =>
                refine StepOk.yes _ 192 rfl rfl rfl rfl (fun _ _ h => h) [(181, some 8), (191, some 18)] (by kernel_rfl) (fun af wf hbw hf Kf hKf => ?_)
                obtain ⟨g181, g191, _⟩ := hf
                have h181 : af.tmps[181]?.getD undef = .bool false := g181
                have h191 : af.tmps[191]?.getD undef = .bool false := g191
                clear g181 g191
                go_simp
                exact hKf _ _ (Below.refl _ _) rfl
              | 20, _ =>
                refine StepOk.yes _ 193 rfl rfl rfl rfl (fun _ _ h => h) [(192, some 19)] (by kernel_rfl) (fun af wf hbw hf Kf hKf => ?_)
                obtain ⟨g192, _⟩ := hf
                have h192 : af.tmps[192]?.getD undef = .bool false := g192
                clear g192
                go_simp
                exact hKf _ _ (Below.refl _ _) rfl
              | 21, _ =>
                refine StepOk.yes _ 194 rfl rfl rfl rfl (fun _ _ h => h) [(7, none)] (by kernel_rfl) (fun af wf hbw hf Kf hKf => ?_)
                obtain ⟨g7, _⟩ := hf
                have h7 : af.tmps[7]?.getD undef = .pointer (some ⟨w.heap.size, 0, none⟩) := g7
                clear g7
                go_simp
                exact hKf _ _ (Below.refl _ _) rfl
              | 22, _ =>
                refine StepOk.yes _ 195 rfl rfl rfl rfl (fun _ _ h => h) [(194, some 21)] (by kernel_rfl) (fun af wf hbw hf Kf hKf => ?_)
                obtain ⟨g194, _⟩ := hf
                have h194 : af.tmps[194]?.getD undef = .pointer (some ⟨w.heap.size, 5, none⟩) := g194
                clear g194
                have cB0 := (Blk.on (Blk.drew (hB1)) hbw).cell
                go_simp
                exact hKf _ _ (Below.refl _ _) rfl
              | 23, _ =>
                refine StepOk.yes _ 196 rfl rfl rfl rfl (fun _ _ h => h) [(195, some 22)] (by kernel_rfl) (fun af wf hbw hf Kf hKf => ?_)
                obtain ⟨g195, _⟩ := hf
                have h195 : af.tmps[195]?.getD undef = .slice Ab nb' cb := g195
                clear g195
                go_simp
                exact hKf _ _ (Below.refl _ _) rfl
              | 24, _ =>
                refine StepOk.yes _ 197 rfl rfl rfl rfl (fun _ _ h => h) [(1, none)] (by kernel_rfl) (fun af wf hbw hf Kf hKf => ?_)
                obtain ⟨g1, _⟩ := hf
                have h1 : af.tmps[1]?.getD undef = .slice (some ⟨bo, off, none⟩) N cl := g1
                clear g1
                go_simp
                exact hKf _ _ (Below.refl _ _) rfl
              | 25, _ =>
                refine StepOk.yes _ 198 rfl rfl rfl rfl (fun _ _ h => h) [(7, none)] (by kernel_rfl) (fun af wf hbw hf Kf hKf => ?_)
                obtain ⟨g7, _⟩ := hf
                have h7 : af.tmps[7]?.getD undef = .pointer (some ⟨w.heap.size, 0, none⟩) := g7
                clear g7
                go_simp
                exact hKf _ _ (Below.refl _ _) rfl
              | 26, _ =>
                refine StepOk.yes _ 199 rfl rfl rfl rfl (fun _ _ h => h) [(198, some 25)] (by kernel_rfl) (fun af wf hbw hf Kf hKf => ?_)
                obtain ⟨g198, _⟩ := hf
                have h198 : af.tmps[198]?.getD undef = .pointer (some ⟨w.heap.size, 1, none⟩) := g198
                clear g198
                have cB0 := (Blk.on (Blk.drew (hB1)) hbw).cell
                go_simp
                exact hKf _ _ (Below.refl _ _) rfl
              | 27, _ =>
                refine StepOk.yes _ 200 rfl rfl rfl rfl (fun _ _ h => h) [(197, some 24), (199, some 26)] (by kernel_rfl) (fun af wf hbw hf Kf hKf => ?_)
                obtain ⟨g197, g199, _⟩ := hf
                have h197 : af.tmps[197]?.getD undef = .slice (some ⟨bo, off, none⟩) N cl := g197
                have h199 : af.tmps[199]?.getD undef = .int .i64 (k : Int) := g199
                clear g197 g199
                go_simp
                exact hKf _ _ (Below.refl _ _) rfl
              | 28, _ =>
                refine StepOk.yes _ 201 rfl rfl rfl rfl (fun _ _ h => h) [(200, some 27)] (by kernel_rfl) (fun af wf hbw hf Kf hKf => ?_)
                obtain ⟨g200, _⟩ := hf
                have h200 : af.tmps[200]?.getD undef = .pointer (some ⟨bo, off + k * 2, none⟩) := g200
                clear g200
                go_simp
                exact hKf _ _ (Below.refl _ _) rfl
              | 29, _ =>
                refine StepOk.yes _ 202 rfl rfl rfl rfl (fun _ _ h => h) [(201, some 28)] (by kernel_rfl) (fun af wf hbw hf Kf hKf => ?_)
                obtain ⟨g201, _⟩ := hf
                have h201 : af.tmps[201]?.getD undef = .pointer (some ⟨bo, off + k * 2 + 1, none⟩) := g201
                clear g201
                have cB0 := (Blk.on (Blk.drew (hB1)) hbw).cell
                have cB9 := (Below.cell (p := ⟨bo, off + k * 2 + 1, none⟩) hbw hbo).trans hc1
                go_simp
                exact hKf _ _ (Below.refl _ _) rfl
              | 30, _ =>
                refine StepOk.yes _ 203 rfl rfl rfl rfl (fun _ _ h => h) [(202, some 29)] (by kernel_rfl) (fun af wf hbw hf Kf hKf => ?_)
                obtain ⟨g202, _⟩ := hf
                have h202 : af.tmps[202]?.getD undef = .slice Ad nd cd := g202
                clear g202
                go_simp
                exact hKf _ _ (Below.refl _ _) rfl
              | 31, _ =>
                refine StepOk.yes _ 204 rfl rfl rfl rfl (fun _ _ h => h) [(7, none)] (by kernel_rfl) (fun af wf hbw hf Kf hKf => ?_)
                obtain ⟨g7, _⟩ := hf
                have h7 : af.tmps[7]?.getD undef = .pointer (some ⟨w.heap.size, 0, none⟩) := g7
                clear g7
                go_simp
                exact hKf _ _ (Below.refl _ _) rfl
              | 32, _ =>
                refine StepOk.yes _ 205 rfl rfl rfl rfl (fun _ _ h => h) [(204, some 31)] (by kernel_rfl) (fun af wf hbw hf Kf hKf => ?_)
                obtain ⟨g204, _⟩ := hf
                have h204 : af.tmps[204]?.getD undef = .pointer (some ⟨w.heap.size, 3, none⟩) := g204
                clear g204
                have cB0 := (Blk.on (Blk.drew (hB1)) hbw).cell
                go_simp
                exact hKf _ _ (Below.refl _ _) rfl
              | 33, _ =>
                refine StepOk.yes _ 206 rfl rfl rfl rfl (fun _ _ h => h) [(203, some 30), (205, some 32)] (by kernel_rfl) (fun af wf hbw hf Kf hKf => ?_)
                obtain ⟨g203, g205, _⟩ := hf
                have h203 : af.tmps[203]?.getD undef = .int .i64 (nd : Int) := g203
                have h205 : af.tmps[205]?.getD undef = .int .i64 (aN : Int) := g205
                clear g203 g205
                have hwr : IntKind.i64.wrap ((nd : Int) - (aN : Int)) = (nd : Int) - (aN : Int) := IntWalk.i64_in _ (by omega)
                go_simp
                exact hKf _ _ (Below.refl _ _) rfl
              | 34, _ =>
                refine StepOk.yes _ 207 rfl rfl rfl rfl (fun _ _ h => h) [(196, some 23), (206, some 33)] (by kernel_rfl) (fun af wf hbw hf Kf hKf => ?_)
                obtain ⟨g196, g206, _⟩ := hf
                have h196 : af.tmps[196]?.getD undef = .int .i64 (nb' : Int) := g196
                have h206 : af.tmps[206]?.getD undef = .int .i64 ((nd : Int) - (aN : Int)) := g206
                clear g196 g206
                have hd34 : decide ((nd : Int) - (aN : Int) < nb') = false := by simp; omega
                go_simp
                exact hKf _ _ (Below.refl _ _) rfl
              | 35, _ =>
                refine StepOk.yes _ 208 rfl rfl rfl rfl (fun _ _ h => h) [(193, some 20), (207, some 34)] (by kernel_rfl) (fun af wf hbw hf Kf hKf => ?_)
                obtain ⟨g193, g207, _⟩ := hf
                have h193 : af.tmps[193]?.getD undef = .bool false := g193
                have h207 : af.tmps[207]?.getD undef = .bool false := g207
                clear g193 g207
                go_simp
                exact hKf _ _ (Below.refl _ _) rfl
              | 36, _ =>
                refine StepOk.plain _ 209 rfl rfl rfl [(177, some 4), (208, some 35)] (by kernel_rfl) (fun af wf hbw hf Kf hKf => ?_)
                obtain ⟨g177, g208, _⟩ := hf
                have h177 : af.tmps[177]?.getD undef = .bool true := g177
                have h208 : af.tmps[208]?.getD undef = .bool false := g208
                clear g177 g208
                go_simp
                exact hKf _ _ (Below.refl _ _) rfl
              | i + 37, h => exact absurd h (by show ¬ (i + 37 < 37); omega)
            · intro af wF hbF hdF hsF hbaseF hfactF
              obtain ⟨T, dsF⟩ := af
              obtain rfl : dsF = _ := hdF
              have e209 := hfactF 36 209 (by decide) rfl
              replace e209 : T[209]?.getD undef = .bool false := e209
              have hT := frame_back T [173, 174, 175, 176, 177, 178, 179, 180, 181, 182, 183, 184, 185, 186, 187, 188, 189, 190, 191, 192, 193, 194, 195, 196, 197, 198, 199, 200, 201, 202, 203, 204, 205, 206, 207, 208, 209] hbaseF hsF (by kernel_rfl)
              simp only [List.foldl_cons, List.foldl_nil, List.setIfInBounds_toArray, List.set_cons_zero, List.set_cons_succ] at hT
              clear hbaseF hfactF hsF
              generalize T[173]?.getD undef = u173 at hT
              generalize T[174]?.getD undef = u174 at hT
              generalize T[175]?.getD undef = u175 at hT
              generalize T[176]?.getD undef = u176 at hT
              generalize T[177]?.getD undef = u177 at hT
              generalize T[178]?.getD undef = u178 at hT
              generalize T[179]?.getD undef = u179 at hT
              generalize T[180]?.getD undef = u180 at hT
              generalize T[181]?.getD undef = u181 at hT
              generalize T[182]?.getD undef = u182 at hT
              generalize T[183]?.getD undef = u183 at hT
              generalize T[184]?.getD undef = u184 at hT
              generalize T[185]?.getD undef = u185 at hT
              generalize T[186]?.getD undef = u186 at hT
              generalize T[187]?.getD undef = u187 at hT
              generalize T[188]?.getD undef = u188 at hT
              generalize T[189]?.getD undef = u189 at hT
              generalize T[190]?.getD undef = u190 at hT
              generalize T[191]?.getD undef = u191 at hT
              generalize T[192]?.getD undef = u192 at hT
              generalize T[193]?.getD undef = u193 at hT
              generalize T[194]?.getD undef = u194 at hT
              generalize T[195]?.getD undef = u195 at hT
              generalize T[196]?.getD undef = u196 at hT
              generalize T[197]?.getD undef = u197 at hT
              generalize T[198]?.getD undef = u198 at hT
              generalize T[199]?.getD undef = u199 at hT
              generalize T[200]?.getD undef = u200 at hT
              generalize T[201]?.getD undef = u201 at hT
              generalize T[202]?.getD undef = u202 at hT
              generalize T[203]?.getD undef = u203 at hT
              generalize T[204]?.getD undef = u204 at hT
              generalize T[205]?.getD undef = u205 at hT
              generalize T[206]?.getD undef = u206 at hT
              generalize T[207]?.getD undef = u207 at hT
              generalize T[208]?.getD undef = u208 at hT
              rw [e209] at hT; clear e209
              subst hT
              have hTh := rthere_any _ N cl _ _ l k wF (hrl1.below hbF)
              rw [HTH.out] at hTh
              have hB4 := hB1.on hbF
              have hrl4 := hrl1.below hbF
              have cBF := hB4.cell
              have hbY := hbX.trans (hbF.mono hbX.size)
              have hRq2 := hRq.below hbF
              have hbR4 := (hbR.below hb1).below hbF
              have hbo4 : bo < wF.heap.size := Nat.lt_of_lt_of_le hbo hbF.size
              have hc04 := (Below.cell (p := ⟨bo, off + k * 2, none⟩) hbF hbo).trans hc0
              have hc14 := (Below.cell (p := ⟨bo, off + k * 2 + 1, none⟩) hbF hbo).trans hc1
              have hX4 := hX.below hbF
              obtain ⟨w4, hw4⟩ : ∃ w4, w4 = wF := ⟨_, rfl⟩
              subst hw4
              clear hbF hB1 hrl1 hRq hbX hc0 hc1 hX hbo hb1
              go_wp2_with fail
              refine hTh.mono ?_
              rintro e w2 ⟨rfl, rfl⟩
              clear hTh
              have zB4 := hB4.lt
              go_wp2_with (at_builtin; refine wpList_append_bytes _ rfl (.tmp 214) (.tmp 220) _ rfl w4.heap.size 5 Try.underlying32 info8 _ [] rfl (Fresh.of_blk (n := 0) (Blk.new w4 _ #[]) (Nat.le_refl _) (by unfold maxLen; omega) rfl rfl) Ad nd cd L rfl (hX4.1.alloc _) (by simp; omega) (by simp) ?_; intro v5 w5 hF5 hg5 hb50; rw [List.nil_append] at hF5)
              obtain ⟨A5, c18, rfl, _, _, hn18, hm18⟩ := hF5.rdn nd hXl
              obtain ⟨g, cur, rfl, hgB, hBlk, hcs, _, _⟩ := hF5.open_ hXl (by omega)
              have hb5 : Below w4.heap.size w4 w5 := ((Below.refl w4.heap.size w4).alloc (Nat.le_refl _) _).trans hb50
              have hbR5 := hbR4.below hb5
              have hB5 := hB4.on hb5
              have hz45 := hb5.size
              have hNLl : NL.length = nd := hNLl0.trans hXl
              clear hb50 hg5 hc14 hX4 cBF
              by_cases hca : c18 = aN
              · have hb0 : nb' = 0 := by omega
                have HB0 := Lib.hid (show bs' = [] from List.eq_nil_of_length_eq_zero (by omega))
                clear hb0
                have HC := Lib.hid (show (c18 = aN) = True by simp [hca])
                clear hca
                have hmin : 0 + min nb' (nd - aN) ≤ cur.size := by omega
                have hRbN : RdN w5 [g] Ab nb' bs' := ⟨hbR5, fun ad hn hA hx => by
                  simp at hx
                  obtain ⟨bq, oq, hq1, hq2, _⟩ := hbR4.2 hn
                  rw [hA] at hq1
                  injection hq1 with hq1
                  rw [hq1] at hx
                  simp only at hx
                  omega⟩
                have hne : w.heap.size ∉ [g] := by simp; omega
                go_wp2_with fail
                refine wp_flv [(fun y_ _ => y_ = .slice (some ⟨g, 0, none⟩) nd c18), (fun y_ _ => y_ = .pointer (some ⟨w.heap.size, 3, none⟩)), (fun y_ _ => y_ = .int .i64 (aN : Int)), (fun y_ _ => y_ = .slice (some ⟨g, 0, none⟩) (nd - aN) (c18 - aN)), (fun y_ _ => y_ = .pointer (some ⟨w.heap.size, 5, none⟩)), (fun y_ _ => y_ = .slice Ab nb' cb), (fun _ _ => True)] [g] (RowInv 5 g cur (lay cur 0 bs')) [6] (by kernel_rfl) ⟨StabW.eq _ _, StabW.eq _ _, StabW.eq _ _, StabW.eq _ _, StabW.eq _ _, StabW.eq _ _, StabW.any _, trivial⟩ (RowInv.stab) (hBlk) (by kernel_rfl) (by kernel_rfl) (by kernel_rfl) (by rfl) ?_ ?_
                · intro kq hkq
                  match kq, hkq with
                  | 0, _ =>
                    refine StepV.plain _ rfl rfl rfl [(18, none)] (by kernel_rfl) (fun af wf hbw hz hf Kf hKf => ?_)
                    obtain ⟨g18, _⟩ := hf
                    have h18 : af.tmps[18]?.getD undef = .slice (some ⟨g, 0, none⟩) nd c18 := g18
                    clear g18
                    go_simp
                    exact hKf _ _ (Below.refl _ _) rfl
                  | 1, _ =>
                    refine StepV.plain _ rfl rfl rfl [(7, none)] (by kernel_rfl) (fun af wf hbw hz hf Kf hKf => ?_)
                    obtain ⟨g7, _⟩ := hf
                    have h7 : af.tmps[7]?.getD undef = .pointer (some ⟨w.heap.size, 0, none⟩) := g7
                    clear g7
                    go_simp
                    exact hKf _ _ (Below.refl _ _) rfl
                  | 2, _ =>
                    refine StepV.plain _ rfl rfl rfl [(223, some 1)] (by kernel_rfl) (fun af wf hbw hz hf Kf hKf => ?_)
                    obtain ⟨g223, _⟩ := hf
                    have h223 : af.tmps[223]?.getD undef = .pointer (some ⟨w.heap.size, 3, none⟩) := g223
                    clear g223
                    have cB0 := (Blk.kept (Blk.drew (hB5)) hbw (hne)).cell
                    go_simp
                    exact hKf _ _ (Below.refl _ _) rfl
                  | 3, _ =>
                    refine StepV.plain _ rfl rfl rfl [(222, some 0), (224, some 2)] (by kernel_rfl) (fun af wf hbw hz hf Kf hKf => ?_)
                    obtain ⟨g222, g224, _⟩ := hf
                    have h222 : af.tmps[222]?.getD undef = .slice (some ⟨g, 0, none⟩) nd c18 := g222
                    have h224 : af.tmps[224]?.getD undef = .int .i64 (aN : Int) := g224
                    clear g222 g224
                    have hcond := HC.out
                    have hle3 : aN ≤ nd := by omega
                    go_simp
                    exact hKf _ _ (Below.refl _ _) rfl
                  | 4, _ =>
                    refine StepV.plain _ rfl rfl rfl [(7, none)] (by kernel_rfl) (fun af wf hbw hz hf Kf hKf => ?_)
                    obtain ⟨g7, _⟩ := hf
                    have h7 : af.tmps[7]?.getD undef = .pointer (some ⟨w.heap.size, 0, none⟩) := g7
                    clear g7
                    go_simp
                    exact hKf _ _ (Below.refl _ _) rfl
                  | 5, _ =>
                    refine StepV.plain _ rfl rfl rfl [(226, some 4)] (by kernel_rfl) (fun af wf hbw hz hf Kf hKf => ?_)
                    obtain ⟨g226, _⟩ := hf
                    have h226 : af.tmps[226]?.getD undef = .pointer (some ⟨w.heap.size, 5, none⟩) := g226
                    clear g226
                    have cB0 := (Blk.kept (Blk.drew (hB5)) hbw (hne)).cell
                    go_simp
                    exact hKf _ _ (Below.refl _ _) rfl
                  | 6, _ =>
                    refine StepV.chain 0 _ rfl rfl rfl (by decide) [(225, some 3), (227, some 5)] (by kernel_rfl) (fun af wf hbw hiv hf Kf hKf => ?_)
                    obtain ⟨uv, hiv, hlast⟩ := hiv
                    obtain ⟨g225, g227, _⟩ := hf
                    have h225 : af.tmps[225]?.getD undef = .slice (some ⟨g, 0, none⟩) (nd - aN) (c18 - aN) := g225
                    have h227 : af.tmps[227]?.getD undef = .slice Ab nb' cb := g227
                    clear g225 g227
                    have hRf := RdN.kept (RdN.drew hRbN) hbw (fun _ h_ => h_)
                    have hcpy := run_copy_bytes (P := Try.prog) (T := 5) (g := g) (cur := cur) hiv hRf.1 Try.underlying32 info8 3 0 (nd - aN) (c18 - aN) cb hmin
                    rw [List.take_of_length_le (by omega)] at hcpy
                    go_simp
                    exact hKf _ _ (Kept.row _ _ _) (Blk.row hiv _) (trivial)
                  | i + 7, h => exact absurd h (by show ¬ (i + 7 < 7); omega)
                · intro af wF hbF hiF hdF hsF hbaseF hfactF
                  obtain ⟨T, dsF⟩ := af
                  obtain rfl : dsF = _ := hdF
                  have hT := frame_back T [222, 223, 224, 225, 226, 227, 228] hbaseF hsF (by kernel_rfl)
                  simp only [List.foldl_cons, List.foldl_nil, List.setIfInBounds_toArray, List.set_cons_zero, List.set_cons_succ] at hT
                  clear hbaseF hfactF hsF
                  generalize T[222]?.getD undef = u222 at hT
                  generalize T[223]?.getD undef = u223 at hT
                  generalize T[224]?.getD undef = u224 at hT
                  generalize T[225]?.getD undef = u225 at hT
                  generalize T[226]?.getD undef = u226 at hT
                  generalize T[227]?.getD undef = u227 at hT
                  generalize T[228]?.getD undef = u228 at hT
                  subst hT
                  obtain ⟨_, hBlkF⟩ := hiF
                  have hFF : Fresh 5 w4.heap.size wF (.slice (some ⟨g, 0, none⟩) nd c18) NL := by
                    rw [HNL.out]
                    (rw [show layL L aN bs' = layL L 0 bs' by rw [HB0.out]; simp [layL]]; exact hF5.laid hXl rfl hBlk 0 bs' (by rw [HB0.out]; simp) hBlkF)
                  have hbF5 : Below w4.heap.size w5 wF := hbF.below hz45 (by simpa using hgB)
                  have hbZ : Below w4.heap.size w4 wF := hb5.trans hbF5
                  have hB6 := hB4.on hbZ
                  have hbW := hbY.trans (hbZ.mono hbY.size)
                  have hRq3 := hRq2.below hbZ
                  have hX6 : RdX 0 5 wF (some ⟨g, 0, none⟩) nd NL := RdX.fresh hFF hNLl
                  have hrl6 := hrl4.below hbZ
                  have hbo6 : bo < wF.heap.size := Nat.lt_of_lt_of_le hbo4 hbZ.size
                  have hc6 := (Below.cell (p := ⟨bo, off + k * 2, none⟩) hbZ hbo4).trans hc04
                  obtain ⟨wK, hwK⟩ : ∃ wK, wK = wF := ⟨_, rfl⟩
                  subst hwK
                  clear hbF hbF5 hbZ hBlkF hBlk hB5 hb5 hFF
                  go_wp2_with fail
                  refine wp_flows [(fun y_ _ => y_ = .slice (some ⟨bo, off, none⟩) N cl), (fun y_ _ => y_ = .pointer (some ⟨w.heap.size, 1, none⟩)), (fun y_ _ => y_ = .int .i64 (k : Int)), (fun y_ _ => y_ = .slice (some ⟨bo, off, none⟩) N cl), (fun y_ _ => y_ = .pointer (some ⟨w.heap.size, 1, none⟩)), (fun y_ _ => y_ = .int .i64 (k : Int)), (fun y_ _ => y_ = .pointer (some ⟨bo, off + k * 2, none⟩)), (fun y_ _ => y_ = .pointer (some ⟨bo, off + k * 2, none⟩)), (fun y_ _ => y_ = .int .u64 S), (fun y_ _ => y_ = .slice (some ⟨g, 0, none⟩) nd c18), (fun y_ _ => y_ = .agg #[.int .u64 S, .slice (some ⟨g, 0, none⟩) nd c18]), IsObs 5 w.heap.size N LL, IsObs 5 w.heap.size N LL] (by kernel_rfl) ⟨Stab.eq _, Stab.eq _, Stab.eq _, Stab.eq _, Stab.eq _, Stab.eq _, Stab.eq _, Stab.eq _, Stab.eq _, Stab.eq _, Stab.eq _, IsObs.stab _ _ _ _, IsObs.stab _ _ _ _, trivial⟩ (by kernel_rfl) (by rfl) ?_ ?_
                  · intro kq hkq
                    match kq, hkq with
                    | 0, _ =>
                      refine StepOk.plain _ 229 rfl rfl rfl [(1, none)] (by kernel_rfl) (fun af wf hbw hf Kf hKf => ?_)
                      obtain ⟨g1, _⟩ := hf
                      have h1 : af.tmps[1]?.getD undef = .slice (some ⟨bo, off, none⟩) N cl := g1
                      clear g1
                      go_simp
                      exact hKf _ _ (Below.refl _ _) rfl
                    | 1, _ =>
                      refine StepOk.plain _ 230 rfl rfl rfl [(7, none)] (by kernel_rfl) (fun af wf hbw hf Kf hKf => ?_)
                      obtain ⟨g7, _⟩ := hf
                      have h7 : af.tmps[7]?.getD undef = .pointer (some ⟨w.heap.size, 0, none⟩) := g7
                      clear g7
                      go_simp
                      exact hKf _ _ (Below.refl _ _) rfl
                    | 2, _ =>
                      refine StepOk.plain _ 231 rfl rfl rfl [(230, some 1)] (by kernel_rfl) (fun af wf hbw hf Kf hKf => ?_)
                      obtain ⟨g230, _⟩ := hf
                      have h230 : af.tmps[230]?.getD undef = .pointer (some ⟨w.heap.size, 1, none⟩) := g230
                      clear g230
                      have cB0 := (Blk.on (Blk.drew (hB6)) hbw).cell
                      go_simp
                      exact hKf _ _ (Below.refl _ _) rfl
                    | 3, _ =>
                      refine StepOk.plain _ 232 rfl rfl rfl [(1, none)] (by kernel_rfl) (fun af wf hbw hf Kf hKf => ?_)
                      obtain ⟨g1, _⟩ := hf
                      have h1 : af.tmps[1]?.getD undef = .slice (some ⟨bo, off, none⟩) N cl := g1
                      clear g1
                      go_simp
                      exact hKf _ _ (Below.refl _ _) rfl
                    | 4, _ =>
                      refine StepOk.plain _ 233 rfl rfl rfl [(7, none)] (by kernel_rfl) (fun af wf hbw hf Kf hKf => ?_)
                      obtain ⟨g7, _⟩ := hf
                      have h7 : af.tmps[7]?.getD undef = .pointer (some ⟨w.heap.size, 0, none⟩) := g7
                      clear g7
                      go_simp
                      exact hKf _ _ (Below.refl _ _) rfl
                    | 5, _ =>
                      refine StepOk.plain _ 234 rfl rfl rfl [(233, some 4)] (by kernel_rfl) (fun af wf hbw hf Kf hKf => ?_)
                      obtain ⟨g233, _⟩ := hf
                      have h233 : af.tmps[233]?.getD undef = .pointer (some ⟨w.heap.size, 1, none⟩) := g233
                      clear g233
                      have cB0 := (Blk.on (Blk.drew (hB6)) hbw).cell
                      go_simp
                      exact hKf _ _ (Below.refl _ _) rfl
                    | 6, _ =>
                      refine StepOk.plain _ 235 rfl rfl rfl [(232, some 3), (234, some 5)] (by kernel_rfl) (fun af wf hbw hf Kf hKf => ?_)
                      obtain ⟨g232, g234, _⟩ := hf
                      have h232 : af.tmps[232]?.getD undef = .slice (some ⟨bo, off, none⟩) N cl := g232
                      have h234 : af.tmps[234]?.getD undef = .int .i64 (k : Int) := g234
                      clear g232 g234
                      go_simp
                      exact hKf _ _ (Below.refl _ _) rfl
                    | 7, _ =>
                      refine StepOk.plain _ 236 rfl rfl rfl [(235, some 6)] (by kernel_rfl) (fun af wf hbw hf Kf hKf => ?_)
                      obtain ⟨g235, _⟩ := hf
                      have h235 : af.tmps[235]?.getD undef = .pointer (some ⟨bo, off + k * 2, none⟩) := g235
                      clear g235
                      go_simp
                      exact hKf _ _ (Below.refl _ _) rfl
                    | 8, _ =>
                      refine StepOk.plain _ 237 rfl rfl rfl [(236, some 7)] (by kernel_rfl) (fun af wf hbw hf Kf hKf => ?_)
                      obtain ⟨g236, _⟩ := hf
                      have h236 : af.tmps[236]?.getD undef = .pointer (some ⟨bo, off + k * 2, none⟩) := g236
                      clear g236
                      have cB0 := (Blk.on (Blk.drew (hB6)) hbw).cell
                      have cB9 := (Below.cell (p := ⟨bo, off + k * 2, none⟩) hbw hbo6).trans hc6
                      go_simp
                      exact hKf _ _ (Below.refl _ _) rfl
                    | 9, _ =>
                      refine StepOk.plain _ 238 rfl rfl rfl [(18, none)] (by kernel_rfl) (fun af wf hbw hf Kf hKf => ?_)
                      obtain ⟨g18, _⟩ := hf
                      have h18 : af.tmps[18]?.getD undef = .slice (some ⟨g, 0, none⟩) nd c18 := g18
                      clear g18
                      go_simp
                      exact hKf _ _ (Below.refl _ _) rfl
                    | 10, _ =>
                      refine StepOk.plain _ 239 rfl rfl rfl [(237, some 8), (238, some 9)] (by kernel_rfl) (fun af wf hbw hf Kf hKf => ?_)
                      obtain ⟨g237, g238, _⟩ := hf
                      have h237 : af.tmps[237]?.getD undef = .int .u64 S := g237
                      have h238 : af.tmps[238]?.getD undef = .slice (some ⟨g, 0, none⟩) nd c18 := g238
                      clear g237 g238
                      go_simp
                      exact hKf _ _ (Below.refl _ _) rfl
                    | 11, _ =>
                      refine StepOk.plain _ 240 rfl rfl rfl [(229, some 0), (231, some 2), (239, some 10)] (by kernel_rfl) (fun af wf hbw hf Kf hKf => ?_)
                      obtain ⟨g229, g231, g239, _⟩ := hf
                      have h229 : af.tmps[229]?.getD undef = .slice (some ⟨bo, off, none⟩) N cl := g229
                      have h231 : af.tmps[231]?.getD undef = .int .i64 (k : Int) := g231
                      have h239 : af.tmps[239]?.getD undef = .agg #[.int .u64 S, .slice (some ⟨g, 0, none⟩) nd c18] := g239
                      clear g229 g231 g239
                      go_simp
                      refine (rwith_any (some ⟨bo, off, none⟩) N cl w.heap.size l k S (some ⟨g, 0, none⟩) nd c18 NL _ (hrl6.drew.below hbw) (Nat.le_trans hbW.size hbw.size) (by omega) hk ((hX6.drew.below hbw).mono (Nat.zero_le _)) hn18 hm18).mono ?_
                      rintro e wN ⟨r, rfl, hF, hb⟩
                      exact hKf _ _ (hb) (IsObs.of (HLL.out ▸ hF) hLl)
                    | 12, _ =>
                      refine StepOk.plain _ 15 rfl rfl rfl [(240, some 11)] (by kernel_rfl) (fun af wf hbw hf Kf hKf => ?_)
                      obtain ⟨g240, _⟩ := hf
                      have g240 : IsObs 5 w.heap.size N LL (af.tmps[240]?.getD undef) wf := g240
                      obtain ⟨A157, c157, h157, hR157⟩ := g240
                      go_simp
                      exact hKf _ _ (Below.refl _ _) (⟨A157, c157, rfl, hR157⟩)
                    | i + 13, h => exact absurd h (by show ¬ (i + 13 < 13); omega)
                  · intro af wF hbF hdF hsF hbaseF hfactF
                    obtain ⟨T, dsF⟩ := af
                    obtain rfl : dsF = _ := hdF
                    have e15 := hfactF 12 15 (by decide) rfl
                    replace e15 : IsObs 5 w.heap.size N LL (T[15]?.getD undef) wF := e15
                    have hT := frame_back T [15, 229, 230, 231, 232, 233, 234, 235, 236, 237, 238, 239, 240] hbaseF hsF (by kernel_rfl)
                    simp only [List.foldl_cons, List.foldl_nil, List.setIfInBounds_toArray, List.set_cons_zero, List.set_cons_succ] at hT
                    clear hbaseF hfactF hsF
                    generalize T[15]?.getD undef = u15 at hT e15
                    generalize T[229]?.getD undef = u229 at hT
                    generalize T[230]?.getD undef = u230 at hT
                    generalize T[231]?.getD undef = u231 at hT
                    generalize T[232]?.getD undef = u232 at hT
                    generalize T[233]?.getD undef = u233 at hT
                    generalize T[234]?.getD undef = u234 at hT
                    generalize T[235]?.getD undef = u235 at hT
                    generalize T[236]?.getD undef = u236 at hT
                    generalize T[237]?.getD undef = u237 at hT
                    generalize T[238]?.getD undef = u238 at hT
                    generalize T[239]?.getD undef = u239 at hT
                    generalize T[240]?.getD undef = u240 at hT
                    subst hT
                    obtain ⟨Am, cm, rfl, hRm⟩ := e15
                    have hbX := hbW.trans (hbF.mono hbW.size)
                    have hR2 := hRq3.below hbF
                    have hcv1 := conv cp _ (hr.below hbX)
                    clear hbF
                    have hOKl := Lib.hid (hPn.small hc)
                    have HPG := Lib.hid hPn.page.symm
                    have hN16 := hc.few
                    go_wp2_with fail
                    refine wp_flows [(fun y_ _ => y_ = .slice A2 256 c2), (fun y_ _ => y_ = .slice Am N cm), (fun y_ _ => y_ = .slice A2 256 c2), (fun y_ _ => y_ = .string (str Q)), (fun y_ _ => y_ = .slice Am N cm), (fun y_ _ => y_ = .int .i64 c), (IsB (256) (Q)), (fun y_ _ => y_ = .string (str (Q))), (fun y_ _ => y_ = .bool true), (fun y_ _ => y_ = .slice A2 256 c2), (fun y_ _ => y_ = .slice Am N cm), (fun y_ _ => y_ = .bool true)] (by kernel_rfl) ⟨Stab.eq _, Stab.eq _, Stab.eq _, Stab.eq _, Stab.eq _, Stab.eq _, Stab.b _ _, Stab.eq _, Stab.eq _, Stab.eq _, Stab.eq _, Stab.eq _, trivial⟩ (by kernel_rfl) (by rfl) ?_ ?_
                    · intro kq hkq
                      match kq, hkq with
                      | 0, _ =>
                        refine StepOk.plain _ 259 rfl rfl rfl [(12, none)] (by kernel_rfl) (fun af wf hbw hf Kf hKf => ?_)
                        obtain ⟨g12, _⟩ := hf
                        have h12 : af.tmps[12]?.getD undef = .slice A2 256 c2 := g12
                        clear g12
                        go_simp
                        exact hKf _ _ (Below.refl _ _) rfl
                      | 1, _ =>
                        refine StepOk.plain _ 260 rfl rfl rfl [(15, none)] (by kernel_rfl) (fun af wf hbw hf Kf hKf => ?_)
                        obtain ⟨g15, _⟩ := hf
                        have h15 : af.tmps[15]?.getD undef = .slice Am N cm := g15
                        clear g15
                        go_simp
                        exact hKf _ _ (Below.refl _ _) rfl
                      | 2, _ =>
                        refine StepOk.plain _ 261 rfl rfl rfl [(12, none)] (by kernel_rfl) (fun af wf hbw hf Kf hKf => ?_)
                        obtain ⟨g12, _⟩ := hf
                        have h12 : af.tmps[12]?.getD undef = .slice A2 256 c2 := g12
                        clear g12
                        go_simp
                        exact hKf _ _ (Below.refl _ _) rfl
                      | 3, _ =>
                        refine StepOk.plain _ 262 rfl rfl rfl [(261, some 2)] (by kernel_rfl) (fun af wf hbw hf Kf hKf => ?_)
                        obtain ⟨g261, _⟩ := hf
                        have h261 : af.tmps[261]?.getD undef = .slice A2 256 c2 := g261
                        clear g261
                        have hcv := conv c2 _ (Rd.below (Rd.drew hR2) hbw)
                        go_simp
                        exact hKf _ _ (Below.refl _ _) rfl
                      | 4, _ =>
                        refine StepOk.plain _ 263 rfl rfl rfl [(15, none)] (by kernel_rfl) (fun af wf hbw hf Kf hKf => ?_)
                        obtain ⟨g15, _⟩ := hf
                        have h15 : af.tmps[15]?.getD undef = .slice Am N cm := g15
                        clear g15
                        go_simp
                        exact hKf _ _ (Below.refl _ _) rfl
                      | 5, _ =>
                        refine StepOk.plain _ 264 rfl rfl rfl [(2, none)] (by kernel_rfl) (fun af wf hbw hf Kf hKf => ?_)
                        obtain ⟨g2, _⟩ := hf
                        have h2 : af.tmps[2]?.getD undef = .int .i64 c := g2
                        clear g2
                        go_simp
                        exact hKf _ _ (Below.refl _ _) rfl
                      | 6, _ =>
                        refine StepOk.plain _ 265 rfl rfl rfl [(263, some 4), (264, some 5)] (by kernel_rfl) (fun af wf hbw hf Kf hKf => ?_)
                        obtain ⟨g263, g264, _⟩ := hf
                        have h263 : af.tmps[263]?.getD undef = .slice Am N cm := g263
                        have h264 : af.tmps[264]?.getD undef = .int .i64 c := g264
                        clear g263 g264
                        go_simp
                        refine (rpage_any hc Am N cm _ _ LL _ (hRm.drew.below hbw) hN16 hOKl.out).mono ?_
                        rintro e wN ⟨r, rfl, hF, hb⟩
                        exact hKf _ _ (hb) (IsB.of (HPG.out ▸ hF) hQl)
                      | 7, _ =>
                        refine StepOk.plain _ 266 rfl rfl rfl [(265, some 6)] (by kernel_rfl) (fun af wf hbw hf Kf hKf => ?_)
                        obtain ⟨g265, _⟩ := hf
                        obtain ⟨A265, c265, h265, hR265, hn265, hm265⟩ : IsB (256) (Q) (af.tmps[265]?.getD undef) wf := g265
                        have hcv := conv c265 _ hR265
                        go_simp
                        exact hKf _ _ (Below.refl _ _) rfl
                      | 8, _ =>
                        refine StepOk.plain _ 267 rfl rfl rfl [(262, some 3), (266, some 7)] (by kernel_rfl) (fun af wf hbw hf Kf hKf => ?_)
                        obtain ⟨g262, g266, _⟩ := hf
                        have h262 : af.tmps[262]?.getD undef = .string (str Q) := g262
                        have h266 : af.tmps[266]?.getD undef = .string (str (Q)) := g266
                        clear g262 g266
                        go_simp
                        exact hKf _ _ (Below.refl _ _) rfl
                      | 9, _ =>
                        refine StepOk.plain _ 8 rfl rfl rfl [(259, some 0)] (by kernel_rfl) (fun af wf hbw hf Kf hKf => ?_)
                        obtain ⟨g259, _⟩ := hf
                        have h259 : af.tmps[259]?.getD undef = .slice A2 256 c2 := g259
                        clear g259
                        go_simp
                        exact hKf _ _ (Below.refl _ _) rfl
                      | 10, _ =>
                        refine StepOk.plain _ 9 rfl rfl rfl [(260, some 1)] (by kernel_rfl) (fun af wf hbw hf Kf hKf => ?_)
                        obtain ⟨g260, _⟩ := hf
                        have h260 : af.tmps[260]?.getD undef = .slice Am N cm := g260
                        clear g260
                        go_simp
                        exact hKf _ _ (Below.refl _ _) rfl
                      | 11, _ =>
                        refine StepOk.plain _ 10 rfl rfl rfl [(267, some 8)] (by kernel_rfl) (fun af wf hbw hf Kf hKf => ?_)
                        obtain ⟨g267, _⟩ := hf
                        have h267 : af.tmps[267]?.getD undef = .bool true := g267
                        clear g267
                        go_simp
                        exact hKf _ _ (Below.refl _ _) rfl
                      | i + 12, h => exact absurd h (by show ¬ (i + 12 < 12); omega)
                    · intro af wF hbF hdF hsF hbaseF hfactF
                      obtain ⟨T, dsF⟩ := af
                      obtain rfl : dsF = _ := hdF
                      have e8 := hfactF 9 8 (by decide) rfl
                      replace e8 : T[8]?.getD undef = .slice A2 256 c2 := e8
                      have e9 := hfactF 10 9 (by decide) rfl
                      replace e9 : T[9]?.getD undef = .slice Am N cm := e9
                      have e10 := hfactF 11 10 (by decide) rfl
                      replace e10 : T[10]?.getD undef = .bool true := e10
                      have hT := frame_back T [8, 9, 10, 259, 260, 261, 262, 263, 264, 265, 266, 267] hbaseF hsF (by kernel_rfl)
                      simp only [List.foldl_cons, List.foldl_nil, List.setIfInBounds_toArray, List.set_cons_zero, List.set_cons_succ] at hT
                      clear hbaseF hfactF hsF
                      rw [e8] at hT; clear e8
                      rw [e9] at hT; clear e9
                      rw [e10] at hT; clear e10
                      generalize T[259]?.getD undef = u259 at hT
                      generalize T[260]?.getD undef = u260 at hT
                      generalize T[261]?.getD undef = u261 at hT
                      generalize T[262]?.getD undef = u262 at hT
                      generalize T[263]?.getD undef = u263 at hT
                      generalize T[264]?.getD undef = u264 at hT
                      generalize T[265]?.getD undef = u265 at hT
                      generalize T[266]?.getD undef = u266 at hT
                      generalize T[267]?.getD undef = u267 at hT
                      subst hT
                      go_wp2_with fail
                      go_ret3
                      exact ⟨A2, c2, Q, Am, cm, LL, rfl, hR2.below hbF, hn2, by assumption, (hRm.below hbF).mono (by have := hbF.size; have := hbX.size; omega), hPn, hbX.trans (hbF.mono hbX.size)⟩
              · have HC := Lib.hid (show (c18 = aN) = False by simp [hca])
                clear hca
                have hmin : aN + min nb' (nd - aN) ≤ cur.size := by omega
                have hRbN : RdN w5 [g] Ab nb' bs' := ⟨hbR5, fun ad hn hA hx => by
                  simp at hx
                  obtain ⟨bq, oq, hq1, hq2, _⟩ := hbR4.2 hn
                  rw [hA] at hq1
                  injection hq1 with hq1
                  rw [hq1] at hx
                  simp only at hx
                  omega⟩
                have hne : w.heap.size ∉ [g] := by simp; omega
                go_wp2_with fail
                refine wp_flv [(fun y_ _ => y_ = .slice (some ⟨g, 0, none⟩) nd c18), (fun y_ _ => y_ = .pointer (some ⟨w.heap.size, 3, none⟩)), (fun y_ _ => y_ = .int .i64 (aN : Int)), (fun y_ _ => y_ = .slice (some ⟨g, aN, none⟩) (nd - aN) (c18 - aN)), (fun y_ _ => y_ = .pointer (some ⟨w.heap.size, 5, none⟩)), (fun y_ _ => y_ = .slice Ab nb' cb), (fun _ _ => True)] [g] (RowInv 5 g cur (lay cur aN bs')) [6] (by kernel_rfl) ⟨StabW.eq _ _, StabW.eq _ _, StabW.eq _ _, StabW.eq _ _, StabW.eq _ _, StabW.eq _ _, StabW.any _, trivial⟩ (RowInv.stab) (hBlk) (by kernel_rfl) (by kernel_rfl) (by kernel_rfl) (by rfl) ?_ ?_
                · intro kq hkq
                  match kq, hkq with
                  | 0, _ =>
                    refine StepV.plain _ rfl rfl rfl [(18, none)] (by kernel_rfl) (fun af wf hbw hz hf Kf hKf => ?_)
                    obtain ⟨g18, _⟩ := hf
                    have h18 : af.tmps[18]?.getD undef = .slice (some ⟨g, 0, none⟩) nd c18 := g18
                    clear g18
                    go_simp
                    exact hKf _ _ (Below.refl _ _) rfl
                  | 1, _ =>
                    refine StepV.plain _ rfl rfl rfl [(7, none)] (by kernel_rfl) (fun af wf hbw hz hf Kf hKf => ?_)
                    obtain ⟨g7, _⟩ := hf
                    have h7 : af.tmps[7]?.getD undef = .pointer (some ⟨w.heap.size, 0, none⟩) := g7
                    clear g7
                    go_simp
                    exact hKf _ _ (Below.refl _ _) rfl
                  | 2, _ =>
                    refine StepV.plain _ rfl rfl rfl [(223, some 1)] (by kernel_rfl) (fun af wf hbw hz hf Kf hKf => ?_)
                    obtain ⟨g223, _⟩ := hf
                    have h223 : af.tmps[223]?.getD undef = .pointer (some ⟨w.heap.size, 3, none⟩) := g223
                    clear g223
                    have cB0 := (Blk.kept (Blk.drew (hB5)) hbw (hne)).cell
                    go_simp
                    exact hKf _ _ (Below.refl _ _) rfl
                  | 3, _ =>
                    refine StepV.plain _ rfl rfl rfl [(222, some 0), (224, some 2)] (by kernel_rfl) (fun af wf hbw hz hf Kf hKf => ?_)
                    obtain ⟨g222, g224, _⟩ := hf
                    have h222 : af.tmps[222]?.getD undef = .slice (some ⟨g, 0, none⟩) nd c18 := g222
                    have h224 : af.tmps[224]?.getD undef = .int .i64 (aN : Int) := g224
                    clear g222 g224
                    have hcond := HC.out
                    have hle3 : aN ≤ nd := by omega
                    go_simp
                    exact hKf _ _ (Below.refl _ _) rfl
                  | 4, _ =>
                    refine StepV.plain _ rfl rfl rfl [(7, none)] (by kernel_rfl) (fun af wf hbw hz hf Kf hKf => ?_)
                    obtain ⟨g7, _⟩ := hf
                    have h7 : af.tmps[7]?.getD undef = .pointer (some ⟨w.heap.size, 0, none⟩) := g7
                    clear g7
                    go_simp
                    exact hKf _ _ (Below.refl _ _) rfl
                  | 5, _ =>
                    refine StepV.plain _ rfl rfl rfl [(226, some 4)] (by kernel_rfl) (fun af wf hbw hz hf Kf hKf => ?_)
                    obtain ⟨g226, _⟩ := hf
                    have h226 : af.tmps[226]?.getD undef = .pointer (some ⟨w.heap.size, 5, none⟩) := g226
                    clear g226
                    have cB0 := (Blk.kept (Blk.drew (hB5)) hbw (hne)).cell
                    go_simp
                    exact hKf _ _ (Below.refl _ _) rfl
                  | 6, _ =>
                    refine StepV.chain 0 _ rfl rfl rfl (by decide) [(225, some 3), (227, some 5)] (by kernel_rfl) (fun af wf hbw hiv hf Kf hKf => ?_)
                    obtain ⟨uv, hiv, hlast⟩ := hiv
                    obtain ⟨g225, g227, _⟩ := hf
                    have h225 : af.tmps[225]?.getD undef = .slice (some ⟨g, aN, none⟩) (nd - aN) (c18 - aN) := g225
                    have h227 : af.tmps[227]?.getD undef = .slice Ab nb' cb := g227
                    clear g225 g227
                    have hRf := RdN.kept (RdN.drew hRbN) hbw (fun _ h_ => h_)
                    have hcpy := run_copy_bytes (P := Try.prog) (T := 5) (g := g) (cur := cur) hiv hRf.1 Try.underlying32 info8 3 aN (nd - aN) (c18 - aN) cb hmin
                    rw [List.take_of_length_le (by omega)] at hcpy
                    go_simp
                    exact hKf _ _ (Kept.row _ _ _) (Blk.row hiv _) (trivial)
                  | i + 7, h => exact absurd h (by show ¬ (i + 7 < 7); omega)
                · intro af wF hbF hiF hdF hsF hbaseF hfactF
                  obtain ⟨T, dsF⟩ := af
                  obtain rfl : dsF = _ := hdF
                  have hT := frame_back T [222, 223, 224, 225, 226, 227, 228] hbaseF hsF (by kernel_rfl)
                  simp only [List.foldl_cons, List.foldl_nil, List.setIfInBounds_toArray, List.set_cons_zero, List.set_cons_succ] at hT
                  clear hbaseF hfactF hsF
                  generalize T[222]?.getD undef = u222 at hT
                  generalize T[223]?.getD undef = u223 at hT
                  generalize T[224]?.getD undef = u224 at hT
                  generalize T[225]?.getD undef = u225 at hT
                  generalize T[226]?.getD undef = u226 at hT
                  generalize T[227]?.getD undef = u227 at hT
                  generalize T[228]?.getD undef = u228 at hT
                  subst hT
                  obtain ⟨_, hBlkF⟩ := hiF
                  have hFF : Fresh 5 w4.heap.size wF (.slice (some ⟨g, 0, none⟩) nd c18) NL := by
                    rw [HNL.out]
                    exact hF5.laid hXl rfl hBlk aN bs' (by omega) hBlkF
                  have hbF5 : Below w4.heap.size w5 wF := hbF.below hz45 (by simpa using hgB)
                  have hbZ : Below w4.heap.size w4 wF := hb5.trans hbF5
                  have hB6 := hB4.on hbZ
                  have hbW := hbY.trans (hbZ.mono hbY.size)
                  have hRq3 := hRq2.below hbZ
                  have hX6 : RdX 0 5 wF (some ⟨g, 0, none⟩) nd NL := RdX.fresh hFF hNLl
                  have hrl6 := hrl4.below hbZ
                  have hbo6 : bo < wF.heap.size := Nat.lt_of_lt_of_le hbo4 hbZ.size
                  have hc6 := (Below.cell (p := ⟨bo, off + k * 2, none⟩) hbZ hbo4).trans hc04
                  obtain ⟨wK, hwK⟩ : ∃ wK, wK = wF := ⟨_, rfl⟩
                  subst hwK
                  clear hbF hbF5 hbZ hBlkF hBlk hB5 hb5 hFF
                  go_wp2_with fail
                  refine wp_flows [(fun y_ _ => y_ = .slice (some ⟨bo, off, none⟩) N cl), (fun y_ _ => y_ = .pointer (some ⟨w.heap.size, 1, none⟩)), (fun y_ _ => y_ = .int .i64 (k : Int)), (fun y_ _ => y_ = .slice (some ⟨bo, off, none⟩) N cl), (fun y_ _ => y_ = .pointer (some ⟨w.heap.size, 1, none⟩)), (fun y_ _ => y_ = .int .i64 (k : Int)), (fun y_ _ => y_ = .pointer (some ⟨bo, off + k * 2, none⟩)), (fun y_ _ => y_ = .pointer (some ⟨bo, off + k * 2, none⟩)), (fun y_ _ => y_ = .int .u64 S), (fun y_ _ => y_ = .slice (some ⟨g, 0, none⟩) nd c18), (fun y_ _ => y_ = .agg #[.int .u64 S, .slice (some ⟨g, 0, none⟩) nd c18]), IsObs 5 w.heap.size N LL, IsObs 5 w.heap.size N LL] (by kernel_rfl) ⟨Stab.eq _, Stab.eq _, Stab.eq _, Stab.eq _, Stab.eq _, Stab.eq _, Stab.eq _, Stab.eq _, Stab.eq _, Stab.eq _, Stab.eq _, IsObs.stab _ _ _ _, IsObs.stab _ _ _ _, trivial⟩ (by kernel_rfl) (by rfl) ?_ ?_
                  · intro kq hkq
                    match kq, hkq with
                    | 0, _ =>
                      refine StepOk.plain _ 229 rfl rfl rfl [(1, none)] (by kernel_rfl) (fun af wf hbw hf Kf hKf => ?_)
                      obtain ⟨g1, _⟩ := hf
                      have h1 : af.tmps[1]?.getD undef = .slice (some ⟨bo, off, none⟩) N cl := g1
                      clear g1
                      go_simp
                      exact hKf _ _ (Below.refl _ _) rfl
                    | 1, _ =>
                      refine StepOk.plain _ 230 rfl rfl rfl [(7, none)] (by kernel_rfl) (fun af wf hbw hf Kf hKf => ?_)
                      obtain ⟨g7, _⟩ := hf
                      have h7 : af.tmps[7]?.getD undef = .pointer (some ⟨w.heap.size, 0, none⟩) := g7
                      clear g7
                      go_simp
                      exact hKf _ _ (Below.refl _ _) rfl
                    | 2, _ =>
                      refine StepOk.plain _ 231 rfl rfl rfl [(230, some 1)] (by kernel_rfl) (fun af wf hbw hf Kf hKf => ?_)
                      obtain ⟨g230, _⟩ := hf
                      have h230 : af.tmps[230]?.getD undef = .pointer (some ⟨w.heap.size, 1, none⟩) := g230
                      clear g230
                      have cB0 := (Blk.on (Blk.drew (hB6)) hbw).cell
                      go_simp
                      exact hKf _ _ (Below.refl _ _) rfl
                    | 3, _ =>
                      refine StepOk.plain _ 232 rfl rfl rfl [(1, none)] (by kernel_rfl) (fun af wf hbw hf Kf hKf => ?_)
                      obtain ⟨g1, _⟩ := hf
                      have h1 : af.tmps[1]?.getD undef = .slice (some ⟨bo, off, none⟩) N cl := g1
                      clear g1
                      go_simp
                      exact hKf _ _ (Below.refl _ _) rfl
                    | 4, _ =>
                      refine StepOk.plain _ 233 rfl rfl rfl [(7, none)] (by kernel_rfl) (fun af wf hbw hf Kf hKf => ?_)
                      obtain ⟨g7, _⟩ := hf
                      have h7 : af.tmps[7]?.getD undef = .pointer (some ⟨w.heap.size, 0, none⟩) := g7
                      clear g7
                      go_simp
                      exact hKf _ _ (Below.refl _ _) rfl
                    | 5, _ =>
                      refine StepOk.plain _ 234 rfl rfl rfl [(233, some 4)] (by kernel_rfl) (fun af wf hbw hf Kf hKf => ?_)
                      obtain ⟨g233, _⟩ := hf
                      have h233 : af.tmps[233]?.getD undef = .pointer (some ⟨w.heap.size, 1, none⟩) := g233
                      clear g233
                      have cB0 := (Blk.on (Blk.drew (hB6)) hbw).cell
                      go_simp
                      exact hKf _ _ (Below.refl _ _) rfl
                    | 6, _ =>
                      refine StepOk.plain _ 235 rfl rfl rfl [(232, some 3), (234, some 5)] (by kernel_rfl) (fun af wf hbw hf Kf hKf => ?_)
                      obtain ⟨g232, g234, _⟩ := hf
                      have h232 : af.tmps[232]?.getD undef = .slice (some ⟨bo, off, none⟩) N cl := g232
                      have h234 : af.tmps[234]?.getD undef = .int .i64 (k : Int) := g234
                      clear g232 g234
                      go_simp
                      exact hKf _ _ (Below.refl _ _) rfl
                    | 7, _ =>
                      refine StepOk.plain _ 236 rfl rfl rfl [(235, some 6)] (by kernel_rfl) (fun af wf hbw hf Kf hKf => ?_)
                      obtain ⟨g235, _⟩ := hf
                      have h235 : af.tmps[235]?.getD undef = .pointer (some ⟨bo, off + k * 2, none⟩) := g235
                      clear g235
                      go_simp
                      exact hKf _ _ (Below.refl _ _) rfl
                    | 8, _ =>
                      refine StepOk.plain _ 237 rfl rfl rfl [(236, some 7)] (by kernel_rfl) (fun af wf hbw hf Kf hKf => ?_)
                      obtain ⟨g236, _⟩ := hf
                      have h236 : af.tmps[236]?.getD undef = .pointer (some ⟨bo, off + k * 2, none⟩) := g236
                      clear g236
                      have cB0 := (Blk.on (Blk.drew (hB6)) hbw).cell
                      have cB9 := (Below.cell (p := ⟨bo, off + k * 2, none⟩) hbw hbo6).trans hc6
                      go_simp
                      exact hKf _ _ (Below.refl _ _) rfl
                    | 9, _ =>
                      refine StepOk.plain _ 238 rfl rfl rfl [(18, none)] (by kernel_rfl) (fun af wf hbw hf Kf hKf => ?_)
                      obtain ⟨g18, _⟩ := hf
                      have h18 : af.tmps[18]?.getD undef = .slice (some ⟨g, 0, none⟩) nd c18 := g18
                      clear g18
                      go_simp
                      exact hKf _ _ (Below.refl _ _) rfl
                    | 10, _ =>
                      refine StepOk.plain _ 239 rfl rfl rfl [(237, some 8), (238, some 9)] (by kernel_rfl) (fun af wf hbw hf Kf hKf => ?_)
                      obtain ⟨g237, g238, _⟩ := hf
                      have h237 : af.tmps[237]?.getD undef = .int .u64 S := g237
                      have h238 : af.tmps[238]?.getD undef = .slice (some ⟨g, 0, none⟩) nd c18 := g238
                      clear g237 g238
                      go_simp
                      exact hKf _ _ (Below.refl _ _) rfl
                    | 11, _ =>
                      refine StepOk.plain _ 240 rfl rfl rfl [(229, some 0), (231, some 2), (239, some 10)] (by kernel_rfl) (fun af wf hbw hf Kf hKf => ?_)
                      obtain ⟨g229, g231, g239, _⟩ := hf
                      have h229 : af.tmps[229]?.getD undef = .slice (some ⟨bo, off, none⟩) N cl := g229
                      have h231 : af.tmps[231]?.getD undef = .int .i64 (k : Int) := g231
                      have h239 : af.tmps[239]?.getD undef = .agg #[.int .u64 S, .slice (some ⟨g, 0, none⟩) nd c18] := g239
                      clear g229 g231 g239
                      go_simp
                      refine (rwith_any (some ⟨bo, off, none⟩) N cl w.heap.size l k S (some ⟨g, 0, none⟩) nd c18 NL _ (hrl6.drew.below hbw) (Nat.le_trans hbW.size hbw.size) (by omega) hk ((hX6.drew.below hbw).mono (Nat.zero_le _)) hn18 hm18).mono ?_
                      rintro e wN ⟨r, rfl, hF, hb⟩
                      exact hKf _ _ (hb) (IsObs.of (HLL.out ▸ hF) hLl)
                    | 12, _ =>
                      refine StepOk.plain _ 15 rfl rfl rfl [(240, some 11)] (by kernel_rfl) (fun af wf hbw hf Kf hKf => ?_)
                      obtain ⟨g240, _⟩ := hf
                      have g240 : IsObs 5 w.heap.size N LL (af.tmps[240]?.getD undef) wf := g240
                      obtain ⟨A157, c157, h157, hR157⟩ := g240
                      go_simp
                      exact hKf _ _ (Below.refl _ _) (⟨A157, c157, rfl, hR157⟩)
                    | i + 13, h => exact absurd h (by show ¬ (i + 13 < 13); omega)
                  · intro af wF hbF hdF hsF hbaseF hfactF
                    obtain ⟨T, dsF⟩ := af
                    obtain rfl : dsF = _ := hdF
                    have e15 := hfactF 12 15 (by decide) rfl
                    replace e15 : IsObs 5 w.heap.size N LL (T[15]?.getD undef) wF := e15
                    have hT := frame_back T [15, 229, 230, 231, 232, 233, 234, 235, 236, 237, 238, 239, 240] hbaseF hsF (by kernel_rfl)
                    simp only [List.foldl_cons, List.foldl_nil, List.setIfInBounds_toArray, List.set_cons_zero, List.set_cons_succ] at hT
                    clear hbaseF hfactF hsF
                    generalize T[15]?.getD undef = u15 at hT e15
                    generalize T[229]?.getD undef = u229 at hT
                    generalize T[230]?.getD undef = u230 at hT
                    generalize T[231]?.getD undef = u231 at hT
                    generalize T[232]?.getD undef = u232 at hT
                    generalize T[233]?.getD undef = u233 at hT
                    generalize T[234]?.getD undef = u234 at hT
                    generalize T[235]?.getD undef = u235 at hT
                    generalize T[236]?.getD undef = u236 at hT
                    generalize T[237]?.getD undef = u237 at hT
                    generalize T[238]?.getD undef = u238 at hT
                    generalize T[239]?.getD undef = u239 at hT
                    generalize T[240]?.getD undef = u240 at hT
                    subst hT
                    obtain ⟨Am, cm, rfl, hRm⟩ := e15
                    have hbX := hbW.trans (hbF.mono hbW.size)
                    have hR2 := hRq3.below hbF
                    have hcv1 := conv cp _ (hr.below hbX)
                    clear hbF
                    have hOKl := Lib.hid (hPn.small hc)
                    have HPG := Lib.hid hPn.page.symm
                    have hN16 := hc.few
                    go_wp2_with fail
                    refine wp_flows [(fun y_ _ => y_ = .slice A2 256 c2), (fun y_ _ => y_ = .slice Am N cm), (fun y_ _ => y_ = .slice A2 256 c2), (fun y_ _ => y_ = .string (str Q)), (fun y_ _ => y_ = .slice Am N cm), (fun y_ _ => y_ = .int .i64 c), (IsB (256) (Q)), (fun y_ _ => y_ = .string (str (Q))), (fun y_ _ => y_ = .bool true), (fun y_ _ => y_ = .slice A2 256 c2), (fun y_ _ => y_ = .slice Am N cm), (fun y_ _ => y_ = .bool true)] (by kernel_rfl) ⟨Stab.eq _, Stab.eq _, Stab.eq _, Stab.eq _, Stab.eq _, Stab.eq _, Stab.b _ _, Stab.eq _, Stab.eq _, Stab.eq _, Stab.eq _, Stab.eq _, trivial⟩ (by kernel_rfl) (by rfl) ?_ ?_
                    · intro kq hkq
                      match kq, hkq with
                      | 0, _ =>
                        refine StepOk.plain _ 259 rfl rfl rfl [(12, none)] (by kernel_rfl) (fun af wf hbw hf Kf hKf => ?_)
                        obtain ⟨g12, _⟩ := hf
                        have h12 : af.tmps[12]?.getD undef = .slice A2 256 c2 := g12
                        clear g12
                        go_simp
                        exact hKf _ _ (Below.refl _ _) rfl
                      | 1, _ =>
                        refine StepOk.plain _ 260 rfl rfl rfl [(15, none)] (by kernel_rfl) (fun af wf hbw hf Kf hKf => ?_)
                        obtain ⟨g15, _⟩ := hf
                        have h15 : af.tmps[15]?.getD undef = .slice Am N cm := g15
                        clear g15
                        go_simp
                        exact hKf _ _ (Below.refl _ _) rfl
                      | 2, _ =>
                        refine StepOk.plain _ 261 rfl rfl rfl [(12, none)] (by kernel_rfl) (fun af wf hbw hf Kf hKf => ?_)
                        obtain ⟨g12, _⟩ := hf
                        have h12 : af.tmps[12]?.getD undef = .slice A2 256 c2 := g12
                        clear g12
                        go_simp
                        exact hKf _ _ (Below.refl _ _) rfl
                      | 3, _ =>
                        refine StepOk.plain _ 262 rfl rfl rfl [(261, some 2)] (by kernel_rfl) (fun af wf hbw hf Kf hKf => ?_)
                        obtain ⟨g261, _⟩ := hf
                        have h261 : af.tmps[261]?.getD undef = .slice A2 256 c2 := g261
                        clear g261
                        have hcv := conv c2 _ (Rd.below (Rd.drew hR2) hbw)
                        go_simp
                        exact hKf _ _ (Below.refl _ _) rfl
                      | 4, _ =>
                        refine StepOk.plain _ 263 rfl rfl rfl [(15, none)] (by kernel_rfl) (fun af wf hbw hf Kf hKf => ?_)
                        obtain ⟨g15, _⟩ := hf
                        have h15 : af.tmps[15]?.getD undef = .slice Am N cm := g15
                        clear g15
                        go_simp
                        exact hKf _ _ (Below.refl _ _) rfl
                      | 5, _ =>
                        refine StepOk.plain _ 264 rfl rfl rfl [(2, none)] (by kernel_rfl) (fun af wf hbw hf Kf hKf => ?_)
                        obtain ⟨g2, _⟩ := hf
                        have h2 : af.tmps[2]?.getD undef = .int .i64 c := g2
                        clear g2
                        go_simp
                        exact hKf _ _ (Below.refl _ _) rfl
                      | 6, _ =>
                        refine StepOk.plain _ 265 rfl rfl rfl [(263, some 4), (264, some 5)] (by kernel_rfl) (fun af wf hbw hf Kf hKf => ?_)
                        obtain ⟨g263, g264, _⟩ := hf
                        have h263 : af.tmps[263]?.getD undef = .slice Am N cm := g263
                        have h264 : af.tmps[264]?.getD undef = .int .i64 c := g264
                        clear g263 g264
                        go_simp
                        refine (rpage_any hc Am N cm _ _ LL _ (hRm.drew.below hbw) hN16 hOKl.out).mono ?_
                        rintro e wN ⟨r, rfl, hF, hb⟩
                        exact hKf _ _ (hb) (IsB.of (HPG.out ▸ hF) hQl)
                      | 7, _ =>
                        refine StepOk.plain _ 266 rfl rfl rfl [(265, some 6)] (by kernel_rfl) (fun af wf hbw hf Kf hKf => ?_)
                        obtain ⟨g265, _⟩ := hf
                        obtain ⟨A265, c265, h265, hR265, hn265, hm265⟩ : IsB (256) (Q) (af.tmps[265]?.getD undef) wf := g265
                        have hcv := conv c265 _ hR265
                        go_simp
                        exact hKf _ _ (Below.refl _ _) rfl
                      | 8, _ =>
                        refine StepOk.plain _ 267 rfl rfl rfl [(262, some 3), (266, some 7)] (by kernel_rfl) (fun af wf hbw hf Kf hKf => ?_)
                        obtain ⟨g262, g266, _⟩ := hf
                        have h262 : af.tmps[262]?.getD undef = .string (str Q) := g262
                        have h266 : af.tmps[266]?.getD undef = .string (str (Q)) := g266
                        clear g262 g266
                        go_simp
                        exact hKf _ _ (Below.refl _ _) rfl
                      | 9, _ =>
                        refine StepOk.plain _ 8 rfl rfl rfl [(259, some 0)] (by kernel_rfl) (fun af wf hbw hf Kf hKf => ?_)
                        obtain ⟨g259, _⟩ := hf
                        have h259 : af.tmps[259]?.getD undef = .slice A2 256 c2 := g259
                        clear g259
                        go_simp
                        exact hKf _ _ (Below.refl _ _) rfl
                      | 10, _ =>
                        refine StepOk.plain _ 9 rfl rfl rfl [(260, some 1)] (by kernel_rfl) (fun af wf hbw hf Kf hKf => ?_)
                        obtain ⟨g260, _⟩ := hf
                        have h260 : af.tmps[260]?.getD undef = .slice Am N cm := g260
                        clear g260
                        go_simp
                        exact hKf _ _ (Below.refl _ _) rfl
                      | 11, _ =>
                        refine StepOk.plain _ 10 rfl rfl rfl [(267, some 8)] (by kernel_rfl) (fun af wf hbw hf Kf hKf => ?_)
                        obtain ⟨g267, _⟩ := hf
                        have h267 : af.tmps[267]?.getD undef = .bool true := g267
                        clear g267
                        go_simp
                        exact hKf _ _ (Below.refl _ _) rfl
                      | i + 12, h => exact absurd h (by show ¬ (i + 12 < 12); omega)
                    · intro af wF hbF hdF hsF hbaseF hfactF
                      obtain ⟨T, dsF⟩ := af
                      obtain rfl : dsF = _ := hdF
                      have e8 := hfactF 9 8 (by decide) rfl
                      replace e8 : T[8]?.getD undef = .slice A2 256 c2 := e8
                      have e9 := hfactF 10 9 (by decide) rfl
                      replace e9 : T[9]?.getD undef = .slice Am N cm := e9
                      have e10 := hfactF 11 10 (by decide) rfl
                      replace e10 : T[10]?.getD undef = .bool true := e10
                      have hT := frame_back T [8, 9, 10, 259, 260, 261, 262, 263, 264, 265, 266, 267] hbaseF hsF (by kernel_rfl)
                      simp only [List.foldl_cons, List.foldl_nil, List.setIfInBounds_toArray, List.set_cons_zero, List.set_cons_succ] at hT
                      clear hbaseF hfactF hsF
                      rw [e8] at hT; clear e8
                      rw [e9] at hT; clear e9
                      rw [e10] at hT; clear e10
                      generalize T[259]?.getD undef = u259 at hT
                      generalize T[260]?.getD undef = u260 at hT
                      generalize T[261]?.getD undef = u261 at hT
                      generalize T[262]?.getD undef = u262 at hT
                      generalize T[263]?.getD undef = u263 at hT
                      generalize T[264]?.getD undef = u264 at hT
                      generalize T[265]?.getD undef = u265 at hT
                      generalize T[266]?.getD undef = u266 at hT
                      generalize T[267]?.getD undef = u267 at hT
                      subst hT
                      go_wp2_with fail
                      go_ret3
                      exact ⟨A2, c2, Q, Am, cm, LL, rfl, hR2.below hbF, hn2, by assumption, (hRm.below hbF).mono (by have := hbF.size; have := hbX.size; omega), hPn, hbX.trans (hbF.mono hbX.size)⟩
end Go.Proofs.Ytnocjjaebemkoaa
