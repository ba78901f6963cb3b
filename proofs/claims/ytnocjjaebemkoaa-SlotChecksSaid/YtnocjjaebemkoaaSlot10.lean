/- Slots: the laws' helpers: a step that frees. -/
import Derived.Test.YtnocjjaebemkoaaSlot9
namespace Go.Proofs.Ytnocjjaebemkoaa
open Go.RowKit

/-- What a step gives: a page of objects, and true. -/
def Stepped (T8 : TypeId) (z N : Nat) (w : World) (e : Ending) (w' : World) : Prop :=
  ∃ A' cp' p' Al' cl' l', e = .returned (.tuple #[.slice A' 256 cp', .slice Al' N cl', .bool true]) ∧ Rd w' A' 256 p' ∧ 256 ≤ cp' ∧ cp' ≤ maxLen ∧ RdR obK w'.heap.size T8 w' Al' N l' ∧ PageOf z N p' l' ∧ Below w.heap.size w w'
/-- No object there; one there. -/
theorem PageOf.object_no {c : Int} {z N : Nat} {p : List UInt8} {l : List Ob} (hP : PageOf z N p l) (hc : ClassOK c z N) {A : Option Addr} {cp : Nat} {K : Int} {w : World} (hr : Rd w A 256 p) (hn : 256 ≤ cp) (hcp : cp ≤ maxLen) (hth : thereL l K = false) :
    Calls Try.prog 43 #[.slice A 256 cp, .int .i64 c, .int .i64 K] w (NoObj 6 w) := by
  have hm := (hP.may hc).1
  have hll := hP.len
  by_cases h : 0 ≤ K ∧ K < N
  · obtain ⟨k, rfl⟩ : ∃ k : Nat, K = k := ⟨K.toNat, by omega⟩
    have hk : k < N := by omega
    obtain ⟨o, ho⟩ : ∃ o, l[k]? = some o := ⟨_, List.getElem?_eq_getElem (by omega)⟩
    obtain ⟨t1, t2, t3, _, _⟩ := hP.tells hc ho
    rw [thereL_at ho] at hth
    have h0 : ¬ 0 < o.1 := of_decide_eq_false hth
    refine object_free hc A cp p k w hr hn hcp hm hk ?_
    rw [t2]
    apply decide_eq_true
    rcases t3 with h | h
    · exact h.1
    · omega
  · exact object_out A 256 cp p c K w hr hn hcp hm (by rw [hc.slots]; omega)
theorem PageOf.there {c : Int} {z N : Nat} {p : List UInt8} {l : List Ob} (hP : PageOf z N p l) (hc : ClassOK c z N) {K : Int} (hth : thereL l K = true) : ∃ k : Nat, K = k ∧ k < N ∧ ∃ o, l[k]? = some o ∧ 1 ≤ o.1 ∧ freeW (win z p k) = false := by
  have hll := hP.len
  by_cases h : 0 ≤ K ∧ K < N
  · obtain ⟨k, rfl⟩ : ∃ k : Nat, K = k := ⟨K.toNat, by omega⟩
    have hk : k < N := by omega
    obtain ⟨o, ho⟩ : ∃ o, l[k]? = some o := ⟨_, List.getElem?_eq_getElem (by omega)⟩
    obtain ⟨t1, t2, t3, _, _⟩ := hP.tells hc ho
    rw [thereL_at ho] at hth
    have h0 : 0 < o.1 := of_decide_eq_true hth
    exact ⟨k, rfl, hk, o, ho, by omega, by rw [t2]; exact decide_eq_false (by omega)⟩
  · rw [thereL_out (by omega)] at hth
    cases hth
/-- The end of a step that changes nothing. -/
theorem Stepped.same {T8 : TypeId} {z N : Nat} {w w' : World} {A : Option Addr} {cp : Nat} {p : List UInt8} {Al : Option Addr} {cl : Nat} {l : List Ob} (hr : Rd w A 256 p) (hn : 256 ≤ cp) (hcp : cp ≤ maxLen) (hrl : RdR obK w.heap.size T8 w Al N l) (hP : PageOf z N p l) (hb : Below w.heap.size w w') :
    Stepped T8 z N w (.returned (.tuple #[.slice A 256 cp, .slice Al N cl, .bool true])) w' :=
  ⟨A, cp, p, Al, cl, l, rfl, hr.below hb, hn, hcp, (hrl.below hb).mono hb.size, hP, hb⟩
theorem PageOf.small {c : Int} {z N : Nat} {p : List UInt8} {l : List Ob} (hP : PageOf z N p l) (hc : ClassOK c z N) : ∀ o ∈ l, o.1 ≤ 18446744073709551615 ∧ o.2.length ≤ 1000 := by
  intro o ho
  have := hc.z128
  rcases hP.ok o ho with ⟨h1, h2⟩ | h
  · rw [h1, h2]; simp
  · omega
set_option maxRecDepth 100000 in
set_option maxHeartbeats 4000000 in
theorem step_free {c : Int} {z N : Nat} (hc : ClassOK c z N) (A : Option Addr) (cp : Nat) (p : List UInt8) (Al : Option Addr) (cl : Nat) (l : List Ob) (w : World) (hr : Rd w A 256 p) (hn : 256 ≤ cp) (hcp : cp ≤ maxLen) (hrl : RdR obK w.heap.size 5 w Al N l) (hP : PageOf z N p l)
    (K m a1 s : Int) (Ab : Option Addr) (nb cb : Nat) (bs : List UInt8) (hb : Rd w Ab nb bs) (hnb : nb ≤ cb) :
    Calls Try.prog 22 #[.slice A 256 cp, .slice Al N cl, .int .i64 c, .agg #[.int .i64 3, .int .i64 K, .int .i64 m, .int .i64 a1, .int .u64 s, .slice Ab nb cb]] w (Stepped 5 z N w) := by
  go_enter Try.func22, Try.ntmps22
  go_upto_if 22 with fail
  go_cut [7] (fun a wx => a = .pointer (some ⟨w.heap.size, 0, none⟩) ∧ (∃ nb' bs', Blk wx w.heap.size 34 #[.int .i64 3, .int .i64 K, .int .i64 m, .int .i64 a1, .int .u64 s, .slice Ab nb' cb] ∧ Rd wx Ab nb' bs' ∧ nb' ≤ 130 ∧ nb' ≤ cb) ∧ Below w.heap.size w wx)
  case first =>
    have B0 := Blk.new w 34 #[.int .i64 3, .int .i64 K, .int .i64 m, .int .i64 a1, .int .u64 s, .slice Ab nb cb]
    have c0 := B0.cell
    have f0 := B0.frozen
    by_cases h130 : 130 < nb
    · go_wp2_with fail
      go_meet
      exact ⟨rfl, ⟨130, bs.take 130, Blk.new _ _ _, (hb.head 130 (by omega)).alloc _, by omega, by omega⟩, (by (repeat (first | exact Below.refl _ _ | (refine Below.setCell ?_ (by first | omega | (simp; omega) | simp) _) | (refine Below.alloc ?_ (by first | omega | (simp; omega) | simp) _) | apply Below.drew | apply below_drewN)))⟩
    · go_wp2_with fail
      go_meet
      exact ⟨rfl, ⟨nb, bs, B0, hb.alloc _, by omega, hnb⟩, (by (repeat (first | exact Below.refl _ _ | (refine Below.setCell ?_ (by first | omega | (simp; omega) | simp) _) | (refine Below.alloc ?_ (by first | omega | (simp; omega) | simp) _) | apply Below.drew | apply below_drewN)))⟩
  case rest =>
    obtain ⟨rfl, ⟨nb', bs', hB, hbR, h130, hnb'⟩, hbel⟩ := hcut
    have hzc := hbel.size
    have hrc := hr.below hbel
    have hrlc := hrl.below hbel
    have hcv := conv cp _ hrc
    have cB := hB.cell
    have hzB := hB.lt
    cases hth : thereL l K with
    | false =>
      have hF := sfree_no A 256 cp c K 6 wc (hP.object_no hc hrc hn hcp hth)
      go_wp2_with fail
      refine hF.mono ?_
      rintro e w1 ⟨rfl, hb1⟩
      have hTh := rthere_any Al N cl _ _ l K w1 (hrlc.below hb1)
      rw [hth] at hTh
      have cB1 := (hB.on hb1).cell
      have hcv1 := conv cp _ (hrc.below hb1)
      clear cB
      go_wp2_with fail
      refine hTh.mono ?_
      rintro e w2 ⟨rfl, rfl⟩
      go_wp2_with fail
      go_ret3
      exact Stepped.same hr hn hcp hrl hP (by (have q_hb1 := Below.size hb1; (try simp at q_hb1); have q_hbel := Below.size hbel; (try simp at q_hbel); repeat (first | exact Below.refl _ _ | (refine Below.trans ?_ (Below.mono hb1 (by first | omega | (simp; omega) | simp))) | (refine Below.trans ?_ (Below.mono hbel (by first | omega | (simp; omega) | simp))) | (refine Below.setCell ?_ (by first | omega | (simp; omega) | simp) _) | (refine Below.alloc ?_ (by first | omega | (simp; omega) | simp) _) | apply Below.drew | apply below_drewN)))
    | true =>
      obtain ⟨k, rfl, hk, o, ho, ho1, hfw⟩ := hP.there hc hth
      have hPn := hP.set_ (j := 0) (x := List.replicate z 0) hc.fit ho (by simp) (sow_free z o) (.inl ⟨rfl, rfl⟩)
      rw [Nat.add_zero] at hPn
      have hFr := sfree_yes hc A cp p k wc hrc hn hcp (hP.may hc).1 hk hfw
      obtain ⟨Q, hQ⟩ : ∃ Q, Q = layL p (k * z) (List.replicate z 0) := ⟨_, rfl⟩
      obtain ⟨LL, hLL⟩ : ∃ LL, LL = l.set k (0, []) := ⟨_, rfl⟩
      have hQl := (hPn.may hc).2
      have hLl := hPn.len
      have HLL := Lib.hid hLL
      rw [← hQ] at hFr hPn hQl
      rw [← hLL] at hPn hLl
      have hN16 := hc.few
      clear hQ hLL ho hfw
      go_wp2_with fail
      refine hFr.mono ?_
      rintro e w1 ⟨v1, rfl, hFq, hb1⟩
      obtain ⟨A2, c2, rfl, hRq, _, hn2, hm2⟩ := hFq.rdn 256 hQl
      have hb1' := hbel.trans (hb1.mono hzc)
      have hTh := rthere_any Al N cl _ _ l k w1 (hrlc.below hb1)
      rw [hth] at hTh
      have cB1 := (hB.on hb1).cell
      clear cB hFr hFq hth hcv
      go_wp2_with fail
      refine hTh.mono ?_
      rintro e w2 ⟨rfl, rfl⟩
      go_wp2_with fail
      refine (rwith_any Al N cl w.heap.size l k 0 none 0 0 [] w1 (hrlc.below hb1) hb1'.size (by omega) hk RdX.nil (Nat.le_refl _) (by unfold maxLen; omega)).mono ?_
      rintro e w3 ⟨v3, rfl, hO3, hb3⟩
      rw [← HLL.out] at hO3
      obtain ⟨Am, cm, rfl, hRm, _, _⟩ := hO3.rd N hLl
      have hbX := hb1'.trans (hb3.mono hb1'.size)
      have hR2 := hRq.below hb3
      have hcv1 := conv cp _ (hr.below hbX)
      clear hO3 hTh cB1
      have hOKl := Lib.hid (hPn.small hc)
      have HPG := Lib.hid hPn.page.symm
      have hN16 := hc.few
      go_wp2_with fail
      refine wp_flows [(fun y_ _ => y_ = .slice A2 256 c2), (fun y_ _ => y_ = .slice Am N cm), (fun y_ _ => y_ = .slice A2 256 c2), (fun y_ _ => y_ = .string (str Q)), (fun y_ _ => y_ = .slice Am N cm), (fun y_ _ => y_ = .int .i64 c), (IsB (256) (Q)), (fun y_ _ => y_ = .string (str (Q))), (fun y_ _ => y_ = .bool true), (fun y_ _ => y_ = .slice A2 256 c2), (fun y_ _ => y_ = .slice Am N cm), (fun y_ _ => y_ = .bool true)] (by kernel_rfl) ⟨Stab.eq _, Stab.eq _, Stab.eq _, Stab.eq _, Stab.eq _, Stab.eq _, Stab.b _ _, Stab.eq _, Stab.eq _, Stab.eq _, Stab.eq _, Stab.eq _, trivial⟩ (by kernel_rfl) (by rfl) ?_ ?_
      · intro kq hkq
        match kq, hkq with
        | 0, _ =>
          refine StepOk.plain _ 259 rfl rfl rfl [(12, none)] (by kernel_rfl) (fun af wf hbw hf Kf hKf => ?_)
          obtain ⟨g12, _⟩ := hf
          have h12 : af.tmps[12]?.getD undef = .slice A2 256 c2 := g12
          clear g12
          go_simp
          exact hKf _ _ (Below.refl _ _) rfl
        | 1, _ =>
          refine StepOk.plain _ 260 rfl rfl rfl [(15, none)] (by kernel_rfl) (fun af wf hbw hf Kf hKf => ?_)
          obtain ⟨g15, _⟩ := hf
          have h15 : af.tmps[15]?.getD undef = .slice Am N cm := g15
          clear g15
          go_simp
          exact hKf _ _ (Below.refl _ _) rfl
        | 2, _ =>
          refine StepOk.plain _ 261 rfl rfl rfl [(12, none)] (by kernel_rfl) (fun af wf hbw hf Kf hKf => ?_)
          obtain ⟨g12, _⟩ := hf
          have h12 : af.tmps[12]?.getD undef = .slice A2 256 c2 := g12
          clear g12
          go_simp
          exact hKf _ _ (Below.refl _ _) rfl
        | 3, _ =>
          refine StepOk.plain _ 262 rfl rfl rfl [(261, some 2)] (by kernel_rfl) (fun af wf hbw hf Kf hKf => ?_)
          obtain ⟨g261, _⟩ := hf
          have h261 : af.tmps[261]?.getD undef = .slice A2 256 c2 := g261
          clear g261
          have hcv := conv c2 _ (Rd.below (Rd.drew hR2) hbw)
          go_simp
          exact hKf _ _ (Below.refl _ _) rfl
        | 4, _ =>
          refine StepOk.plain _ 263 rfl rfl rfl [(15, none)] (by kernel_rfl) (fun af wf hbw hf Kf hKf => ?_)
          obtain ⟨g15, _⟩ := hf
          have h15 : af.tmps[15]?.getD undef = .slice Am N cm := g15
          clear g15
          go_simp
          exact hKf _ _ (Below.refl _ _) rfl
        | 5, _ =>
          refine StepOk.plain _ 264 rfl rfl rfl [(2, none)] (by kernel_rfl) (fun af wf hbw hf Kf hKf => ?_)
          obtain ⟨g2, _⟩ := hf
          have h2 : af.tmps[2]?.getD undef = .int .i64 c := g2
          clear g2
          go_simp
          exact hKf _ _ (Below.refl _ _) rfl
        | 6, _ =>
          refine StepOk.plain _ 265 rfl rfl rfl [(263, some 4), (264, some 5)] (by kernel_rfl) (fun af wf hbw hf Kf hKf => ?_)
          obtain ⟨g263, g264, _⟩ := hf
          have h263 : af.tmps[263]?.getD undef = .slice Am N cm := g263
          have h264 : af.tmps[264]?.getD undef = .int .i64 c := g264
          clear g263 g264
          go_simp
          refine (rpage_any hc Am N cm _ _ LL _ (hRm.drew.below hbw) hN16 hOKl.out).mono ?_
          rintro e wN ⟨r, rfl, hF, hb⟩
          exact hKf _ _ (hb) (IsB.of (HPG.out ▸ hF) hQl)
        | 7, _ =>
          refine StepOk.plain _ 266 rfl rfl rfl [(265, some 6)] (by kernel_rfl) (fun af wf hbw hf Kf hKf => ?_)
          obtain ⟨g265, _⟩ := hf
          obtain ⟨A265, c265, h265, hR265, hn265, hm265⟩ : IsB (256) (Q) (af.tmps[265]?.getD undef) wf := g265
          have hcv := conv c265 _ hR265
          go_simp
          exact hKf _ _ (Below.refl _ _) rfl
        | 8, _ =>
          refine StepOk.plain _ 267 rfl rfl rfl [(262, some 3), (266, some 7)] (by kernel_rfl) (fun af wf hbw hf Kf hKf => ?_)
          obtain ⟨g262, g266, _⟩ := hf
          have h262 : af.tmps[262]?.getD undef = .string (str Q) := g262
          have h266 : af.tmps[266]?.getD undef = .string (str (Q)) := g266
          clear g262 g266
          go_simp
          exact hKf _ _ (Below.refl _ _) rfl
        | 9, _ =>
          refine StepOk.plain _ 8 rfl rfl rfl [(259, some 0)] (by kernel_rfl) (fun af wf hbw hf Kf hKf => ?_)
          obtain ⟨g259, _⟩ := hf
          have h259 : af.tmps[259]?.getD undef = .slice A2 256 c2 := g259
          clear g259
          go_simp
          exact hKf _ _ (Below.refl _ _) rfl
        | 10, _ =>
          refine StepOk.plain _ 9 rfl rfl rfl [(260, some 1)] (by kernel_rfl) (fun af wf hbw hf Kf hKf => ?_)
          obtain ⟨g260, _⟩ := hf
          have h260 : af.tmps[260]?.getD undef = .slice Am N cm := g260
          clear g260
          go_simp
          exact hKf _ _ (Below.refl _ _) rfl
        | 11, _ =>
          refine StepOk.plain _ 10 rfl rfl rfl [(267, some 8)] (by kernel_rfl) (fun af wf hbw hf Kf hKf => ?_)
          obtain ⟨g267, _⟩ := hf
          have h267 : af.tmps[267]?.getD undef = .bool true := g267
          clear g267
          go_simp
          exact hKf _ _ (Below.refl _ _) rfl
        | i + 12, h => exact absurd h (by show ¬ (i + 12 < 12); omega)
      · intro af wF hbF hdF hsF hbaseF hfactF
        obtain ⟨T, dsF⟩ := af
        obtain rfl : dsF = _ := hdF
        have e8 := hfactF 9 8 (by decide) rfl
        replace e8 : T[8]?.getD undef = .slice A2 256 c2 := e8
        have e9 := hfactF 10 9 (by decide) rfl
        replace e9 : T[9]?.getD undef = .slice Am N cm := e9
        have e10 := hfactF 11 10 (by decide) rfl
        replace e10 : T[10]?.getD undef = .bool true := e10
        have hT := frame_back T [8, 9, 10, 259, 260, 261, 262, 263, 264, 265, 266, 267] hbaseF hsF (by kernel_rfl)
        simp only [List.foldl_cons, List.foldl_nil, List.setIfInBounds_toArray, List.set_cons_zero, List.set_cons_succ] at hT
        clear hbaseF hfactF hsF
        rw [e8] at hT; clear e8
        rw [e9] at hT; clear e9
        rw [e10] at hT; clear e10
        generalize T[259]?.getD undef = u259 at hT
        generalize T[260]?.getD undef = u260 at hT
        generalize T[261]?.getD undef = u261 at hT
        generalize T[262]?.getD undef = u262 at hT
        generalize T[263]?.getD undef = u263 at hT
        generalize T[264]?.getD undef = u264 at hT
        generalize T[265]?.getD undef = u265 at hT
        generalize T[266]?.getD undef = u266 at hT
        generalize T[267]?.getD undef = u267 at hT
        subst hT
        go_wp2_with fail
        go_ret3
        exact ⟨A2, c2, Q, Am, cm, LL, rfl, hR2.below hbF, hn2, by assumption, (hRm.below hbF).mono (by have := hbF.size; have := hbX.size; omega), hPn, hbX.trans (hbF.mono hbX.size)⟩
end Go.Proofs.Ytnocjjaebemkoaa
