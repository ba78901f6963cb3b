/- Slots: the laws' helpers: a step that resizes. -/
import Derived.Test.YtnocjjaebemkoaaSlot10
namespace Go.Proofs.Ytnocjjaebemkoaa
open Go.RowKit

section
variable {P : Program} {ops : Array Oper}
theorem yielded_undef {a : Act} {j d : Nat} (hd : dstOf ops j = some d) (h : a.tmps[d]?.getD undef = undef) : yielded ops a.tmps j = none := by
  unfold dstOf at hd
  unfold yielded
  rw [hd]
  show (match a.tmps[d]? with | some (.bool b) => some b | _ => none) = none
  cases h2 : a.tmps[d]? with
  | none => rfl
  | some v => rw [h2] at h; simp at h; subst h; rfl
/-- The rule for a guarded operation whose guard did not run. -/
theorem StepOk.nou {F : Nat → Value → World → Prop} {a0 : Act} {w0 : World} {k j t : Nat} {b : Bool} (o : Oper) (d : Tmp) (ho : ops[k]? = some o) (hd : o.dst = some d) (hg : o.guard = some (j, b)) (hj : dstOf ops j = some t) (hju : ∀ v w, F j v w → v = undef)
    (hs : [(t, some j)].all (srcOk ops k) = true) (hF : ∀ w, F k undef w) : StepOk P ops F a0 w0 k :=
  ⟨o, d, ho, hd, [(t, some j)], hs, fun a w hb hf K hK => by
    rw [if_neg (by simp [Region.wanted, hg, yielded_undef hj (hju _ _ hf.1)])]; exact hK _ _ (Below.refl _ _) (hF w)⟩
end
/-- Bytes of a call's own, in a slice; in an object; objects. -/
def IsFr (T : TypeId) (n : Nat) (L : List UInt8) (y : Value) (W : World) : Prop := ∃ A c, y = .slice A n c ∧ RdX 0 T W A n L ∧ n ≤ c ∧ c ≤ maxLen
theorem IsFr.stab (T : TypeId) (n : Nat) (L : List UInt8) : Stab (IsFr T n L) := fun _ _ _ hb ⟨A, c, e, h, h1⟩ => ⟨A, c, e, h.below hb, h1⟩
theorem IsFr.of {T : TypeId} {B n : Nat} {L : List UInt8} {v : Value} {W : World} (h : Fresh T B W v L) (hn : L.length = n) : IsFr T n L v W := by
  obtain ⟨A, c, rfl, _, hown, h1, h2⟩ := h.rdn n hn
  exact ⟨A, c, rfl, RdX.own hown, h1, h2⟩
def IsFrAg (T : TypeId) (S : Int) (n : Nat) (L : List UInt8) (y : Value) (W : World) : Prop := ∃ A c, y = .agg #[.int .u64 S, .slice A n c] ∧ RdX 0 T W A n L ∧ n ≤ c ∧ c ≤ maxLen
theorem IsFrAg.stab (T : TypeId) (S : Int) (n : Nat) (L : List UInt8) : Stab (IsFrAg T S n L) := fun _ _ _ hb ⟨A, c, e, h, h1⟩ => ⟨A, c, e, h.below hb, h1⟩
def IsObs (T : TypeId) (B n : Nat) (l : List Ob) (y : Value) (W : World) : Prop := ∃ A c, y = .slice A n c ∧ RdR obK B T W A n l
theorem IsObs.stab (T : TypeId) (B n : Nat) (l : List Ob) : Stab (IsObs T B n l) := fun _ _ _ hb ⟨A, c, e, h⟩ => ⟨A, c, e, h.below hb⟩
theorem IsObs.of {T T2 : TypeId} {Br B n : Nat} {l : List Ob} {v : Value} {W : World} (h : OwnR obK T2 Br B T W v l) (hn : l.length = n) : IsObs T B n l v W := by
  obtain ⟨A, c, e, hR, _⟩ := h.rd n hn
  exact ⟨A, c, e, hR⟩
/-- A slot of which two parts are others. -/
theorem page_lay2 (z : Nat) (l : List Ob) (k j2 : Nat) (o o' : Ob) (x y : List UInt8) (h : l[k]? = some o) (hN : l.length * z ≤ 256) (hj : x.length ≤ z) (hj2 : j2 + y.length ≤ z) (hx : layL (layL (winL z o) 0 x) j2 y = winL z o') : layL (layL (pageL z l) (k * z) x) (k * z + j2) y = pageL z (l.set k o') := by
  have hk := (List.getElem?_eq_some_iff.1 h).1
  have e : l = l.take k ++ o :: l.drop (k + 1) := by
    have h1 : l.drop k = o :: l.drop (k + 1) := by
      rw [List.drop_eq_getElem_cons hk]
      rw [(List.getElem?_eq_some_iff.1 h).2]
    rw [← h1, List.take_append_drop]
  have hl : ((l.take k).flatMap (winL z)).length = k * z := by rw [flat_len', List.length_take, Nat.min_eq_left (by omega)]
  have e0 : layL (pageL z l) (k * z) x = layL (pageL z l) (k * z + 0) x := rfl
  rw [e0, page_shape z l hN, page_shape z (l.set k o') (by rw [List.length_set]; exact hN), List.length_set]
  rw [List.set_eq_take_append_cons_drop, if_pos hk]
  conv => lhs; rw [e]
  rw [List.flatMap_append, List.flatMap_cons, List.flatMap_append, List.flatMap_cons, List.append_assoc, List.append_assoc, List.append_assoc, List.append_assoc, ← hl, layL_mid _ _ _ _ _ (by rw [winL_len]; omega), layL_mid _ _ _ _ _ (by rw [layL_len _ _ _ (by rw [winL_len]; omega), winL_len]; exact hj2), hx, ← e]
theorem PageOf.set2 {z N k j2 : Nat} {p x y : List UInt8} {l : List Ob} {o o' : Ob} (h : PageOf z N p l) (hN : N * z ≤ 256) (hk : l[k]? = some o) (hj : x.length ≤ z) (hj2 : j2 + y.length ≤ z) (hx : layL (layL (winL z o) 0 x) j2 y = winL z o') (ho : okO (z - 8) o') : PageOf z N (layL (layL p (k * z) x) (k * z + j2) y) (l.set k o') :=
  ⟨by rw [List.length_set, h.len], by rw [h.page]; exact page_lay2 z l k j2 o o' x y hk (by rw [h.len]; exact hN) hj hj2 hx, fun q hq => by
    rcases List.mem_or_eq_of_mem_set hq with h1 | rfl
    · exact h.ok q h1
    · exact ho⟩

set_option maxRecDepth 100000 in
set_option maxHeartbeats 4000000 in
theorem step_resize {c : Int} {z N : Nat} (hc : ClassOK c z N) (A : Option Addr) (cp : Nat) (p : List UInt8) (Al : Option Addr) (cl : Nat) (l : List Ob) (w : World) (hr : Rd w A 256 p) (hn : 256 ≤ cp) (hcp : cp ≤ maxLen) (hrl : RdR obK w.heap.size 5 w Al N l) (hP : PageOf z N p l)
    (K m a1 s : Int) (Ab : Option Addr) (nb cb : Nat) (bs : List UInt8) (hb : Rd w Ab nb bs) (hnb : nb ≤ cb) :
    Calls Try.prog 22 #[.slice A 256 cp, .slice Al N cl, .int .i64 c, .agg #[.int .i64 4, .int .i64 K, .int .i64 m, .int .i64 a1, .int .u64 s, .slice Ab nb cb]] w (Stepped 5 z N w) := by
  go_enter Try.func22, Try.ntmps22
  go_upto_if 22 with fail
  go_cut [7] (fun a wx => a = .pointer (some ⟨w.heap.size, 0, none⟩) ∧ (∃ nb' bs', Blk wx w.heap.size 34 #[.int .i64 4, .int .i64 K, .int .i64 m, .int .i64 a1, .int .u64 s, .slice Ab nb' cb] ∧ Rd wx Ab nb' bs' ∧ nb' ≤ 130 ∧ nb' ≤ cb) ∧ Below w.heap.size w wx)
  case first =>
    have B0 := Blk.new w 34 #[.int .i64 4, .int .i64 K, .int .i64 m, .int .i64 a1, .int .u64 s, .slice Ab nb cb]
    have c0 := B0.cell
    have f0 := B0.frozen
    by_cases h130 : 130 < nb
    · go_wp2_with fail
      go_meet
      exact ⟨rfl, ⟨130, bs.take 130, Blk.new _ _ _, (hb.head 130 (by omega)).alloc _, by omega, by omega⟩, (by (repeat (first | exact Below.refl _ _ | (refine Below.setCell ?_ (by first | omega | (simp; omega) | simp) _) | (refine Below.alloc ?_ (by first | omega | (simp; omega) | simp) _) | apply Below.drew | apply below_drewN)))⟩
    · go_wp2_with fail
      go_meet
      exact ⟨rfl, ⟨nb, bs, B0, hb.alloc _, by omega, hnb⟩, (by (repeat (first | exact Below.refl _ _ | (refine Below.setCell ?_ (by first | omega | (simp; omega) | simp) _) | (refine Below.alloc ?_ (by first | omega | (simp; omega) | simp) _) | apply Below.drew | apply below_drewN)))⟩
  case rest =>
    obtain ⟨rfl, ⟨nb', bs', hB, hbR, h130, hnb'⟩, hbel⟩ := hcut
    have hzc := hbel.size
    have hrc := hr.below hbel
    have hrlc := hrl.below hbel
    have hcv := conv cp _ hrc
    have cB := hB.cell
    have hzB := hB.lt
    cases hth : thereL l K with
    | false =>
      have hF := resize_no A 256 cp c K 6 m wc (.inr rfl) (hP.object_no hc hrc hn hcp hth)
      have HTH := Lib.hid hth
      clear hth
      go_wp2_with fail
      refine hF.mono ?_
      rintro e w1 ⟨rfl, hb1⟩
      have hrl1 := hrlc.below hb1
      have hB1 := hB.on hb1
      have hbX := hbel.trans (hb1.mono hzc)
      clear cB hF hcv
      go_wp2_with fail
      refine wp_flows [(fun y_ _ => y_ = .slice Al N cl), (fun y_ _ => y_ = .pointer (some ⟨w.heap.size, 1, none⟩)), (fun y_ _ => y_ = .int .i64 K), (fun y_ _ => y_ = .bool false), (fun y_ _ => y_ = .bool false), (fun y_ _ => y_ = undef), (fun y_ _ => y_ = undef), (fun y_ _ => y_ = undef), (fun y_ _ => y_ = undef), (fun y_ _ => y_ = undef), (fun y_ _ => y_ = undef), (fun y_ _ => y_ = undef), (fun y_ _ => y_ = undef), (fun y_ _ => y_ = undef), (fun y_ _ => y_ = undef), (fun y_ _ => y_ = .bool false)] (by kernel_rfl) ⟨Stab.eq _, Stab.eq _, Stab.eq _, Stab.eq _, Stab.eq _, Stab.eq _, Stab.eq _, Stab.eq _, Stab.eq _, Stab.eq _, Stab.eq _, Stab.eq _, Stab.eq _, Stab.eq _, Stab.eq _, Stab.eq _, trivial⟩ (by kernel_rfl) (by rfl) ?_ ?_
      · intro kq hkq
        match kq, hkq with
        | 0, _ =>
          refine StepOk.plain _ 118 rfl rfl rfl [(1, none)] (by kernel_rfl) (fun af wf hbw hf Kf hKf => ?_)
          obtain ⟨g1, _⟩ := hf
          have h1 : af.tmps[1]?.getD undef = .slice Al N cl := g1
          clear g1
          go_simp
          exact hKf _ _ (Below.refl _ _) rfl
        | 1, _ =>
          refine StepOk.plain _ 119 rfl rfl rfl [(7, none)] (by kernel_rfl) (fun af wf hbw hf Kf hKf => ?_)
          obtain ⟨g7, _⟩ := hf
          have h7 : af.tmps[7]?.getD undef = .pointer (some ⟨w.heap.size, 0, none⟩) := g7
          clear g7
          go_simp
          exact hKf _ _ (Below.refl _ _) rfl
        | 2, _ =>
          refine StepOk.plain _ 120 rfl rfl rfl [(119, some 1)] (by kernel_rfl) (fun af wf hbw hf Kf hKf => ?_)
          obtain ⟨g119, _⟩ := hf
          have h119 : af.tmps[119]?.getD undef = .pointer (some ⟨w.heap.size, 1, none⟩) := g119
          clear g119
          have cB0 := (Blk.on (Blk.drew (hB1)) hbw).cell
          go_simp
          exact hKf _ _ (Below.refl _ _) rfl
        | 3, _ =>
          refine StepOk.plain _ 121 rfl rfl rfl [(118, some 0), (120, some 2)] (by kernel_rfl) (fun af wf hbw hf Kf hKf => ?_)
          obtain ⟨g118, g120, _⟩ := hf
          have h118 : af.tmps[118]?.getD undef = .slice Al N cl := g118
          have h120 : af.tmps[120]?.getD undef = .int .i64 K := g120
          clear g118 g120
          go_simp
          refine (rthere_any Al N cl _ _ l K _ (hrl1.drew.below hbw)).mono ?_
          rintro e wN ⟨rfl, rfl⟩
          exact hKf _ _ (Below.refl _ _) (congrArg Value.bool HTH.out)
        | 4, _ =>
          refine StepOk.plain _ 122 rfl rfl rfl [(121, some 3)] (by kernel_rfl) (fun af wf hbw hf Kf hKf => ?_)
          obtain ⟨g121, _⟩ := hf
          have h121 : af.tmps[121]?.getD undef = .bool false := g121
          clear g121
          go_simp
          exact hKf _ _ (Below.refl _ _) rfl
        | 5, _ => exact StepOk.no _ 123 rfl rfl rfl rfl (fun _ _ h => h) (by decide) (by kernel_rfl) (fun _ => rfl)
        | 6, _ => exact StepOk.no _ 124 rfl rfl rfl rfl (fun _ _ h => h) (by decide) (by kernel_rfl) (fun _ => rfl)
        | 7, _ => exact StepOk.no _ 125 rfl rfl rfl rfl (fun _ _ h => h) (by decide) (by kernel_rfl) (fun _ => rfl)
        | 8, _ => exact StepOk.no _ 126 rfl rfl rfl rfl (fun _ _ h => h) (by decide) (by kernel_rfl) (fun _ => rfl)
        | 9, _ => exact StepOk.nou _ 127 rfl rfl rfl rfl (fun _ _ h => h) (by kernel_rfl) (fun _ => rfl)
        | 10, _ => exact StepOk.nou _ 128 rfl rfl rfl rfl (fun _ _ h => h) (by kernel_rfl) (fun _ => rfl)
        | 11, _ => exact StepOk.nou _ 129 rfl rfl rfl rfl (fun _ _ h => h) (by kernel_rfl) (fun _ => rfl)
        | 12, _ => exact StepOk.nou _ 130 rfl rfl rfl rfl (fun _ _ h => h) (by kernel_rfl) (fun _ => rfl)
        | 13, _ => exact StepOk.nou _ 131 rfl rfl rfl rfl (fun _ _ h => h) (by kernel_rfl) (fun _ => rfl)
        | 14, _ => exact StepOk.no _ 132 rfl rfl rfl rfl (fun _ _ h => h) (by decide) (by kernel_rfl) (fun _ => rfl)
        | 15, _ =>
          refine StepOk.plain _ 133 rfl rfl rfl [(122, some 4), (132, some 14)] (by kernel_rfl) (fun af wf hbw hf Kf hKf => ?_)
          obtain ⟨g122, g132, _⟩ := hf
          have h122 : af.tmps[122]?.getD undef = .bool false := g122
          have h132 : af.tmps[132]?.getD undef = undef := g132
          clear g122 g132
          go_simp
          exact hKf _ _ (Below.refl _ _) rfl
        | i + 16, h => exact absurd h (by show ¬ (i + 16 < 16); omega)
      · intro af wF hbF hdF hsF hbaseF hfactF
        obtain ⟨T, dsF⟩ := af
        obtain rfl : dsF = _ := hdF
        have e133 := hfactF 15 133 (by decide) rfl
        replace e133 : T[133]?.getD undef = .bool false := e133
        have hT := frame_back T [118, 119, 120, 121, 122, 123, 124, 125, 126, 127, 128, 129, 130, 131, 132, 133] hbaseF hsF (by kernel_rfl)
        simp only [List.foldl_cons, List.foldl_nil, List.setIfInBounds_toArray, List.set_cons_zero, List.set_cons_succ] at hT
        clear hbaseF hfactF hsF
        generalize T[118]?.getD undef = u118 at hT
        generalize T[119]?.getD undef = u119 at hT
        generalize T[120]?.getD undef = u120 at hT
        generalize T[121]?.getD undef = u121 at hT
        generalize T[122]?.getD undef = u122 at hT
        generalize T[123]?.getD undef = u123 at hT
        generalize T[124]?.getD undef = u124 at hT
        generalize T[125]?.getD undef = u125 at hT
        generalize T[126]?.getD undef = u126 at hT
        generalize T[127]?.getD undef = u127 at hT
        generalize T[128]?.getD undef = u128 at hT
        generalize T[129]?.getD undef = u129 at hT
        generalize T[130]?.getD undef = u130 at hT
        generalize T[131]?.getD undef = u131 at hT
        generalize T[132]?.getD undef = u132 at hT
        rw [e133] at hT; clear e133
        subst hT
        have hTh := rthere_any Al N cl _ _ l K wF (hrl1.below hbF)
        rw [HTH.out] at hTh
        have cBF := (hB1.on hbF).cell
        have hbY := hbX.trans (hbF.mono hbX.size)
        have hcv1 := conv cp _ (hr.below hbY)
        go_wp2_with fail
        refine hTh.mono ?_
        rintro e w2 ⟨rfl, rfl⟩
        go_wp2_with fail
        go_ret3
        exact Stepped.same hr hn hcp hrl hP (by (have q_hbY := Below.size hbY; (try simp at q_hbY); repeat (first | exact Below.refl _ _ | (refine Below.trans ?_ (Below.mono hbY (by first | omega | (simp; omega) | simp))) | (refine Below.setCell ?_ (by first | omega | (simp; omega) | simp) _) | (refine Below.alloc ?_ (by first | omega | (simp; omega) | simp) _) | apply Below.drew | apply below_drewN)))
    | true =>
      obtain ⟨k, rfl, hk, o, ho, ho1, hfw⟩ := hP.there hc hth
      have HTH := Lib.hid hth
      have hmp := (hP.may hc).1
      have hN16 := hc.few
      have hsz := hc.size
      have hz1 := hc.z128
      obtain ⟨S0, hS0⟩ : ∃ S0, S0 = sizeI c := ⟨_, rfl⟩
      have hS := fun W => rsize_any c W
      have hRA := fun h => resize_arg hc A cp p k m wc hrc hn hcp hmp hk hfw h
      rw [← hS0] at hS hsz hRA
      clear hth hS0
      by_cases hm1 : m < 1
      · have hF := hRA (.inl hm1)
        clear hRA
        go_wp2_with fail
        refine hF.mono ?_
        rintro e w1 ⟨rfl, hb1⟩
        have hrl1 := hrlc.below hb1
        have hB1 := hB.on hb1
        have hbX := hbel.trans (hb1.mono hzc)
        clear cB hF hcv
        go_wp2_with fail
        refine wp_flows [(fun y_ _ => y_ = .slice Al N cl), (fun y_ _ => y_ = .pointer (some ⟨w.heap.size, 1, none⟩)), (fun y_ _ => y_ = .int .i64 (k : Int)), (fun y_ _ => y_ = .bool true), (fun y_ _ => y_ = .bool true), (fun y_ _ => y_ = .pointer (some ⟨w.heap.size, 2, none⟩)), (fun y_ _ => y_ = .int .i64 m), (fun y_ _ => y_ = .bool true), (fun y_ _ => y_ = .bool true), (fun y_ _ => y_ = undef), (fun y_ _ => y_ = undef), (fun y_ _ => y_ = undef), (fun y_ _ => y_ = undef), (fun y_ _ => y_ = undef), (fun y_ _ => y_ = .bool true), (fun y_ _ => y_ = .bool true)] (by kernel_rfl) ⟨Stab.eq _, Stab.eq _, Stab.eq _, Stab.eq _, Stab.eq _, Stab.eq _, Stab.eq _, Stab.eq _, Stab.eq _, Stab.eq _, Stab.eq _, Stab.eq _, Stab.eq _, Stab.eq _, Stab.eq _, Stab.eq _, trivial⟩ (by kernel_rfl) (by rfl) ?_ ?_
        · intro kq hkq
          match kq, hkq with
          | 0, _ =>
            refine StepOk.plain _ 118 rfl rfl rfl [(1, none)] (by kernel_rfl) (fun af wf hbw hf Kf hKf => ?_)
            obtain ⟨g1, _⟩ := hf
            have h1 : af.tmps[1]?.getD undef = .slice Al N cl := g1
            clear g1
            go_simp
            exact hKf _ _ (Below.refl _ _) rfl
          | 1, _ =>
            refine StepOk.plain _ 119 rfl rfl rfl [(7, none)] (by kernel_rfl) (fun af wf hbw hf Kf hKf => ?_)
            obtain ⟨g7, _⟩ := hf
            have h7 : af.tmps[7]?.getD undef = .pointer (some ⟨w.heap.size, 0, none⟩) := g7
            clear g7
            go_simp
            exact hKf _ _ (Below.refl _ _) rfl
          | 2, _ =>
            refine StepOk.plain _ 120 rfl rfl rfl [(119, some 1)] (by kernel_rfl) (fun af wf hbw hf Kf hKf => ?_)
            obtain ⟨g119, _⟩ := hf
            have h119 : af.tmps[119]?.getD undef = .pointer (some ⟨w.heap.size, 1, none⟩) := g119
            clear g119
            have cB0 := (Blk.on (Blk.drew (hB1)) hbw).cell
            go_simp
            exact hKf _ _ (Below.refl _ _) rfl
          | 3, _ =>
            refine StepOk.plain _ 121 rfl rfl rfl [(118, some 0), (120, some 2)] (by kernel_rfl) (fun af wf hbw hf Kf hKf => ?_)
            obtain ⟨g118, g120, _⟩ := hf
            have h118 : af.tmps[118]?.getD undef = .slice Al N cl := g118
            have h120 : af.tmps[120]?.getD undef = .int .i64 (k : Int) := g120
            clear g118 g120
            go_simp
            refine (rthere_any Al N cl _ _ l k _ (hrl1.drew.below hbw)).mono ?_
            rintro e wN ⟨rfl, rfl⟩
            exact hKf _ _ (Below.refl _ _) (congrArg Value.bool HTH.out)
          | 4, _ =>
            refine StepOk.plain _ 122 rfl rfl rfl [(121, some 3)] (by kernel_rfl) (fun af wf hbw hf Kf hKf => ?_)
            obtain ⟨g121, _⟩ := hf
            have h121 : af.tmps[121]?.getD undef = .bool true := g121
            clear g121
            go_simp
            exact hKf _ _ (Below.refl _ _) rfl
          | 5, _ =>
            refine StepOk.yes _ 123 rfl rfl rfl rfl (fun _ _ h => h) [(7, none)] (by kernel_rfl) (fun af wf hbw hf Kf hKf => ?_)
            obtain ⟨g7, _⟩ := hf
            have h7 : af.tmps[7]?.getD undef = .pointer (some ⟨w.heap.size, 0, none⟩) := g7
            clear g7
            go_simp
            exact hKf _ _ (Below.refl _ _) rfl
          | 6, _ =>
            refine StepOk.yes _ 124 rfl rfl rfl rfl (fun _ _ h => h) [(123, some 5)] (by kernel_rfl) (fun af wf hbw hf Kf hKf => ?_)
            obtain ⟨g123, _⟩ := hf
            have h123 : af.tmps[123]?.getD undef = .pointer (some ⟨w.heap.size, 2, none⟩) := g123
            clear g123
            have cB0 := (Blk.on (Blk.drew (hB1)) hbw).cell
            go_simp
            exact hKf _ _ (Below.refl _ _) rfl
          | 7, _ =>
            refine StepOk.yes _ 125 rfl rfl rfl rfl (fun _ _ h => h) [(124, some 6)] (by kernel_rfl) (fun af wf hbw hf Kf hKf => ?_)
            obtain ⟨g124, _⟩ := hf
            have h124 : af.tmps[124]?.getD undef = .int .i64 m := g124
            clear g124
            go_simp
            exact hKf _ _ (Below.refl _ _) rfl
          | 8, _ =>
            refine StepOk.yes _ 126 rfl rfl rfl rfl (fun _ _ h => h) [(125, some 7)] (by kernel_rfl) (fun af wf hbw hf Kf hKf => ?_)
            obtain ⟨g125, _⟩ := hf
            have h125 : af.tmps[125]?.getD undef = .bool true := g125
            clear g125
            go_simp
            exact hKf _ _ (Below.refl _ _) rfl
          | 9, _ => exact StepOk.no _ 127 rfl rfl rfl rfl (fun _ _ h => h) (by decide) (by kernel_rfl) (fun _ => rfl)
          | 10, _ => exact StepOk.no _ 128 rfl rfl rfl rfl (fun _ _ h => h) (by decide) (by kernel_rfl) (fun _ => rfl)
          | 11, _ => exact StepOk.no _ 129 rfl rfl rfl rfl (fun _ _ h => h) (by decide) (by kernel_rfl) (fun _ => rfl)
          | 12, _ => exact StepOk.no _ 130 rfl rfl rfl rfl (fun _ _ h => h) (by decide) (by kernel_rfl) (fun _ => rfl)
          | 13, _ => exact StepOk.no _ 131 rfl rfl rfl rfl (fun _ _ h => h) (by decide) (by kernel_rfl) (fun _ => rfl)
          | 14, _ =>
            refine StepOk.yes _ 132 rfl rfl rfl rfl (fun _ _ h => h) [(126, some 8), (131, some 13)] (by kernel_rfl) (fun af wf hbw hf Kf hKf => ?_)
            obtain ⟨g126, g131, _⟩ := hf
            have h126 : af.tmps[126]?.getD undef = .bool true := g126
            have h131 : af.tmps[131]?.getD undef = undef := g131
            clear g126 g131
            go_simp
            exact hKf _ _ (Below.refl _ _) rfl
          | 15, _ =>
            refine StepOk.plain _ 133 rfl rfl rfl [(122, some 4), (132, some 14)] (by kernel_rfl) (fun af wf hbw hf Kf hKf => ?_)
            obtain ⟨g122, g132, _⟩ := hf
            have h122 : af.tmps[122]?.getD undef = .bool true := g122
            have h132 : af.tmps[132]?.getD undef = .bool true := g132
            clear g122 g132
            go_simp
            exact hKf _ _ (Below.refl _ _) rfl
          | i + 16, h => exact absurd h (by show ¬ (i + 16 < 16); omega)
        · intro af wF hbF hdF hsF hbaseF hfactF
          obtain ⟨T, dsF⟩ := af
          obtain rfl : dsF = _ := hdF
          have e133 := hfactF 15 133 (by decide) rfl
          replace e133 : T[133]?.getD undef = .bool true := e133
          have hT := frame_back T [118, 119, 120, 121, 122, 123, 124, 125, 126, 127, 128, 129, 130, 131, 132, 133] hbaseF hsF (by kernel_rfl)
          simp only [List.foldl_cons, List.foldl_nil, List.setIfInBounds_toArray, List.set_cons_zero, List.set_cons_succ] at hT
          clear hbaseF hfactF hsF
          generalize T[118]?.getD undef = u118 at hT
          generalize T[119]?.getD undef = u119 at hT
          generalize T[120]?.getD undef = u120 at hT
          generalize T[121]?.getD undef = u121 at hT
          generalize T[122]?.getD undef = u122 at hT
          generalize T[123]?.getD undef = u123 at hT
          generalize T[124]?.getD undef = u124 at hT
          generalize T[125]?.getD undef = u125 at hT
          generalize T[126]?.getD undef = u126 at hT
          generalize T[127]?.getD undef = u127 at hT
          generalize T[128]?.getD undef = u128 at hT
          generalize T[129]?.getD undef = u129 at hT
          generalize T[130]?.getD undef = u130 at hT
          generalize T[131]?.getD undef = u131 at hT
          generalize T[132]?.getD undef = u132 at hT
          rw [e133] at hT; clear e133
          subst hT
          have hbY := hbX.trans (hbF.mono hbX.size)
          have hcv1 := conv cp _ (hr.below hbY)
          go_wp2_with fail
          go_ret3
          exact Stepped.same hr hn hcp hrl hP (by (have q_hbY := Below.size hbY; (try simp at q_hbY); repeat (first | exact Below.refl _ _ | (refine Below.trans ?_ (Below.mono hbY (by first | omega | (simp; omega) | simp))) | (refine Below.setCell ?_ (by first | omega | (simp; omega) | simp) _) | (refine Below.alloc ?_ (by first | omega | (simp; omega) | simp) _) | apply Below.drew | apply below_drewN)))
      · by_cases hm2 : S0 < m
        · have hF := hRA (.inr hm2)
          clear hRA
          go_wp2_with fail
          refine hF.mono ?_
          rintro e w1 ⟨rfl, hb1⟩
          have hrl1 := hrlc.below hb1
          have hB1 := hB.on hb1
          have hbX := hbel.trans (hb1.mono hzc)
          clear cB hF hcv
          go_wp2_with fail
          refine wp_flows [(fun y_ _ => y_ = .slice Al N cl), (fun y_ _ => y_ = .pointer (some ⟨w.heap.size, 1, none⟩)), (fun y_ _ => y_ = .int .i64 (k : Int)), (fun y_ _ => y_ = .bool true), (fun y_ _ => y_ = .bool true), (fun y_ _ => y_ = .pointer (some ⟨w.heap.size, 2, none⟩)), (fun y_ _ => y_ = .int .i64 m), (fun y_ _ => y_ = .bool false), (fun y_ _ => y_ = .bool false), (fun y_ _ => y_ = .pointer (some ⟨w.heap.size, 2, none⟩)), (fun y_ _ => y_ = .int .i64 m), (fun y_ _ => y_ = .int .i64 c), (fun y_ _ => y_ = .int .i64 S0), (fun y_ _ => y_ = .bool true), (fun y_ _ => y_ = .bool true), (fun y_ _ => y_ = .bool true)] (by kernel_rfl) ⟨Stab.eq _, Stab.eq _, Stab.eq _, Stab.eq _, Stab.eq _, Stab.eq _, Stab.eq _, Stab.eq _, Stab.eq _, Stab.eq _, Stab.eq _, Stab.eq _, Stab.eq _, Stab.eq _, Stab.eq _, Stab.eq _, trivial⟩ (by kernel_rfl) (by rfl) ?_ ?_
          · intro kq hkq
            match kq, hkq with
            | 0, _ =>
              refine StepOk.plain _ 118 rfl rfl rfl [(1, none)] (by kernel_rfl) (fun af wf hbw hf Kf hKf => ?_)
              obtain ⟨g1, _⟩ := hf
              have h1 : af.tmps[1]?.getD undef = .slice Al N cl := g1
              clear g1
              go_simp
              exact hKf _ _ (Below.refl _ _) rfl
            | 1, _ =>
              refine StepOk.plain _ 119 rfl rfl rfl [(7, none)] (by kernel_rfl) (fun af wf hbw hf Kf hKf => ?_)
              obtain ⟨g7, _⟩ := hf
              have h7 : af.tmps[7]?.getD undef = .pointer (some ⟨w.heap.size, 0, none⟩) := g7
              clear g7
              go_simp
              exact hKf _ _ (Below.refl _ _) rfl
            | 2, _ =>
              refine StepOk.plain _ 120 rfl rfl rfl [(119, some 1)] (by kernel_rfl) (fun af wf hbw hf Kf hKf => ?_)
              obtain ⟨g119, _⟩ := hf
              have h119 : af.tmps[119]?.getD undef = .pointer (some ⟨w.heap.size, 1, none⟩) := g119
              clear g119
              have cB0 := (Blk.on (Blk.drew (hB1)) hbw).cell
              go_simp
              exact hKf _ _ (Below.refl _ _) rfl
            | 3, _ =>
              refine StepOk.plain _ 121 rfl rfl rfl [(118, some 0), (120, some 2)] (by kernel_rfl) (fun af wf hbw hf Kf hKf => ?_)
              obtain ⟨g118, g120, _⟩ := hf
              have h118 : af.tmps[118]?.getD undef = .slice Al N cl := g118
              have h120 : af.tmps[120]?.getD undef = .int .i64 (k : Int) := g120
              clear g118 g120
              go_simp
              refine (rthere_any Al N cl _ _ l k _ (hrl1.drew.below hbw)).mono ?_
              rintro e wN ⟨rfl, rfl⟩
              exact hKf _ _ (Below.refl _ _) (congrArg Value.bool HTH.out)
            | 4, _ =>
              refine StepOk.plain _ 122 rfl rfl rfl [(121, some 3)] (by kernel_rfl) (fun af wf hbw hf Kf hKf => ?_)
              obtain ⟨g121, _⟩ := hf
              have h121 : af.tmps[121]?.getD undef = .bool true := g121
              clear g121
              go_simp
              exact hKf _ _ (Below.refl _ _) rfl
            | 5, _ =>
              refine StepOk.yes _ 123 rfl rfl rfl rfl (fun _ _ h => h) [(7, none)] (by kernel_rfl) (fun af wf hbw hf Kf hKf => ?_)
              obtain ⟨g7, _⟩ := hf
              have h7 : af.tmps[7]?.getD undef = .pointer (some ⟨w.heap.size, 0, none⟩) := g7
              clear g7
              go_simp
              exact hKf _ _ (Below.refl _ _) rfl
            | 6, _ =>
              refine StepOk.yes _ 124 rfl rfl rfl rfl (fun _ _ h => h) [(123, some 5)] (by kernel_rfl) (fun af wf hbw hf Kf hKf => ?_)
              obtain ⟨g123, _⟩ := hf
              have h123 : af.tmps[123]?.getD undef = .pointer (some ⟨w.heap.size, 2, none⟩) := g123
              clear g123
              have cB0 := (Blk.on (Blk.drew (hB1)) hbw).cell
              go_simp
              exact hKf _ _ (Below.refl _ _) rfl
            | 7, _ =>
              refine StepOk.yes _ 125 rfl rfl rfl rfl (fun _ _ h => h) [(124, some 6)] (by kernel_rfl) (fun af wf hbw hf Kf hKf => ?_)
              obtain ⟨g124, _⟩ := hf
              have h124 : af.tmps[124]?.getD undef = .int .i64 m := g124
              clear g124
              have hd7 : decide (m < 1) = false := by simp; omega
              go_simp
              exact hKf _ _ (Below.refl _ _) rfl
            | 8, _ =>
              refine StepOk.yes _ 126 rfl rfl rfl rfl (fun _ _ h => h) [(125, some 7)] (by kernel_rfl) (fun af wf hbw hf Kf hKf => ?_)
              obtain ⟨g125, _⟩ := hf
              have h125 : af.tmps[125]?.getD undef = .bool false := g125
              clear g125
              go_simp
              exact hKf _ _ (Below.refl _ _) rfl
            | 9, _ =>
              refine StepOk.yes _ 127 rfl rfl rfl rfl (fun _ _ h => h) [(7, none)] (by kernel_rfl) (fun af wf hbw hf Kf hKf => ?_)
              obtain ⟨g7, _⟩ := hf
              have h7 : af.tmps[7]?.getD undef = .pointer (some ⟨w.heap.size, 0, none⟩) := g7
              clear g7
              go_simp
              exact hKf _ _ (Below.refl _ _) rfl
            | 10, _ =>
              refine StepOk.yes _ 128 rfl rfl rfl rfl (fun _ _ h => h) [(127, some 9)] (by kernel_rfl) (fun af wf hbw hf Kf hKf => ?_)
              obtain ⟨g127, _⟩ := hf
              have h127 : af.tmps[127]?.getD undef = .pointer (some ⟨w.heap.size, 2, none⟩) := g127
              clear g127
              have cB0 := (Blk.on (Blk.drew (hB1)) hbw).cell
              go_simp
              exact hKf _ _ (Below.refl _ _) rfl
            | 11, _ =>
              refine StepOk.yes _ 129 rfl rfl rfl rfl (fun _ _ h => h) [(2, none)] (by kernel_rfl) (fun af wf hbw hf Kf hKf => ?_)
              obtain ⟨g2, _⟩ := hf
              have h2 : af.tmps[2]?.getD undef = .int .i64 c := g2
              clear g2
              go_simp
              exact hKf _ _ (Below.refl _ _) rfl
            | 12, _ =>
              refine StepOk.yes _ 130 rfl rfl rfl rfl (fun _ _ h => h) [(129, some 11)] (by kernel_rfl) (fun af wf hbw hf Kf hKf => ?_)
              obtain ⟨g129, _⟩ := hf
              have h129 : af.tmps[129]?.getD undef = .int .i64 c := g129
              clear g129
              go_simp
              refine (hS _).mono ?_
              rintro e wN ⟨rfl, rfl⟩
              exact hKf _ _ (Below.refl _ _) (rfl)
            | 13, _ =>
              refine StepOk.yes _ 131 rfl rfl rfl rfl (fun _ _ h => h) [(128, some 10), (130, some 12)] (by kernel_rfl) (fun af wf hbw hf Kf hKf => ?_)
              obtain ⟨g128, g130, _⟩ := hf
              have h128 : af.tmps[128]?.getD undef = .int .i64 m := g128
              have h130 : af.tmps[130]?.getD undef = .int .i64 S0 := g130
              clear g128 g130
              go_simp
              exact hKf _ _ (Below.refl _ _) rfl
            | 14, _ =>
              refine StepOk.yes _ 132 rfl rfl rfl rfl (fun _ _ h => h) [(126, some 8), (131, some 13)] (by kernel_rfl) (fun af wf hbw hf Kf hKf => ?_)
              obtain ⟨g126, g131, _⟩ := hf
              have h126 : af.tmps[126]?.getD undef = .bool false := g126
              have h131 : af.tmps[131]?.getD undef = .bool true := g131
              clear g126 g131
              go_simp
              exact hKf _ _ (Below.refl _ _) rfl
            | 15, _ =>
              refine StepOk.plain _ 133 rfl rfl rfl [(122, some 4), (132, some 14)] (by kernel_rfl) (fun af wf hbw hf Kf hKf => ?_)
              obtain ⟨g122, g132, _⟩ := hf
              have h122 : af.tmps[122]?.getD undef = .bool true := g122
              have h132 : af.tmps[132]?.getD undef = .bool true := g132
              clear g122 g132
              go_simp
              exact hKf _ _ (Below.refl _ _) rfl
            | i + 16, h => exact absurd h (by show ¬ (i + 16 < 16); omega)
          · intro af wF hbF hdF hsF hbaseF hfactF
            obtain ⟨T, dsF⟩ := af
            obtain rfl : dsF = _ := hdF
            have e133 := hfactF 15 133 (by decide) rfl
            replace e133 : T[133]?.getD undef = .bool true := e133
            have hT := frame_back T [118, 119, 120, 121, 122, 123, 124, 125, 126, 127, 128, 129, 130, 131, 132, 133] hbaseF hsF (by kernel_rfl)
            simp only [List.foldl_cons, List.foldl_nil, List.setIfInBounds_toArray, List.set_cons_zero, List.set_cons_succ] at hT
            clear hbaseF hfactF hsF
            generalize T[118]?.getD undef = u118 at hT
            generalize T[119]?.getD undef = u119 at hT
            generalize T[120]?.getD undef = u120 at hT
            generalize T[121]?.getD undef = u121 at hT
            generalize T[122]?.getD undef = u122 at hT
            generalize T[123]?.getD undef = u123 at hT
            generalize T[124]?.getD undef = u124 at hT
            generalize T[125]?.getD undef = u125 at hT
            generalize T[126]?.getD undef = u126 at hT
            generalize T[127]?.getD undef = u127 at hT
            generalize T[128]?.getD undef = u128 at hT
            generalize T[129]?.getD undef = u129 at hT
            generalize T[130]?.getD undef = u130 at hT
            generalize T[131]?.getD undef = u131 at hT
            generalize T[132]?.getD undef = u132 at hT
            rw [e133] at hT; clear e133
            subst hT
            have hbY := hbX.trans (hbF.mono hbX.size)
            have hcv1 := conv cp _ (hr.below hbY)
            go_wp2_with fail
            go_ret3
            exact Stepped.same hr hn hcp hrl hP (by (have q_hbY := Below.size hbY; (try simp at q_hbY); repeat (first | exact Below.refl _ _ | (refine Below.trans ?_ (Below.mono hbY (by first | omega | (simp; omega) | simp))) | (refine Below.setCell ?_ (by first | omega | (simp; omega) | simp) _) | (refine Below.alloc ?_ (by first | omega | (simp; omega) | simp) _) | apply Below.drew | apply below_drewN)))
        · obtain ⟨mN, rfl⟩ : ∃ mN : Nat, m = mN := ⟨m.toNat, by omega⟩
          have hpl := padL_len mN o.2
          have hol : 8 + o.2.length ≤ z := by rcases hP.ok o (List.mem_of_getElem? ho) with h | h <;> omega
          have hPn := hP.set2 (j2 := 8 + mN) (x := putL 2 (mN : Int)) (y := List.replicate (z - 8 - mN) 0) (o' := (o.1, padL mN o.2)) hc.fit ho (by rw [putL_len]; omega) (by rw [List.length_replicate]; omega) (sow_size z mN o ho1 hol (by omega)) (by
            right
            rw [hpl]
            rcases hP.ok o (List.mem_of_getElem? ho) with h | h
            · omega
            · exact ⟨h.1, h.2.1, by omega, by omega⟩)
          have hF := resize_yes hc A cp p k mN wc hrc hn hcp hmp hk hfw (by omega) (by omega)
          obtain ⟨Q, hQ⟩ : ∃ Q, Q = layL (layL p (k * z) (putL 2 (mN : Int))) (k * z + (8 + mN)) (List.replicate (z - 8 - mN) 0) := ⟨_, rfl⟩
          obtain ⟨LL, hLL⟩ : ∃ LL, LL = l.set k (o.1, padL mN o.2) := ⟨_, rfl⟩
          have hQl := (hPn.may hc).2
          have hLl := hPn.len
          have HLL := Lib.hid hLL
          rw [← hQ] at hF hPn hQl
          rw [← hLL] at hPn hLl
          have HO := Lib.hid ho
          clear hRA hQ hLL ho hfw
          go_wp2_with fail
          refine hF.mono ?_
          rintro e w1 ⟨v1, rfl, hFq, hb1⟩
          obtain ⟨A2, c2, rfl, hRq, _, hn2, hm2'⟩ := hFq.rdn 256 hQl
          clear hFq
          have hrl1 := hrlc.below hb1
          have hB1 := hB.on hb1
          have hbX := hbel.trans (hb1.mono hzc)
          clear cB hF hcv
          go_wp2_with fail
          refine wp_flows [(fun y_ _ => y_ = .slice Al N cl), (fun y_ _ => y_ = .pointer (some ⟨w.heap.size, 1, none⟩)), (fun y_ _ => y_ = .int .i64 (k : Int)), (fun y_ _ => y_ = .bool true), (fun y_ _ => y_ = .bool true), (fun y_ _ => y_ = .pointer (some ⟨w.heap.size, 2, none⟩)), (fun y_ _ => y_ = .int .i64 (mN : Int)), (fun y_ _ => y_ = .bool false), (fun y_ _ => y_ = .bool false), (fun y_ _ => y_ = .pointer (some ⟨w.heap.size, 2, none⟩)), (fun y_ _ => y_ = .int .i64 (mN : Int)), (fun y_ _ => y_ = .int .i64 c), (fun y_ _ => y_ = .int .i64 S0), (fun y_ _ => y_ = .bool false), (fun y_ _ => y_ = .bool false), (fun y_ _ => y_ = .bool false)] (by kernel_rfl) ⟨Stab.eq _, Stab.eq _, Stab.eq _, Stab.eq _, Stab.eq _, Stab.eq _, Stab.eq _, Stab.eq _, Stab.eq _, Stab.eq _, Stab.eq _, Stab.eq _, Stab.eq _, Stab.eq _, Stab.eq _, Stab.eq _, trivial⟩ (by kernel_rfl) (by rfl) ?_ ?_
          · intro kq hkq
            match kq, hkq with
            | 0, _ =>
              refine StepOk.plain _ 118 rfl rfl rfl [(1, none)] (by kernel_rfl) (fun af wf hbw hf Kf hKf => ?_)
              obtain ⟨g1, _⟩ := hf
              have h1 : af.tmps[1]?.getD undef = .slice Al N cl := g1
              clear g1
              go_simp
              exact hKf _ _ (Below.refl _ _) rfl
            | 1, _ =>
              refine StepOk.plain _ 119 rfl rfl rfl [(7, none)] (by kernel_rfl) (fun af wf hbw hf Kf hKf => ?_)
              obtain ⟨g7, _⟩ := hf
              have h7 : af.tmps[7]?.getD undef = .pointer (some ⟨w.heap.size, 0, none⟩) := g7
              clear g7
              go_simp
              exact hKf _ _ (Below.refl _ _) rfl
            | 2, _ =>
              refine StepOk.plain _ 120 rfl rfl rfl [(119, some 1)] (by kernel_rfl) (fun af wf hbw hf Kf hKf => ?_)
              obtain ⟨g119, _⟩ := hf
              have h119 : af.tmps[119]?.getD undef = .pointer (some ⟨w.heap.size, 1, none⟩) := g119
              clear g119
              have cB0 := (Blk.on (Blk.drew (hB1)) hbw).cell
              go_simp
              exact hKf _ _ (Below.refl _ _) rfl
            | 3, _ =>
              refine StepOk.plain _ 121 rfl rfl rfl [(118, some 0), (120, some 2)] (by kernel_rfl) (fun af wf hbw hf Kf hKf => ?_)
              obtain ⟨g118, g120, _⟩ := hf
              have h118 : af.tmps[118]?.getD undef = .slice Al N cl := g118
              have h120 : af.tmps[120]?.getD undef = .int .i64 (k : Int) := g120
              clear g118 g120
              go_simp
              refine (rthere_any Al N cl _ _ l k _ (hrl1.drew.below hbw)).mono ?_
              rintro e wN ⟨rfl, rfl⟩
              exact hKf _ _ (Below.refl _ _) (congrArg Value.bool HTH.out)
            | 4, _ =>
              refine StepOk.plain _ 122 rfl rfl rfl [(121, some 3)] (by kernel_rfl) (fun af wf hbw hf Kf hKf => ?_)
              obtain ⟨g121, _⟩ := hf
              have h121 : af.tmps[121]?.getD undef = .bool true := g121
              clear g121
              go_simp
              exact hKf _ _ (Below.refl _ _) rfl
            | 5, _ =>
              refine StepOk.yes _ 123 rfl rfl rfl rfl (fun _ _ h => h) [(7, none)] (by kernel_rfl) (fun af wf hbw hf Kf hKf => ?_)
              obtain ⟨g7, _⟩ := hf
              have h7 : af.tmps[7]?.getD undef = .pointer (some ⟨w.heap.size, 0, none⟩) := g7
              clear g7
              go_simp
              exact hKf _ _ (Below.refl _ _) rfl
            | 6, _ =>
              refine StepOk.yes _ 124 rfl rfl rfl rfl (fun _ _ h => h) [(123, some 5)] (by kernel_rfl) (fun af wf hbw hf Kf hKf => ?_)
              obtain ⟨g123, _⟩ := hf
              have h123 : af.tmps[123]?.getD undef = .pointer (some ⟨w.heap.size, 2, none⟩) := g123
              clear g123
              have cB0 := (Blk.on (Blk.drew (hB1)) hbw).cell
              go_simp
              exact hKf _ _ (Below.refl _ _) rfl
            | 7, _ =>
              refine StepOk.yes _ 125 rfl rfl rfl rfl (fun _ _ h => h) [(124, some 6)] (by kernel_rfl) (fun af wf hbw hf Kf hKf => ?_)
              obtain ⟨g124, _⟩ := hf
              have h124 : af.tmps[124]?.getD undef = .int .i64 (mN : Int) := g124
              clear g124
              have hd7 : decide ((mN : Int) < 1) = false := by simp; omega
              go_simp
              exact hKf _ _ (Below.refl _ _) rfl
            | 8, _ =>
              refine StepOk.yes _ 126 rfl rfl rfl rfl (fun _ _ h => h) [(125, some 7)] (by kernel_rfl) (fun af wf hbw hf Kf hKf => ?_)
              obtain ⟨g125, _⟩ := hf
              have h125 : af.tmps[125]?.getD undef = .bool false := g125
              clear g125
              go_simp
              exact hKf _ _ (Below.refl _ _) rfl
            | 9, _ =>
              refine StepOk.yes _ 127 rfl rfl rfl rfl (fun _ _ h => h) [(7, none)] (by kernel_rfl) (fun af wf hbw hf Kf hKf => ?_)
              obtain ⟨g7, _⟩ := hf
              have h7 : af.tmps[7]?.getD undef = .pointer (some ⟨w.heap.size, 0, none⟩) := g7
              clear g7
              go_simp
              exact hKf _ _ (Below.refl _ _) rfl
            | 10, _ =>
              refine StepOk.yes _ 128 rfl rfl rfl rfl (fun _ _ h => h) [(127, some 9)] (by kernel_rfl) (fun af wf hbw hf Kf hKf => ?_)
              obtain ⟨g127, _⟩ := hf
              have h127 : af.tmps[127]?.getD undef = .pointer (some ⟨w.heap.size, 2, none⟩) := g127
              clear g127
              have cB0 := (Blk.on (Blk.drew (hB1)) hbw).cell
              go_simp
              exact hKf _ _ (Below.refl _ _) rfl
            | 11, _ =>
              refine StepOk.yes _ 129 rfl rfl rfl rfl (fun _ _ h => h) [(2, none)] (by kernel_rfl) (fun af wf hbw hf Kf hKf => ?_)
              obtain ⟨g2, _⟩ := hf
              have h2 : af.tmps[2]?.getD undef = .int .i64 c := g2
              clear g2
              go_simp
              exact hKf _ _ (Below.refl _ _) rfl
            | 12, _ =>
              refine StepOk.yes _ 130 rfl rfl rfl rfl (fun _ _ h => h) [(129, some 11)] (by kernel_rfl) (fun af wf hbw hf Kf hKf => ?_)
              obtain ⟨g129, _⟩ := hf
              have h129 : af.tmps[129]?.getD undef = .int .i64 c := g129
              clear g129
              go_simp
              refine (hS _).mono ?_
              rintro e wN ⟨rfl, rfl⟩
              exact hKf _ _ (Below.refl _ _) (rfl)
            | 13, _ =>
              refine StepOk.yes _ 131 rfl rfl rfl rfl (fun _ _ h => h) [(128, some 10), (130, some 12)] (by kernel_rfl) (fun af wf hbw hf Kf hKf => ?_)
              obtain ⟨g128, g130, _⟩ := hf
              have h128 : af.tmps[128]?.getD undef = .int .i64 (mN : Int) := g128
              have h130 : af.tmps[130]?.getD undef = .int .i64 S0 := g130
              clear g128 g130
              have hd13 : decide (S0 < (mN : Int)) = false := by simp; omega
              go_simp
              exact hKf _ _ (Below.refl _ _) rfl
            | 14, _ =>
              refine StepOk.yes _ 132 rfl rfl rfl rfl (fun _ _ h => h) [(126, some 8), (131, some 13)] (by kernel_rfl) (fun af wf hbw hf Kf hKf => ?_)
              obtain ⟨g126, g131, _⟩ := hf
              have h126 : af.tmps[126]?.getD undef = .bool false := g126
              have h131 : af.tmps[131]?.getD undef = .bool false := g131
              clear g126 g131
              go_simp
              exact hKf _ _ (Below.refl _ _) rfl
            | 15, _ =>
              refine StepOk.plain _ 133 rfl rfl rfl [(122, some 4), (132, some 14)] (by kernel_rfl) (fun af wf hbw hf Kf hKf => ?_)
              obtain ⟨g122, g132, _⟩ := hf
              have h122 : af.tmps[122]?.getD undef = .bool true := g122
              have h132 : af.tmps[132]?.getD undef = .bool false := g132
              clear g122 g132
              go_simp
              exact hKf _ _ (Below.refl _ _) rfl
            | i + 16, h => exact absurd h (by show ¬ (i + 16 < 16); omega)
          · intro af wF hbF hdF hsF hbaseF hfactF
            obtain ⟨T, dsF⟩ := af
            obtain rfl : dsF = _ := hdF
            have e133 := hfactF 15 133 (by decide) rfl
            replace e133 : T[133]?.getD undef = .bool false := e133
            have hT := frame_back T [118, 119, 120, 121, 122, 123, 124, 125, 126, 127, 128, 129, 130, 131, 132, 133] hbaseF hsF (by kernel_rfl)
            simp only [List.foldl_cons, List.foldl_nil, List.setIfInBounds_toArray, List.set_cons_zero, List.set_cons_succ] at hT
            clear hbaseF hfactF hsF
            generalize T[118]?.getD undef = u118 at hT
            generalize T[119]?.getD undef = u119 at hT
            generalize T[120]?.getD undef = u120 at hT
            generalize T[121]?.getD undef = u121 at hT
            generalize T[122]?.getD undef = u122 at hT
            generalize T[123]?.getD undef = u123 at hT
            generalize T[124]?.getD undef = u124 at hT
            generalize T[125]?.getD undef = u125 at hT
            generalize T[126]?.getD undef = u126 at hT
            generalize T[127]?.getD undef = u127 at hT
            generalize T[128]?.getD undef = u128 at hT
            generalize T[129]?.getD undef = u129 at hT
            generalize T[130]?.getD undef = u130 at hT
            generalize T[131]?.getD undef = u131 at hT
            generalize T[132]?.getD undef = u132 at hT
            rw [e133] at hT; clear e133
            subst hT
            have hTh := rthere_any Al N cl _ _ l k wF (hrl1.below hbF)
            rw [HTH.out] at hTh
            have hB2 := hB1.on hbF
            have hrl2 := hrl1.below hbF
            have cBF := hB2.cell
            have hbY := hbX.trans (hbF.mono hbX.size)
            have hRq2 := hRq.below hbF
            obtain ⟨wG, hwG⟩ : ∃ wG, wG = wF := ⟨_, rfl⟩
            subst hwG
            clear hbF hB1 hrl1 hRq hbX hb1
            go_wp2_with fail
            refine hTh.mono ?_
            rintro e w2 ⟨rfl, rfl⟩
            clear hTh
            obtain ⟨bo, off, S, Ad, nd, cd, L, hAl, hbo, hoe, hc0, hc1, hX, hnd, hcd⟩ := hrl2.ob hk
            have hoo : o = (S, L) := by have := HO.out; rw [this] at hoe; injection hoe
            subst hoo
            subst hAl
            have hXl : L.length = nd := hX.1.len
            simp only at ho1 hol hpl
            have q1 : (k : Int) < N := by omega
            go_wp2_with fail
            refine wp_flows [(fun y_ _ => y_ = .slice (some ⟨bo, off, none⟩) N cl), (fun y_ _ => y_ = .pointer (some ⟨w.heap.size, 1, none⟩)), (fun y_ _ => y_ = .int .i64 (k : Int)), (fun y_ _ => y_ = .slice (some ⟨bo, off, none⟩) N cl), (fun y_ _ => y_ = .pointer (some ⟨w.heap.size, 1, none⟩)), (fun y_ _ => y_ = .int .i64 (k : Int)), (fun y_ _ => y_ = .pointer (some ⟨bo, off + k * 2, none⟩)), (fun y_ _ => y_ = .pointer (some ⟨bo, off + k * 2, none⟩)), (fun y_ _ => y_ = .int .u64 S), (fun y_ _ => y_ = .slice (some ⟨bo, off, none⟩) N cl), (fun y_ _ => y_ = .pointer (some ⟨w.heap.size, 1, none⟩)), (fun y_ _ => y_ = .int .i64 (k : Int)), (fun y_ _ => y_ = .pointer (some ⟨bo, off + k * 2, none⟩)), (fun y_ _ => y_ = .pointer (some ⟨bo, off + k * 2 + 1, none⟩)), (fun y_ _ => y_ = .slice Ad nd cd), (fun y_ _ => y_ = .pointer (some ⟨w.heap.size, 2, none⟩)), (fun y_ _ => y_ = .int .i64 (mN : Int)), IsFr 5 mN (padL mN L), IsFrAg 5 S mN (padL mN L), IsObs 5 w.heap.size N LL, IsObs 5 w.heap.size N LL] (by kernel_rfl) ⟨Stab.eq _, Stab.eq _, Stab.eq _, Stab.eq _, Stab.eq _, Stab.eq _, Stab.eq _, Stab.eq _, Stab.eq _, Stab.eq _, Stab.eq _, Stab.eq _, Stab.eq _, Stab.eq _, Stab.eq _, Stab.eq _, Stab.eq _, IsFr.stab _ _ _, IsFrAg.stab _ _ _ _, IsObs.stab _ _ _ _, IsObs.stab _ _ _ _, trivial⟩ (by kernel_rfl) (by rfl) ?_ ?_
            · intro kq hkq
              match kq, hkq with
              | 0, _ =>
                refine StepOk.plain _ 138 rfl rfl rfl [(1, none)] (by kernel_rfl) (fun af wf hbw hf Kf hKf => ?_)
                obtain ⟨g1, _⟩ := hf
                have h1 : af.tmps[1]?.getD undef = .slice (some ⟨bo, off, none⟩) N cl := g1
                clear g1
                go_simp
                exact hKf _ _ (Below.refl _ _) rfl
              | 1, _ =>
                refine StepOk.plain _ 139 rfl rfl rfl [(7, none)] (by kernel_rfl) (fun af wf hbw hf Kf hKf => ?_)
                obtain ⟨g7, _⟩ := hf
                have h7 : af.tmps[7]?.getD undef = .pointer (some ⟨w.heap.size, 0, none⟩) := g7
                clear g7
                go_simp
                exact hKf _ _ (Below.refl _ _) rfl
              | 2, _ =>
                refine StepOk.plain _ 140 rfl rfl rfl [(139, some 1)] (by kernel_rfl) (fun af wf hbw hf Kf hKf => ?_)
                obtain ⟨g139, _⟩ := hf
                have h139 : af.tmps[139]?.getD undef = .pointer (some ⟨w.heap.size, 1, none⟩) := g139
                clear g139
                have cB0 := (Blk.on (Blk.drew (hB2)) hbw).cell
                go_simp
                exact hKf _ _ (Below.refl _ _) rfl
              | 3, _ =>
                refine StepOk.plain _ 141 rfl rfl rfl [(1, none)] (by kernel_rfl) (fun af wf hbw hf Kf hKf => ?_)
                obtain ⟨g1, _⟩ := hf
                have h1 : af.tmps[1]?.getD undef = .slice (some ⟨bo, off, none⟩) N cl := g1
                clear g1
                go_simp
                exact hKf _ _ (Below.refl _ _) rfl
              | 4, _ =>
                refine StepOk.plain _ 142 rfl rfl rfl [(7, none)] (by kernel_rfl) (fun af wf hbw hf Kf hKf => ?_)
                obtain ⟨g7, _⟩ := hf
                have h7 : af.tmps[7]?.getD undef = .pointer (some ⟨w.heap.size, 0, none⟩) := g7
                clear g7
                go_simp
                exact hKf _ _ (Below.refl _ _) rfl
              | 5, _ =>
                refine StepOk.plain _ 143 rfl rfl rfl [(142, some 4)] (by kernel_rfl) (fun af wf hbw hf Kf hKf => ?_)
                obtain ⟨g142, _⟩ := hf
                have h142 : af.tmps[142]?.getD undef = .pointer (some ⟨w.heap.size, 1, none⟩) := g142
                clear g142
                have cB0 := (Blk.on (Blk.drew (hB2)) hbw).cell
                go_simp
                exact hKf _ _ (Below.refl _ _) rfl
              | 6, _ =>
                refine StepOk.plain _ 144 rfl rfl rfl [(141, some 3), (143, some 5)] (by kernel_rfl) (fun af wf hbw hf Kf hKf => ?_)
                obtain ⟨g141, g143, _⟩ := hf
                have h141 : af.tmps[141]?.getD undef = .slice (some ⟨bo, off, none⟩) N cl := g141
                have h143 : af.tmps[143]?.getD undef = .int .i64 (k : Int) := g143
                clear g141 g143
                go_simp
                exact hKf _ _ (Below.refl _ _) rfl
              | 7, _ =>
                refine StepOk.plain _ 145 rfl rfl rfl [(144, some 6)] (by kernel_rfl) (fun af wf hbw hf Kf hKf => ?_)
                obtain ⟨g144, _⟩ := hf
                have h144 : af.tmps[144]?.getD undef = .pointer (some ⟨bo, off + k * 2, none⟩) := g144
                clear g144
                go_simp
                exact hKf _ _ (Below.refl _ _) rfl
              | 8, _ =>
                refine StepOk.plain _ 146 rfl rfl rfl [(145, some 7)] (by kernel_rfl) (fun af wf hbw hf Kf hKf => ?_)
                obtain ⟨g145, _⟩ := hf
                have h145 : af.tmps[145]?.getD undef = .pointer (some ⟨bo, off + k * 2, none⟩) := g145
                clear g145
                have cB0 := (Blk.on (Blk.drew (hB2)) hbw).cell
                have cB9 := (Below.cell (p := ⟨bo, off + k * 2, none⟩) hbw hbo).trans hc0
                go_simp
                exact hKf _ _ (Below.refl _ _) rfl
              | 9, _ =>
                refine StepOk.plain _ 147 rfl rfl rfl [(1, none)] (by kernel_rfl) (fun af wf hbw hf Kf hKf => ?_)
                obtain ⟨g1, _⟩ := hf
                have h1 : af.tmps[1]?.getD undef = .slice (some ⟨bo, off, none⟩) N cl := g1
                clear g1
                go_simp
                exact hKf _ _ (Below.refl _ _) rfl
              | 10, _ =>
                refine StepOk.plain _ 148 rfl rfl rfl [(7, none)] (by kernel_rfl) (fun af wf hbw hf Kf hKf => ?_)
                obtain ⟨g7, _⟩ := hf
                have h7 : af.tmps[7]?.getD undef = .pointer (some ⟨w.heap.size, 0, none⟩) := g7
                clear g7
                go_simp
                exact hKf _ _ (Below.refl _ _) rfl
              | 11, _ =>
                refine StepOk.plain _ 149 rfl rfl rfl [(148, some 10)] (by kernel_rfl) (fun af wf hbw hf Kf hKf => ?_)
                obtain ⟨g148, _⟩ := hf
                have h148 : af.tmps[148]?.getD undef = .pointer (some ⟨w.heap.size, 1, none⟩) := g148
                clear g148
                have cB0 := (Blk.on (Blk.drew (hB2)) hbw).cell
                go_simp
                exact hKf _ _ (Below.refl _ _) rfl
              | 12, _ =>
                refine StepOk.plain _ 150 rfl rfl rfl [(147, some 9), (149, some 11)] (by kernel_rfl) (fun af wf hbw hf Kf hKf => ?_)
                obtain ⟨g147, g149, _⟩ := hf
                have h147 : af.tmps[147]?.getD undef = .slice (some ⟨bo, off, none⟩) N cl := g147
                have h149 : af.tmps[149]?.getD undef = .int .i64 (k : Int) := g149
                clear g147 g149
                go_simp
                exact hKf _ _ (Below.refl _ _) rfl
              | 13, _ =>
                refine StepOk.plain _ 151 rfl rfl rfl [(150, some 12)] (by kernel_rfl) (fun af wf hbw hf Kf hKf => ?_)
                obtain ⟨g150, _⟩ := hf
                have h150 : af.tmps[150]?.getD undef = .pointer (some ⟨bo, off + k * 2, none⟩) := g150
                clear g150
                go_simp
                exact hKf _ _ (Below.refl _ _) rfl
              | 14, _ =>
                refine StepOk.plain _ 152 rfl rfl rfl [(151, some 13)] (by kernel_rfl) (fun af wf hbw hf Kf hKf => ?_)
                obtain ⟨g151, _⟩ := hf
                have h151 : af.tmps[151]?.getD undef = .pointer (some ⟨bo, off + k * 2 + 1, none⟩) := g151
                clear g151
                have cB0 := (Blk.on (Blk.drew (hB2)) hbw).cell
                have cB9 := (Below.cell (p := ⟨bo, off + k * 2 + 1, none⟩) hbw hbo).trans hc1
                go_simp
                exact hKf _ _ (Below.refl _ _) rfl
              | 15, _ =>
                refine StepOk.plain _ 153 rfl rfl rfl [(7, none)] (by kernel_rfl) (fun af wf hbw hf Kf hKf => ?_)
                obtain ⟨g7, _⟩ := hf
                have h7 : af.tmps[7]?.getD undef = .pointer (some ⟨w.heap.size, 0, none⟩) := g7
                clear g7
                go_simp
                exact hKf _ _ (Below.refl _ _) rfl
              | 16, _ =>
                refine StepOk.plain _ 154 rfl rfl rfl [(153, some 15)] (by kernel_rfl) (fun af wf hbw hf Kf hKf => ?_)
                obtain ⟨g153, _⟩ := hf
                have h153 : af.tmps[153]?.getD undef = .pointer (some ⟨w.heap.size, 2, none⟩) := g153
                clear g153
                have cB0 := (Blk.on (Blk.drew (hB2)) hbw).cell
                go_simp
                exact hKf _ _ (Below.refl _ _) rfl
              | 17, _ =>
                refine StepOk.plain _ 155 rfl rfl rfl [(152, some 14), (154, some 16)] (by kernel_rfl) (fun af wf hbw hf Kf hKf => ?_)
                obtain ⟨g152, g154, _⟩ := hf
                have h152 : af.tmps[152]?.getD undef = .slice Ad nd cd := g152
                have h154 : af.tmps[154]?.getD undef = .int .i64 (mN : Int) := g154
                clear g152 g154
                go_simp
                refine (rpad_any Ad nd cd L mN _ (Rd.below (Rd.drew hX.1) hbw) (by omega) (by omega)).mono ?_
                rintro e wN ⟨r, rfl, hF, hb⟩
                exact hKf _ _ (hb) (IsFr.of hF hpl)
              | 18, _ =>
                refine StepOk.plain _ 156 rfl rfl rfl [(146, some 8), (155, some 17)] (by kernel_rfl) (fun af wf hbw hf Kf hKf => ?_)
                obtain ⟨g146, g155, _⟩ := hf
                have h146 : af.tmps[146]?.getD undef = .int .u64 S := g146
                have g155 : IsFr 5 mN (padL mN L) (af.tmps[155]?.getD undef) wf := g155
                obtain ⟨A155, c155, h155, hX155, hn155, hm155⟩ := g155
                clear g146
                go_simp
                exact hKf _ _ (Below.refl _ _) (⟨A155, c155, rfl, hX155, hn155, hm155⟩)
              | 19, _ =>
                refine StepOk.plain _ 157 rfl rfl rfl [(138, some 0), (140, some 2), (156, some 18)] (by kernel_rfl) (fun af wf hbw hf Kf hKf => ?_)
                obtain ⟨g138, g140, g156, _⟩ := hf
                have h138 : af.tmps[138]?.getD undef = .slice (some ⟨bo, off, none⟩) N cl := g138
                have h140 : af.tmps[140]?.getD undef = .int .i64 (k : Int) := g140
                have g156 : IsFrAg 5 S mN (padL mN L) (af.tmps[156]?.getD undef) wf := g156
                obtain ⟨A156, c156, h156, hX156, hn156, hm156⟩ := g156
                clear g138 g140
                go_simp
                refine (rwith_any (some ⟨bo, off, none⟩) N cl w.heap.size l k S A156 mN c156 (padL mN L) _ (hrl2.drew.below hbw) (Nat.le_trans hbY.size hbw.size) (by omega) hk (hX156.mono (Nat.zero_le _)) hn156 hm156).mono ?_
                rintro e wN ⟨r, rfl, hF, hb⟩
                exact hKf _ _ (hb) (IsObs.of (HLL.out ▸ hF) hLl)
              | 20, _ =>
                refine StepOk.plain _ 15 rfl rfl rfl [(157, some 19)] (by kernel_rfl) (fun af wf hbw hf Kf hKf => ?_)
                obtain ⟨g157, _⟩ := hf
                have g157 : IsObs 5 w.heap.size N LL (af.tmps[157]?.getD undef) wf := g157
                obtain ⟨A157, c157, h157, hR157⟩ := g157
                go_simp
                exact hKf _ _ (Below.refl _ _) (⟨A157, c157, rfl, hR157⟩)
              | i + 21, h => exact absurd h (by show ¬ (i + 21 < 21); omega)
            · intro af wF hbF hdF hsF hbaseF hfactF
              obtain ⟨T, dsF⟩ := af
              obtain rfl : dsF = _ := hdF
              have e15 := hfactF 20 15 (by decide) rfl
              replace e15 : IsObs 5 w.heap.size N LL (T[15]?.getD undef) wF := e15
              have hT := frame_back T [15, 138, 139, 140, 141, 142, 143, 144, 145, 146, 147, 148, 149, 150, 151, 152, 153, 154, 155, 156, 157] hbaseF hsF (by kernel_rfl)
              simp only [List.foldl_cons, List.foldl_nil, List.setIfInBounds_toArray, List.set_cons_zero, List.set_cons_succ] at hT
              clear hbaseF hfactF hsF
              generalize T[15]?.getD undef = u15 at hT e15
              generalize T[138]?.getD undef = u138 at hT
              generalize T[139]?.getD undef = u139 at hT
              generalize T[140]?.getD undef = u140 at hT
              generalize T[141]?.getD undef = u141 at hT
              generalize T[142]?.getD undef = u142 at hT
              generalize T[143]?.getD undef = u143 at hT
              generalize T[144]?.getD undef = u144 at hT
              generalize T[145]?.getD undef = u145 at hT
              generalize T[146]?.getD undef = u146 at hT
              generalize T[147]?.getD undef = u147 at hT
              generalize T[148]?.getD undef = u148 at hT
              generalize T[149]?.getD undef = u149 at hT
              generalize T[150]?.getD undef = u150 at hT
              generalize T[151]?.getD undef = u151 at hT
              generalize T[152]?.getD undef = u152 at hT
              generalize T[153]?.getD undef = u153 at hT
              generalize T[154]?.getD undef = u154 at hT
              generalize T[155]?.getD undef = u155 at hT
              generalize T[156]?.getD undef = u156 at hT
              generalize T[157]?.getD undef = u157 at hT
              subst hT
              obtain ⟨Am, cm, rfl, hRm⟩ := e15
              have hbX := hbY.trans (hbF.mono hbY.size)
              have hR2 := hRq2.below hbF
              have hcv1 := conv cp _ (hr.below hbX)
              clear hbF
              have hOKl := Lib.hid (hPn.small hc)
              have HPG := Lib.hid hPn.page.symm
              have hN16 := hc.few
              go_wp2_with fail
              refine wp_flows [(fun y_ _ => y_ = .slice A2 256 c2), (fun y_ _ => y_ = .slice Am N cm), (fun y_ _ => y_ = .slice A2 256 c2), (fun y_ _ => y_ = .string (str Q)), (fun y_ _ => y_ = .slice Am N cm), (fun y_ _ => y_ = .int .i64 c), (IsB (256) (Q)), (fun y_ _ => y_ = .string (str (Q))), (fun y_ _ => y_ = .bool true), (fun y_ _ => y_ = .slice A2 256 c2), (fun y_ _ => y_ = .slice Am N cm), (fun y_ _ => y_ = .bool true)] (by kernel_rfl) ⟨Stab.eq _, Stab.eq _, Stab.eq _, Stab.eq _, Stab.eq _, Stab.eq _, Stab.b _ _, Stab.eq _, Stab.eq _, Stab.eq _, Stab.eq _, Stab.eq _, trivial⟩ (by kernel_rfl) (by rfl) ?_ ?_
              · intro kq hkq
                match kq, hkq with
                | 0, _ =>
                  refine StepOk.plain _ 259 rfl rfl rfl [(12, none)] (by kernel_rfl) (fun af wf hbw hf Kf hKf => ?_)
                  obtain ⟨g12, _⟩ := hf
                  have h12 : af.tmps[12]?.getD undef = .slice A2 256 c2 := g12
                  clear g12
                  go_simp
                  exact hKf _ _ (Below.refl _ _) rfl
                | 1, _ =>
                  refine StepOk.plain _ 260 rfl rfl rfl [(15, none)] (by kernel_rfl) (fun af wf hbw hf Kf hKf => ?_)
                  obtain ⟨g15, _⟩ := hf
                  have h15 : af.tmps[15]?.getD undef = .slice Am N cm := g15
                  clear g15
                  go_simp
                  exact hKf _ _ (Below.refl _ _) rfl
                | 2, _ =>
                  refine StepOk.plain _ 261 rfl rfl rfl [(12, none)] (by kernel_rfl) (fun af wf hbw hf Kf hKf => ?_)
                  obtain ⟨g12, _⟩ := hf
                  have h12 : af.tmps[12]?.getD undef = .slice A2 256 c2 := g12
                  clear g12
                  go_simp
                  exact hKf _ _ (Below.refl _ _) rfl
                | 3, _ =>
                  refine StepOk.plain _ 262 rfl rfl rfl [(261, some 2)] (by kernel_rfl) (fun af wf hbw hf Kf hKf => ?_)
                  obtain ⟨g261, _⟩ := hf
                  have h261 : af.tmps[261]?.getD undef = .slice A2 256 c2 := g261
                  clear g261
                  have hcv := conv c2 _ (Rd.below (Rd.drew hR2) hbw)
                  go_simp
                  exact hKf _ _ (Below.refl _ _) rfl
                | 4, _ =>
                  refine StepOk.plain _ 263 rfl rfl rfl [(15, none)] (by kernel_rfl) (fun af wf hbw hf Kf hKf => ?_)
                  obtain ⟨g15, _⟩ := hf
                  have h15 : af.tmps[15]?.getD undef = .slice Am N cm := g15
                  clear g15
                  go_simp
                  exact hKf _ _ (Below.refl _ _) rfl
                | 5, _ =>
                  refine StepOk.plain _ 264 rfl rfl rfl [(2, none)] (by kernel_rfl) (fun af wf hbw hf Kf hKf => ?_)
                  obtain ⟨g2, _⟩ := hf
                  have h2 : af.tmps[2]?.getD undef = .int .i64 c := g2
                  clear g2
                  go_simp
                  exact hKf _ _ (Below.refl _ _) rfl
                | 6, _ =>
                  refine StepOk.plain _ 265 rfl rfl rfl [(263, some 4), (264, some 5)] (by kernel_rfl) (fun af wf hbw hf Kf hKf => ?_)
                  obtain ⟨g263, g264, _⟩ := hf
                  have h263 : af.tmps[263]?.getD undef = .slice Am N cm := g263
                  have h264 : af.tmps[264]?.getD undef = .int .i64 c := g264
                  clear g263 g264
                  go_simp
                  refine (rpage_any hc Am N cm _ _ LL _ (hRm.drew.below hbw) hN16 hOKl.out).mono ?_
                  rintro e wN ⟨r, rfl, hF, hb⟩
                  exact hKf _ _ (hb) (IsB.of (HPG.out ▸ hF) hQl)
                | 7, _ =>
                  refine StepOk.plain _ 266 rfl rfl rfl [(265, some 6)] (by kernel_rfl) (fun af wf hbw hf Kf hKf => ?_)
                  obtain ⟨g265, _⟩ := hf
                  obtain ⟨A265, c265, h265, hR265, hn265, hm265⟩ : IsB (256) (Q) (af.tmps[265]?.getD undef) wf := g265
                  have hcv := conv c265 _ hR265
                  go_simp
                  exact hKf _ _ (Below.refl _ _) rfl
                | 8, _ =>
                  refine StepOk.plain _ 267 rfl rfl rfl [(262, some 3), (266, some 7)] (by kernel_rfl) (fun af wf hbw hf Kf hKf => ?_)
                  obtain ⟨g262, g266, _⟩ := hf
                  have h262 : af.tmps[262]?.getD undef = .string (str Q) := g262
                  have h266 : af.tmps[266]?.getD undef = .string (str (Q)) := g266
                  clear g262 g266
                  go_simp
                  exact hKf _ _ (Below.refl _ _) rfl
                | 9, _ =>
                  refine StepOk.plain _ 8 rfl rfl rfl [(259, some 0)] (by kernel_rfl) (fun af wf hbw hf Kf hKf => ?_)
                  obtain ⟨g259, _⟩ := hf
                  have h259 : af.tmps[259]?.getD undef = .slice A2 256 c2 := g259
                  clear g259
                  go_simp
                  exact hKf _ _ (Below.refl _ _) rfl
                | 10, _ =>
                  refine StepOk.plain _ 9 rfl rfl rfl [(260, some 1)] (by kernel_rfl) (fun af wf hbw hf Kf hKf => ?_)
                  obtain ⟨g260, _⟩ := hf
                  have h260 : af.tmps[260]?.getD undef = .slice Am N cm := g260
                  clear g260
                  go_simp
                  exact hKf _ _ (Below.refl _ _) rfl
                | 11, _ =>
                  refine StepOk.plain _ 10 rfl rfl rfl [(267, some 8)] (by kernel_rfl) (fun af wf hbw hf Kf hKf => ?_)
                  obtain ⟨g267, _⟩ := hf
                  have h267 : af.tmps[267]?.getD undef = .bool true := g267
                  clear g267
                  go_simp
                  exact hKf _ _ (Below.refl _ _) rfl
                | i + 12, h => exact absurd h (by show ¬ (i + 12 < 12); omega)
              · intro af wF hbF hdF hsF hbaseF hfactF
                obtain ⟨T, dsF⟩ := af
                obtain rfl : dsF = _ := hdF
                have e8 := hfactF 9 8 (by decide) rfl
                replace e8 : T[8]?.getD undef = .slice A2 256 c2 := e8
                have e9 := hfactF 10 9 (by decide) rfl
                replace e9 : T[9]?.getD undef = .slice Am N cm := e9
                have e10 := hfactF 11 10 (by decide) rfl
                replace e10 : T[10]?.getD undef = .bool true := e10
                have hT := frame_back T [8, 9, 10, 259, 260, 261, 262, 263, 264, 265, 266, 267] hbaseF hsF (by kernel_rfl)
                simp only [List.foldl_cons, List.foldl_nil, List.setIfInBounds_toArray, List.set_cons_zero, List.set_cons_succ] at hT
                clear hbaseF hfactF hsF
                rw [e8] at hT; clear e8
                rw [e9] at hT; clear e9
                rw [e10] at hT; clear e10
                generalize T[259]?.getD undef = u259 at hT
                generalize T[260]?.getD undef = u260 at hT
                generalize T[261]?.getD undef = u261 at hT
                generalize T[262]?.getD undef = u262 at hT
                generalize T[263]?.getD undef = u263 at hT
                generalize T[264]?.getD undef = u264 at hT
                generalize T[265]?.getD undef = u265 at hT
                generalize T[266]?.getD undef = u266 at hT
                generalize T[267]?.getD undef = u267 at hT
                subst hT
                go_wp2_with fail
                go_ret3
                exact ⟨A2, c2, Q, Am, cm, LL, rfl, hR2.below hbF, hn2, by assumption, (hRm.below hbF).mono (by have := hbF.size; have := hbX.size; omega), hPn, hbX.trans (hbF.mono hbX.size)⟩
end Go.Proofs.Ytnocjjaebemkoaa
