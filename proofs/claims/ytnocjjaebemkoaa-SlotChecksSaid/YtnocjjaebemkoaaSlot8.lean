/- Slots: the laws' helpers: same. -/
import Derived.Test.YtnocjjaebemkoaaSlot7
import Derived.Test.YtnocjjaebemkoaaSlotR4
namespace Go.Proofs.Ytnocjjaebemkoaa
open Go.RowKit

theorem PageOf.may {c : Int} {z N : Nat} {p : List UInt8} {l : List Ob} (h : PageOf z N p l) (hc : ClassOK c z N) : mayP c p = true ∧ p.length = 256 := by
  have h1 := hc.z16
  have h2 := hc.z128
  obtain ⟨h3, h4, h5⟩ := h.objs (by omega) (by omega) hc.fit
  exact ⟨by rw [mayP_class hc h5, check_good z N p h5 (by omega) hc.fit]; exact h4, h5⟩
/-- What a page of objects tells of slot k. -/
theorem PageOf.tells {c : Int} {z N k : Nat} {p : List UInt8} {l : List Ob} {o : Ob} (h : PageOf z N p l) (hc : ClassOK c z N) (hk : l[k]? = some o) : objW (win z p k) = o ∧ freeW (win z p k) = decide (o.1 = 0) ∧ okO (z - 8) o ∧ k < N ∧ lenW (win z p k) = o.2.length := by
  have h1 := hc.z16
  have h2 := hc.z128
  have h3 := h.win_ hc.fit hk
  have h4 := h.ok o (List.mem_of_getElem? hk)
  obtain ⟨t1, t2, t3, t4, t5⟩ := win_tells z o (by omega) (by omega) h4
  refine ⟨by rw [h3, t4], by rw [h3, t3], h4, ?_, by rw [h3, t1]⟩
  rw [← h.len]
  exact (List.getElem?_eq_some_iff.1 hk).1
theorem thereL_at {l : List Ob} {k : Nat} {o : Ob} (hk : l[k]? = some o) : thereL l k = decide (0 < o.1) := by
  have h1 := (List.getElem?_eq_some_iff.1 hk).1
  unfold thereL
  rw [decide_eq_true (by omega : (0 : Int) ≤ k), decide_eq_true (by omega : (k : Int) < l.length), Int.toNat_natCast]
  simp [List.getD, hk]
theorem thereL_out {l : List Ob} {k : Int} (h : k < 0 ∨ l.length ≤ k) : thereL l k = false := by
  unfold thereL
  rcases h with h | h
  · rw [decide_eq_false (by omega)]; rfl
  · rw [decide_eq_false (by omega : ¬ k < l.length)]; simp

set_option maxRecDepth 100000 in
set_option maxHeartbeats 2000000 in
theorem same_any {c : Int} {z N : Nat} (hc : ClassOK c z N) (A : Option Addr) (cp : Nat) (p : List UInt8) (Al : Option Addr) (cl B : Nat) (T : TypeId) (l : List Ob) (w : World) (hr : Rd w A 256 p) (hn : 256 ≤ cp) (hcp : cp ≤ maxLen) (hrl : RdR obK B T w Al N l) (hP : PageOf z N p l) :
    Calls Try.prog 30 #[.slice A 256 cp, .slice Al N cl, .int .i64 c] w fun e w' => e = .returned (.bool true) ∧ Below w.heap.size w w' := by
  have hm := (hP.may hc).1
  have HM := Lib.hid hm
  have hN1 := hc.few
  have hll := hP.len
  have hsl := hc.slots
  have HP := Lib.hid hP
  clear hm hP
  go_enter Try.func30, Try.ntmps30
  go_wp2_with fail
  go_loopw [7, 8] (fun n i wr => ∃ j : Nat, j ≤ N + 2 ∧ i = .int .i64 ((j : Int) - 1) ∧ n = .int .i64 (usedW z p (min (j - 1) N) : Int) ∧ Below w.heap.size w wr) (fun _ i _ => N + 2 - (intOf i + 1).toNat)
  case atStart => exact ⟨0, by omega, rfl, by simp [usedW], Below.refl _ _⟩
  case round =>
    obtain ⟨j, hj, rfl, rfl, hbel⟩ := hrel
    have hbz := hbel.size
    have hrr := hr.below hbel
    by_cases h0 : j = 0
    · subst h0
      have hget := get_no A 256 cp c (-1) 6 wr (.inr rfl) (object_out A 256 cp p c (-1) wr hrr hn hcp HM.out (by omega))
      have hth : thereL l (-1) = false := thereL_out (by omega)
      go_wp2_with fail
      refine hget.mono ?_
      rintro e w1 ⟨rfl, hb1⟩
      have hthere := rthere_any Al N cl B T l (-1) w1 (hrl.below (hbel.trans (hb1.mono hbz)))
      rw [hth] at hthere
      go_wp2_with fail
      refine hthere.mono ?_
      rintro e w2 ⟨rfl, rfl⟩
      go_wp2_with fail
      go_roundw
      case rel => exact ⟨1, by omega, by go_num, (by simp [usedW]), (by (have q_hb1 := Below.size hb1; (try simp at q_hb1); have q_hbel := Below.size hbel; (try simp at q_hbel); repeat (first | exact Below.refl _ _ | (refine Below.trans ?_ (Below.mono hb1 (by first | omega | (simp; omega) | simp))) | (refine Below.trans ?_ (Below.mono hbel (by first | omega | (simp; omega) | simp))) | (refine Below.setCell ?_ (by first | omega | (simp; omega) | simp) _) | (refine Below.alloc ?_ (by first | omega | (simp; omega) | simp) _) | apply Below.drew | apply below_drewN)))⟩
      case measure => simp [intOf] <;> omega
    · by_cases h1 : j ≤ N
      · obtain ⟨m, rfl⟩ : ∃ m, j = m + 1 := ⟨j - 1, by omega⟩
        have hmN : m < N := by omega
        obtain ⟨b, off, S, Ad, nd, cd, L, rfl, hb, he, hc0, hc1, hX, hnd, hcd⟩ := (hrl.below hbel).ob (k := m) hmN
        obtain ⟨t1, t2, t3, _, _⟩ := HP.out.tells hc he
        have hst := usedW_step z p m
        rw [t2] at hst
        have hmin : min (m + 1 - 1) N = m := by omega
        have hmin2 : min (m + 1 + 1 - 1) N = m + 1 := by omega
        have hth0 := thereL_at he
        simp only at t1 t2 hst hth0
        rw [hmin]
        have e0 : ((m + 1 : Nat) : Int) - 1 = (m : Int) := by omega
        rw [e0]
        have hU := usedW_le z p m
        obtain ⟨U, hU0⟩ : ∃ U, U = usedW z p m := ⟨_, rfl⟩
        rw [← hU0] at hst hU ⊢
        clear hU0 he e0 hmin
        by_cases hS : S = 0
        · have hf : freeW (win z p m) = true := by rw [t2]; exact decide_eq_true hS
          have hget := get_no A 256 cp c m 6 wr (.inr rfl) (object_free hc A cp p m wr hrr hn hcp HM.out hmN hf)
          have hth : thereL l m = false := by rw [hth0]; exact decide_eq_false (by omega)
          rw [decide_eq_true hS, if_pos rfl] at hst
          have HST := Lib.hid (show usedW z p (min (m + 1 + 1 - 1) N) = U by rw [hmin2]; exact hst)
          clear hst hmin2 hf t1 t2 t3 hth0 hS hX
          go_wp2_with fail
          refine hget.mono ?_
          rintro e w1 ⟨rfl, hb1⟩
          have hthere := rthere_any (some ⟨b, off, none⟩) N cl B T l m w1 (hrl.below (hbel.trans (hb1.mono hbz)))
          rw [hth] at hthere
          go_wp2_with fail
          refine hthere.mono ?_
          rintro e w2 ⟨rfl, rfl⟩
          go_wp2_with fail
          go_roundw
          case rel => exact ⟨m + 1 + 1, by omega, by go_num, (by rw [HST.out]), (by (have q_hb1 := Below.size hb1; (try simp at q_hb1); have q_hbel := Below.size hbel; (try simp at q_hbel); repeat (first | exact Below.refl _ _ | (refine Below.trans ?_ (Below.mono hb1 (by first | omega | (simp; omega) | simp))) | (refine Below.trans ?_ (Below.mono hbel (by first | omega | (simp; omega) | simp))) | (refine Below.setCell ?_ (by first | omega | (simp; omega) | simp) _) | (refine Below.alloc ?_ (by first | omega | (simp; omega) | simp) _) | apply Below.drew | apply below_drewN)))⟩
          case measure => simp [intOf] <;> omega
        · have hS1 : 0 < S := by rcases t3 with h | h <;> (simp only at h; omega)
          have hf : freeW (win z p m) = false := by rw [t2]; exact decide_eq_false hS
          have hget := get_yes hc A cp p m wr hrr hn hcp HM.out hmN hf
          rw [t1] at hget
          have hth : thereL l m = true := by rw [hth0]; exact decide_eq_true hS1
          rw [decide_eq_false hS, if_neg (by decide)] at hst
          have HST := Lib.hid (show usedW z p (min (m + 1 + 1 - 1) N) = U + 1 by rw [hmin2]; exact hst)
          have hXl := hX.1.len
          have hnL : L.length ≤ 1000 := by
            have := hc.z128
            rcases t3 with h | h <;> simp only at h
            · rw [h.2]; simp
            · omega
          clear hst hmin2 hf t1 t2 t3 hth0 hS
          go_wp2_with fail
          refine hget.mono ?_
          rintro e w1 ⟨A9, rfl, hR9, hb1⟩
          simp only at hR9
          have hthere := rthere_any (some ⟨b, off, none⟩) N cl B T l m w1 (hrl.below (hbel.trans (hb1.mono hbz)))
          rw [hth] at hthere
          go_wp2_with fail
          refine hthere.mono ?_
          rintro e w2 ⟨rfl, rfl⟩
          have cc0 := (Below.cell (p := ⟨b, off + m * 2, none⟩) hb1 hb).trans hc0
          have cc1 := (Below.cell (p := ⟨b, off + m * 2 + 1, none⟩) hb1 hb).trans hc1
          have hRx := hX.1.below hb1
          have hb2 : b < w1.heap.size := Nat.lt_of_lt_of_le hb hb1.size
          have q1 : (m : Int) < N := by omega
          obtain rfl : nd = L.length := hXl.symm
          clear hc0 hc1 hX hget hthere hth
          go_wp2_with fail
          refine wp_flows [(fun y_ _ => y_ = .int .i64 0), (fun y_ _ => y_ = .bool false), (fun y_ _ => y_ = .bool false), (fun y_ _ => y_ = .int .u64 S), (fun y_ _ => y_ = .slice (some ⟨b, off, none⟩) N cl), (fun y_ _ => y_ = .int .i64 (m : Int)), (fun y_ _ => y_ = .pointer (some ⟨b, off + m * 2, none⟩)), (fun y_ _ => y_ = .pointer (some ⟨b, off + m * 2, none⟩)), (fun y_ _ => y_ = .int .u64 S), (fun y_ _ => y_ = .bool false), (fun y_ _ => y_ = .bool false), (fun y_ _ => y_ = .bool false), (fun y_ _ => y_ = .slice A9 L.length L.length), (fun y_ _ => y_ = .string (str L)), (fun y_ _ => y_ = .slice (some ⟨b, off, none⟩) N cl), (fun y_ _ => y_ = .int .i64 (m : Int)), (fun y_ _ => y_ = .pointer (some ⟨b, off + m * 2, none⟩)), (fun y_ _ => y_ = .pointer (some ⟨b, off + m * 2 + 1, none⟩)), (fun y_ _ => y_ = .slice Ad L.length cd), (fun y_ _ => y_ = .string (str L)), (fun y_ _ => y_ = .bool false), (fun y_ _ => y_ = .bool false)] (by kernel_rfl) ⟨Stab.eq _, Stab.eq _, Stab.eq _, Stab.eq _, Stab.eq _, Stab.eq _, Stab.eq _, Stab.eq _, Stab.eq _, Stab.eq _, Stab.eq _, Stab.eq _, Stab.eq _, Stab.eq _, Stab.eq _, Stab.eq _, Stab.eq _, Stab.eq _, Stab.eq _, Stab.eq _, Stab.eq _, Stab.eq _, trivial⟩ (by kernel_rfl) (by rfl) ?_ ?_
          · intro kq hkq
            match kq, hkq with
            | 0, _ =>
              refine StepOk.plain _ 43 rfl rfl rfl [(11, none)] (by kernel_rfl) (fun af wf hbw hf Kf hKf => ?_)
              obtain ⟨g11, _⟩ := hf
              have h11 : af.tmps[11]?.getD undef = .int .i64 0 := g11
              clear g11
              go_simp
              exact hKf _ _ (Below.refl _ _) rfl
            | 1, _ =>
              refine StepOk.plain _ 44 rfl rfl rfl [(43, some 0)] (by kernel_rfl) (fun af wf hbw hf Kf hKf => ?_)
              obtain ⟨g43, _⟩ := hf
              have h43 : af.tmps[43]?.getD undef = .int .i64 0 := g43
              clear g43
              go_simp
              exact hKf _ _ (Below.refl _ _) rfl
            | 2, _ =>
              refine StepOk.plain _ 45 rfl rfl rfl [(44, some 1)] (by kernel_rfl) (fun af wf hbw hf Kf hKf => ?_)
              obtain ⟨g44, _⟩ := hf
              have h44 : af.tmps[44]?.getD undef = .bool false := g44
              clear g44
              go_simp
              exact hKf _ _ (Below.refl _ _) rfl
            | 3, _ =>
              refine StepOk.yes _ 46 rfl rfl rfl rfl (fun _ _ h => h) [(9, none)] (by kernel_rfl) (fun af wf hbw hf Kf hKf => ?_)
              obtain ⟨g9, _⟩ := hf
              have h9 : af.tmps[9]?.getD undef = .int .u64 S := g9
              clear g9
              go_simp
              exact hKf _ _ (Below.refl _ _) rfl
            | 4, _ =>
              refine StepOk.yes _ 47 rfl rfl rfl rfl (fun _ _ h => h) [(1, none)] (by kernel_rfl) (fun af wf hbw hf Kf hKf => ?_)
              obtain ⟨g1, _⟩ := hf
              have h1 : af.tmps[1]?.getD undef = .slice (some ⟨b, off, none⟩) N cl := g1
              clear g1
              go_simp
              exact hKf _ _ (Below.refl _ _) rfl
            | 5, _ =>
              refine StepOk.yes _ 48 rfl rfl rfl rfl (fun _ _ h => h) [(8, none)] (by kernel_rfl) (fun af wf hbw hf Kf hKf => ?_)
              obtain ⟨g8, _⟩ := hf
              have h8 : af.tmps[8]?.getD undef = .int .i64 (m : Int) := g8
              clear g8
              go_simp
              exact hKf _ _ (Below.refl _ _) rfl
            | 6, _ =>
              refine StepOk.yes _ 49 rfl rfl rfl rfl (fun _ _ h => h) [(47, some 4), (48, some 5)] (by kernel_rfl) (fun af wf hbw hf Kf hKf => ?_)
              obtain ⟨g47, g48, _⟩ := hf
              have h47 : af.tmps[47]?.getD undef = .slice (some ⟨b, off, none⟩) N cl := g47
              have h48 : af.tmps[48]?.getD undef = .int .i64 (m : Int) := g48
              clear g47 g48
              go_simp
              exact hKf _ _ (Below.refl _ _) rfl
            | 7, _ =>
              refine StepOk.yes _ 50 rfl rfl rfl rfl (fun _ _ h => h) [(49, some 6)] (by kernel_rfl) (fun af wf hbw hf Kf hKf => ?_)
              obtain ⟨g49, _⟩ := hf
              have h49 : af.tmps[49]?.getD undef = .pointer (some ⟨b, off + m * 2, none⟩) := g49
              clear g49
              go_simp
              exact hKf _ _ (Below.refl _ _) rfl
            | 8, _ =>
              refine StepOk.yes _ 51 rfl rfl rfl rfl (fun _ _ h => h) [(50, some 7)] (by kernel_rfl) (fun af wf hbw hf Kf hKf => ?_)
              obtain ⟨g50, _⟩ := hf
              have h50 : af.tmps[50]?.getD undef = .pointer (some ⟨b, off + m * 2, none⟩) := g50
              clear g50
              have cB9 := (Below.cell (p := ⟨b, off + m * 2, none⟩) hbw hb2).trans cc0
              go_simp
              exact hKf _ _ (Below.refl _ _) rfl
            | 9, _ =>
              refine StepOk.yes _ 52 rfl rfl rfl rfl (fun _ _ h => h) [(46, some 3), (51, some 8)] (by kernel_rfl) (fun af wf hbw hf Kf hKf => ?_)
              obtain ⟨g46, g51, _⟩ := hf
              have h46 : af.tmps[46]?.getD undef = .int .u64 S := g46
              have h51 : af.tmps[51]?.getD undef = .int .u64 S := g51
              clear g46 g51
              go_simp
              exact hKf _ _ (Below.refl _ _) rfl
            | 10, _ =>
              refine StepOk.plain _ 53 rfl rfl rfl [(45, some 2), (52, some 9)] (by kernel_rfl) (fun af wf hbw hf Kf hKf => ?_)
              obtain ⟨g45, g52, _⟩ := hf
              have h45 : af.tmps[45]?.getD undef = .bool false := g45
              have h52 : af.tmps[52]?.getD undef = .bool false := g52
              clear g45 g52
              go_simp
              exact hKf _ _ (Below.refl _ _) rfl
            | 11, _ =>
              refine StepOk.plain _ 54 rfl rfl rfl [(53, some 10)] (by kernel_rfl) (fun af wf hbw hf Kf hKf => ?_)
              obtain ⟨g53, _⟩ := hf
              have h53 : af.tmps[53]?.getD undef = .bool false := g53
              clear g53
              go_simp
              exact hKf _ _ (Below.refl _ _) rfl
            | 12, _ =>
              refine StepOk.yes _ 55 rfl rfl rfl rfl (fun _ _ h => h) [(10, none)] (by kernel_rfl) (fun af wf hbw hf Kf hKf => ?_)
              obtain ⟨g10, _⟩ := hf
              have h10 : af.tmps[10]?.getD undef = .slice A9 L.length L.length := g10
              clear g10
              go_simp
              exact hKf _ _ (Below.refl _ _) rfl
            | 13, _ =>
              refine StepOk.yes _ 56 rfl rfl rfl rfl (fun _ _ h => h) [(55, some 12)] (by kernel_rfl) (fun af wf hbw hf Kf hKf => ?_)
              obtain ⟨g55, _⟩ := hf
              have h55 : af.tmps[55]?.getD undef = .slice A9 L.length L.length := g55
              clear g55
              have hcv := conv L.length _ (Rd.below (Rd.drew hR9) hbw)
              go_simp
              exact hKf _ _ (Below.refl _ _) rfl
            | 14, _ =>
              refine StepOk.yes _ 57 rfl rfl rfl rfl (fun _ _ h => h) [(1, none)] (by kernel_rfl) (fun af wf hbw hf Kf hKf => ?_)
              obtain ⟨g1, _⟩ := hf
              have h1 : af.tmps[1]?.getD undef = .slice (some ⟨b, off, none⟩) N cl := g1
              clear g1
              go_simp
              exact hKf _ _ (Below.refl _ _) rfl
            | 15, _ =>
              refine StepOk.yes _ 58 rfl rfl rfl rfl (fun _ _ h => h) [(8, none)] (by kernel_rfl) (fun af wf hbw hf Kf hKf => ?_)
              obtain ⟨g8, _⟩ := hf
              have h8 : af.tmps[8]?.getD undef = .int .i64 (m : Int) := g8
              clear g8
              go_simp
              exact hKf _ _ (Below.refl _ _) rfl
            | 16, _ =>
              refine StepOk.yes _ 59 rfl rfl rfl rfl (fun _ _ h => h) [(57, some 14), (58, some 15)] (by kernel_rfl) (fun af wf hbw hf Kf hKf => ?_)
              obtain ⟨g57, g58, _⟩ := hf
              have h57 : af.tmps[57]?.getD undef = .slice (some ⟨b, off, none⟩) N cl := g57
              have h58 : af.tmps[58]?.getD undef = .int .i64 (m : Int) := g58
              clear g57 g58
              go_simp
              exact hKf _ _ (Below.refl _ _) rfl
            | 17, _ =>
              refine StepOk.yes _ 60 rfl rfl rfl rfl (fun _ _ h => h) [(59, some 16)] (by kernel_rfl) (fun af wf hbw hf Kf hKf => ?_)
              obtain ⟨g59, _⟩ := hf
              have h59 : af.tmps[59]?.getD undef = .pointer (some ⟨b, off + m * 2, none⟩) := g59
              clear g59
              go_simp
              exact hKf _ _ (Below.refl _ _) rfl
            | 18, _ =>
              refine StepOk.yes _ 61 rfl rfl rfl rfl (fun _ _ h => h) [(60, some 17)] (by kernel_rfl) (fun af wf hbw hf Kf hKf => ?_)
              obtain ⟨g60, _⟩ := hf
              have h60 : af.tmps[60]?.getD undef = .pointer (some ⟨b, off + m * 2 + 1, none⟩) := g60
              clear g60
              have cB9 := (Below.cell (p := ⟨b, off + m * 2 + 1, none⟩) hbw hb2).trans cc1
              go_simp
              exact hKf _ _ (Below.refl _ _) rfl
            | 19, _ =>
              refine StepOk.yes _ 62 rfl rfl rfl rfl (fun _ _ h => h) [(61, some 18)] (by kernel_rfl) (fun af wf hbw hf Kf hKf => ?_)
              obtain ⟨g61, _⟩ := hf
              have h61 : af.tmps[61]?.getD undef = .slice Ad L.length cd := g61
              clear g61
              have hcv := conv cd _ (Rd.below (Rd.drew hRx) hbw)
              go_simp
              exact hKf _ _ (Below.refl _ _) rfl
            | 20, _ =>
              refine StepOk.yes _ 63 rfl rfl rfl rfl (fun _ _ h => h) [(56, some 13), (62, some 19)] (by kernel_rfl) (fun af wf hbw hf Kf hKf => ?_)
              obtain ⟨g56, g62, _⟩ := hf
              have h56 : af.tmps[56]?.getD undef = .string (str L) := g56
              have h62 : af.tmps[62]?.getD undef = .string (str L) := g62
              clear g56 g62
              go_simp
              exact hKf _ _ (Below.refl _ _) rfl
            | 21, _ =>
              refine StepOk.plain _ 64 rfl rfl rfl [(54, some 11), (63, some 20)] (by kernel_rfl) (fun af wf hbw hf Kf hKf => ?_)
              obtain ⟨g54, g63, _⟩ := hf
              have h54 : af.tmps[54]?.getD undef = .bool false := g54
              have h63 : af.tmps[63]?.getD undef = .bool false := g63
              clear g54 g63
              go_simp
              exact hKf _ _ (Below.refl _ _) rfl
            | i + 22, h => exact absurd h (by show ¬ (i + 22 < 22); omega)
          · intro af wF hbF hdF hsF hbaseF hfactF
            obtain ⟨T, dsF⟩ := af
            obtain rfl : dsF = _ := hdF
            have e0 := hbaseF 0 (not_dst (by kernel_rfl))
            simp only [List.getElem?_toArray, List.getElem?_cons_zero, Option.getD_some] at e0
            have e1 := hbaseF 1 (not_dst (by kernel_rfl))
            simp only [List.getElem?_toArray, List.getElem?_cons_zero, List.getElem?_cons_succ, Option.getD_some] at e1
            have e2 := hbaseF 2 (not_dst (by kernel_rfl))
            simp only [List.getElem?_toArray, List.getElem?_cons_zero, List.getElem?_cons_succ, Option.getD_some] at e2
            have e3 := hbaseF 3 (not_dst (by kernel_rfl))
            simp only [List.getElem?_toArray, List.getElem?_cons_zero, List.getElem?_cons_succ, Option.getD_some] at e3
            have e4 := hbaseF 4 (not_dst (by kernel_rfl))
            simp only [List.getElem?_toArray, List.getElem?_cons_zero, List.getElem?_cons_succ, Option.getD_some] at e4
            have e5 := hbaseF 5 (not_dst (by kernel_rfl))
            simp only [List.getElem?_toArray, List.getElem?_cons_zero, List.getElem?_cons_succ, Option.getD_some] at e5
            have e6 := hbaseF 6 (not_dst (by kernel_rfl))
            simp only [List.getElem?_toArray, List.getElem?_cons_zero, List.getElem?_cons_succ, Option.getD_some] at e6
            have e7 := hbaseF 7 (not_dst (by kernel_rfl))
            simp only [List.getElem?_toArray, List.getElem?_cons_zero, List.getElem?_cons_succ, Option.getD_some] at e7
            have e8 := hbaseF 8 (not_dst (by kernel_rfl))
            simp only [List.getElem?_toArray, List.getElem?_cons_zero, List.getElem?_cons_succ, Option.getD_some] at e8
            have e9 := hbaseF 9 (not_dst (by kernel_rfl))
            simp only [List.getElem?_toArray, List.getElem?_cons_zero, List.getElem?_cons_succ, Option.getD_some] at e9
            have e10 := hbaseF 10 (not_dst (by kernel_rfl))
            simp only [List.getElem?_toArray, List.getElem?_cons_zero, List.getElem?_cons_succ, Option.getD_some] at e10
            have e11 := hbaseF 11 (not_dst (by kernel_rfl))
            simp only [List.getElem?_toArray, List.getElem?_cons_zero, List.getElem?_cons_succ, Option.getD_some] at e11
            have e12 := hbaseF 12 (not_dst (by kernel_rfl))
            simp only [List.getElem?_toArray, List.getElem?_cons_zero, List.getElem?_cons_succ, Option.getD_some] at e12
            have e13 := hbaseF 13 (not_dst (by kernel_rfl))
            simp only [List.getElem?_toArray, List.getElem?_cons_zero, List.getElem?_cons_succ, Option.getD_some] at e13
            have e14 := hbaseF 14 (not_dst (by kernel_rfl))
            simp only [List.getElem?_toArray, List.getElem?_cons_zero, List.getElem?_cons_succ, Option.getD_some] at e14
            have e15 := hbaseF 15 (not_dst (by kernel_rfl))
            simp only [List.getElem?_toArray, List.getElem?_cons_zero, List.getElem?_cons_succ, Option.getD_some] at e15
            have e16 := hbaseF 16 (not_dst (by kernel_rfl))
            simp only [List.getElem?_toArray, List.getElem?_cons_zero, List.getElem?_cons_succ, Option.getD_some] at e16
            have e17 := hbaseF 17 (not_dst (by kernel_rfl))
            simp only [List.getElem?_toArray, List.getElem?_cons_zero, List.getElem?_cons_succ, Option.getD_some] at e17
            have e18 := hbaseF 18 (not_dst (by kernel_rfl))
            simp only [List.getElem?_toArray, List.getElem?_cons_zero, List.getElem?_cons_succ, Option.getD_some] at e18
            have e19 := hbaseF 19 (not_dst (by kernel_rfl))
            simp only [List.getElem?_toArray, List.getElem?_cons_zero, List.getElem?_cons_succ, Option.getD_some] at e19
            have e20 := hbaseF 20 (not_dst (by kernel_rfl))
            simp only [List.getElem?_toArray, List.getElem?_cons_zero, List.getElem?_cons_succ, Option.getD_some] at e20
            have e21 := hbaseF 21 (not_dst (by kernel_rfl))
            simp only [List.getElem?_toArray, List.getElem?_cons_zero, List.getElem?_cons_succ, Option.getD_some] at e21
            have e22 := hbaseF 22 (not_dst (by kernel_rfl))
            simp only [List.getElem?_toArray, List.getElem?_cons_zero, List.getElem?_cons_succ, Option.getD_some] at e22
            have e23 := hbaseF 23 (not_dst (by kernel_rfl))
            simp only [List.getElem?_toArray, List.getElem?_cons_zero, List.getElem?_cons_succ, Option.getD_some] at e23
            have e24 := hbaseF 24 (not_dst (by kernel_rfl))
            simp only [List.getElem?_toArray, List.getElem?_cons_zero, List.getElem?_cons_succ, Option.getD_some] at e24
            have e25 := hbaseF 25 (not_dst (by kernel_rfl))
            simp only [List.getElem?_toArray, List.getElem?_cons_zero, List.getElem?_cons_succ, Option.getD_some] at e25
            have e26 := hbaseF 26 (not_dst (by kernel_rfl))
            simp only [List.getElem?_toArray, List.getElem?_cons_zero, List.getElem?_cons_succ, Option.getD_some] at e26
            have e27 := hbaseF 27 (not_dst (by kernel_rfl))
            simp only [List.getElem?_toArray, List.getElem?_cons_zero, List.getElem?_cons_succ, Option.getD_some] at e27
            have e28 := hbaseF 28 (not_dst (by kernel_rfl))
            simp only [List.getElem?_toArray, List.getElem?_cons_zero, List.getElem?_cons_succ, Option.getD_some] at e28
            have e29 := hbaseF 29 (not_dst (by kernel_rfl))
            simp only [List.getElem?_toArray, List.getElem?_cons_zero, List.getElem?_cons_succ, Option.getD_some] at e29
            have e30 := hbaseF 30 (not_dst (by kernel_rfl))
            simp only [List.getElem?_toArray, List.getElem?_cons_zero, List.getElem?_cons_succ, Option.getD_some] at e30
            have e31 := hbaseF 31 (not_dst (by kernel_rfl))
            simp only [List.getElem?_toArray, List.getElem?_cons_zero, List.getElem?_cons_succ, Option.getD_some] at e31
            have e32 := hbaseF 32 (not_dst (by kernel_rfl))
            simp only [List.getElem?_toArray, List.getElem?_cons_zero, List.getElem?_cons_succ, Option.getD_some] at e32
            have e33 := hbaseF 33 (not_dst (by kernel_rfl))
            simp only [List.getElem?_toArray, List.getElem?_cons_zero, List.getElem?_cons_succ, Option.getD_some] at e33
            have e34 := hbaseF 34 (not_dst (by kernel_rfl))
            simp only [List.getElem?_toArray, List.getElem?_cons_zero, List.getElem?_cons_succ, Option.getD_some] at e34
            have e35 := hbaseF 35 (not_dst (by kernel_rfl))
            simp only [List.getElem?_toArray, List.getElem?_cons_zero, List.getElem?_cons_succ, Option.getD_some] at e35
            have e36 := hbaseF 36 (not_dst (by kernel_rfl))
            simp only [List.getElem?_toArray, List.getElem?_cons_zero, List.getElem?_cons_succ, Option.getD_some] at e36
            have e37 := hbaseF 37 (not_dst (by kernel_rfl))
            simp only [List.getElem?_toArray, List.getElem?_cons_zero, List.getElem?_cons_succ, Option.getD_some] at e37
            have e38 := hbaseF 38 (not_dst (by kernel_rfl))
            simp only [List.getElem?_toArray, List.getElem?_cons_zero, List.getElem?_cons_succ, Option.getD_some] at e38
            have e39 := hbaseF 39 (not_dst (by kernel_rfl))
            simp only [List.getElem?_toArray, List.getElem?_cons_zero, List.getElem?_cons_succ, Option.getD_some] at e39
            have e40 := hbaseF 40 (not_dst (by kernel_rfl))
            simp only [List.getElem?_toArray, List.getElem?_cons_zero, List.getElem?_cons_succ, Option.getD_some] at e40
            have e41 := hbaseF 41 (not_dst (by kernel_rfl))
            simp only [List.getElem?_toArray, List.getElem?_cons_zero, List.getElem?_cons_succ, Option.getD_some] at e41
            have e42 := hbaseF 42 (not_dst (by kernel_rfl))
            simp only [List.getElem?_toArray, List.getElem?_cons_zero, List.getElem?_cons_succ, Option.getD_some] at e42
            have e65 := hbaseF 65 (not_dst (by kernel_rfl))
            simp only [List.getElem?_toArray, List.getElem?_cons_zero, List.getElem?_cons_succ, Option.getD_some] at e65
            have e66 := hbaseF 66 (not_dst (by kernel_rfl))
            simp only [List.getElem?_toArray, List.getElem?_cons_zero, List.getElem?_cons_succ, Option.getD_some] at e66
            have e67 := hbaseF 67 (not_dst (by kernel_rfl))
            simp only [List.getElem?_toArray, List.getElem?_cons_zero, List.getElem?_cons_succ, Option.getD_some] at e67
            have e68 := hbaseF 68 (not_dst (by kernel_rfl))
            simp only [List.getElem?_toArray, List.getElem?_cons_zero, List.getElem?_cons_succ, Option.getD_some] at e68
            have e69 := hbaseF 69 (not_dst (by kernel_rfl))
            simp only [List.getElem?_toArray, List.getElem?_cons_zero, List.getElem?_cons_succ, Option.getD_some] at e69
            have e70 := hbaseF 70 (not_dst (by kernel_rfl))
            simp only [List.getElem?_toArray, List.getElem?_cons_zero, List.getElem?_cons_succ, Option.getD_some] at e70
            have e71 := hbaseF 71 (not_dst (by kernel_rfl))
            simp only [List.getElem?_toArray, List.getElem?_cons_zero, List.getElem?_cons_succ, Option.getD_some] at e71
            have e72 := hbaseF 72 (not_dst (by kernel_rfl))
            simp only [List.getElem?_toArray, List.getElem?_cons_zero, List.getElem?_cons_succ, Option.getD_some] at e72
            have e73 := hbaseF 73 (not_dst (by kernel_rfl))
            simp only [List.getElem?_toArray, List.getElem?_cons_zero, List.getElem?_cons_succ, Option.getD_some] at e73
            have e74 := hbaseF 74 (not_dst (by kernel_rfl))
            simp only [List.getElem?_toArray, List.getElem?_cons_zero, List.getElem?_cons_succ, Option.getD_some] at e74
            have e75 := hbaseF 75 (not_dst (by kernel_rfl))
            simp only [List.getElem?_toArray, List.getElem?_cons_zero, List.getElem?_cons_succ, Option.getD_some] at e75
            have e64 := hfactF 21 64 (by decide) rfl
            replace e64 : T[64]?.getD undef = .bool false := e64
            clear hbaseF hfactF
            have hT : T = #[T[0]?.getD undef, T[1]?.getD undef, T[2]?.getD undef, T[3]?.getD undef, T[4]?.getD undef, T[5]?.getD undef, T[6]?.getD undef, T[7]?.getD undef, T[8]?.getD undef, T[9]?.getD undef, T[10]?.getD undef, T[11]?.getD undef, T[12]?.getD undef, T[13]?.getD undef, T[14]?.getD undef, T[15]?.getD undef, T[16]?.getD undef, T[17]?.getD undef, T[18]?.getD undef, T[19]?.getD undef, T[20]?.getD undef, T[21]?.getD undef, T[22]?.getD undef, T[23]?.getD undef, T[24]?.getD undef, T[25]?.getD undef, T[26]?.getD undef, T[27]?.getD undef, T[28]?.getD undef, T[29]?.getD undef, T[30]?.getD undef, T[31]?.getD undef, T[32]?.getD undef, T[33]?.getD undef, T[34]?.getD undef, T[35]?.getD undef, T[36]?.getD undef, T[37]?.getD undef, T[38]?.getD undef, T[39]?.getD undef, T[40]?.getD undef, T[41]?.getD undef, T[42]?.getD undef, T[43]?.getD undef, T[44]?.getD undef, T[45]?.getD undef, T[46]?.getD undef, T[47]?.getD undef, T[48]?.getD undef, T[49]?.getD undef, T[50]?.getD undef, T[51]?.getD undef, T[52]?.getD undef, T[53]?.getD undef, T[54]?.getD undef, T[55]?.getD undef, T[56]?.getD undef, T[57]?.getD undef, T[58]?.getD undef, T[59]?.getD undef, T[60]?.getD undef, T[61]?.getD undef, T[62]?.getD undef, T[63]?.getD undef, T[64]?.getD undef, T[65]?.getD undef, T[66]?.getD undef, T[67]?.getD undef, T[68]?.getD undef, T[69]?.getD undef, T[70]?.getD undef, T[71]?.getD undef, T[72]?.getD undef, T[73]?.getD undef, T[74]?.getD undef, T[75]?.getD undef] := arr_eq T 76 hsF
            clear hsF
            rw [e0] at hT; clear e0
            rw [e1] at hT; clear e1
            rw [e2] at hT; clear e2
            rw [e3] at hT; clear e3
            rw [e4] at hT; clear e4
            rw [e5] at hT; clear e5
            rw [e6] at hT; clear e6
            rw [e7] at hT; clear e7
            rw [e8] at hT; clear e8
            rw [e9] at hT; clear e9
            rw [e10] at hT; clear e10
            rw [e11] at hT; clear e11
            rw [e12] at hT; clear e12
            rw [e13] at hT; clear e13
            rw [e14] at hT; clear e14
            rw [e15] at hT; clear e15
            rw [e16] at hT; clear e16
            rw [e17] at hT; clear e17
            rw [e18] at hT; clear e18
            rw [e19] at hT; clear e19
            rw [e20] at hT; clear e20
            rw [e21] at hT; clear e21
            rw [e22] at hT; clear e22
            rw [e23] at hT; clear e23
            rw [e24] at hT; clear e24
            rw [e25] at hT; clear e25
            rw [e26] at hT; clear e26
            rw [e27] at hT; clear e27
            rw [e28] at hT; clear e28
            rw [e29] at hT; clear e29
            rw [e30] at hT; clear e30
            rw [e31] at hT; clear e31
            rw [e32] at hT; clear e32
            rw [e33] at hT; clear e33
            rw [e34] at hT; clear e34
            rw [e35] at hT; clear e35
            rw [e36] at hT; clear e36
            rw [e37] at hT; clear e37
            rw [e38] at hT; clear e38
            rw [e39] at hT; clear e39
            rw [e40] at hT; clear e40
            rw [e41] at hT; clear e41
            rw [e42] at hT; clear e42
            generalize T[43]?.getD undef = u43 at hT
            generalize T[44]?.getD undef = u44 at hT
            generalize T[45]?.getD undef = u45 at hT
            generalize T[46]?.getD undef = u46 at hT
            generalize T[47]?.getD undef = u47 at hT
            generalize T[48]?.getD undef = u48 at hT
            generalize T[49]?.getD undef = u49 at hT
            generalize T[50]?.getD undef = u50 at hT
            generalize T[51]?.getD undef = u51 at hT
            generalize T[52]?.getD undef = u52 at hT
            generalize T[53]?.getD undef = u53 at hT
            generalize T[54]?.getD undef = u54 at hT
            generalize T[55]?.getD undef = u55 at hT
            generalize T[56]?.getD undef = u56 at hT
            generalize T[57]?.getD undef = u57 at hT
            generalize T[58]?.getD undef = u58 at hT
            generalize T[59]?.getD undef = u59 at hT
            generalize T[60]?.getD undef = u60 at hT
            generalize T[61]?.getD undef = u61 at hT
            generalize T[62]?.getD undef = u62 at hT
            generalize T[63]?.getD undef = u63 at hT
            rw [e64] at hT; clear e64
            rw [e65] at hT; clear e65
            rw [e66] at hT; clear e66
            rw [e67] at hT; clear e67
            rw [e68] at hT; clear e68
            rw [e69] at hT; clear e69
            rw [e70] at hT; clear e70
            rw [e71] at hT; clear e71
            rw [e72] at hT; clear e72
            rw [e73] at hT; clear e73
            rw [e74] at hT; clear e74
            rw [e75] at hT; clear e75
            subst hT
            go_wp2_with fail
            go_roundw
            case rel => exact ⟨m + 1 + 1, by omega, by go_num, by rw [HST.out]; go_num, (by (have q_hbF := Below.size hbF; (try simp at q_hbF); have q_hb1 := Below.size hb1; (try simp at q_hb1); have q_hbel := Below.size hbel; (try simp at q_hbel); repeat (first | exact Below.refl _ _ | (refine Below.trans ?_ (Below.mono hbF (by first | omega | (simp; omega) | simp))) | (refine Below.trans ?_ (Below.mono hb1 (by first | omega | (simp; omega) | simp))) | (refine Below.trans ?_ (Below.mono hbel (by first | omega | (simp; omega) | simp))) | (refine Below.setCell ?_ (by first | omega | (simp; omega) | simp) _) | (refine Below.alloc ?_ (by first | omega | (simp; omega) | simp) _) | apply Below.drew | apply below_drewN)))⟩
            case measure => simp [intOf] <;> omega
      · by_cases h2 : j = N + 1
        · subst h2
          have e0 : ((N + 1 : Nat) : Int) - 1 = (N : Int) := by omega
          rw [e0]
          have hget := get_no A 256 cp c N 6 wr (.inr rfl) (object_out A 256 cp p c N wr hrr hn hcp HM.out (by omega))
          have hth : thereL l N = false := thereL_out (by omega)
          have hmin : min (N + 1 - 1) N = N := by omega
          have hmin2 : min (N + 1 + 1 - 1) N = N := by omega
          have HST := Lib.hid (show usedW z p (min (N + 1 + 1 - 1) N) = usedW z p N by rw [hmin2])
          rw [hmin]
          have hU := usedW_le z p N
          obtain ⟨U, hU0⟩ : ∃ U, U = usedW z p N := ⟨_, rfl⟩
          rw [← hU0] at HST hU ⊢
          clear e0 hmin hmin2 hU0
          go_wp2_with fail
          refine hget.mono ?_
          rintro e w1 ⟨rfl, hb1⟩
          have hthere := rthere_any Al N cl B T l N w1 (hrl.below (hbel.trans (hb1.mono hbz)))
          rw [hth] at hthere
          go_wp2_with fail
          refine hthere.mono ?_
          rintro e w2 ⟨rfl, rfl⟩
          go_wp2_with fail
          go_roundw
          case rel => exact ⟨N + 1 + 1, by omega, by go_num, (by rw [HST.out]), (by (have q_hb1 := Below.size hb1; (try simp at q_hb1); have q_hbel := Below.size hbel; (try simp at q_hbel); repeat (first | exact Below.refl _ _ | (refine Below.trans ?_ (Below.mono hb1 (by first | omega | (simp; omega) | simp))) | (refine Below.trans ?_ (Below.mono hbel (by first | omega | (simp; omega) | simp))) | (refine Below.setCell ?_ (by first | omega | (simp; omega) | simp) _) | (refine Below.alloc ?_ (by first | omega | (simp; omega) | simp) _) | apply Below.drew | apply below_drewN)))⟩
          case measure => simp [intOf] <;> omega
        · obtain rfl : j = N + 2 := by omega
          obtain ⟨b, off, rfl, hb, _⟩ := hrr.2 (by omega)
          have hU := used_yes hc b off cp p wr hrr hn hcp HM.out
          have hC := check_any (some ⟨b, off, none⟩) 256 cp p c wr hrr hn hcp
          rw [HM.out, if_pos rfl] at hC
          have hmin : min (N + 2 - 1) N = N := by omega
          rw [hmin]
          obtain ⟨U, hU0⟩ : ∃ U, U = usedW z p N := ⟨_, rfl⟩
          rw [← hU0] at hU ⊢
          have e0 : ((N + 2 : Nat) : Int) - 1 = (N : Int) + 1 := by omega
          rw [e0]
          clear hmin hU0 e0
          go_wp2_with fail
          refine hU.mono ?_
          rintro e w1 ⟨rfl, rfl⟩
          go_wp2_with fail
          refine hC.mono ?_
          rintro e w1 ⟨rfl, rfl⟩
          go_wp2_with fail
          go_ret
          exact ⟨rfl, (by (have q_hbel := Below.size hbel; (try simp at q_hbel); repeat (first | exact Below.refl _ _ | (refine Below.trans ?_ (Below.mono hbel (by first | omega | (simp; omega) | simp))) | (refine Below.setCell ?_ (by first | omega | (simp; omega) | simp) _) | (refine Below.alloc ?_ (by first | omega | (simp; omega) | simp) _) | apply Below.drew | apply below_drewN)))⟩
end Go.Proofs.Ytnocjjaebemkoaa
