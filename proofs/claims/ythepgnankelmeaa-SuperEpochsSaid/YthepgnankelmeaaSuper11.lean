/- The walk of the statement SuperEpochs. -/
import Derived.Test.YthepgnankelmeaaSuper10
import Derived.Test.YthepgnankelmeaaSuper8
import Derived.Deep.DeepCutAuto
namespace Go.Proofs.Ythepgnankelmeaa
open Go.RowKit

theorem eAt_out {p t k : Int} (h : k < 0 ∨ epochsI p ≤ k) : eAt p t k < 0 := by
  unfold eAt
  rw [if_neg (by omega)]
  omega

theorem FreshG.besides {α β : Type} {E : Enc α} {E2 : Enc β} {T T2 : TypeId} {B B2 : Nat} {w w1 : World} {v v0 : Value} {l : List α} {bs : List β} (h : FreshG E T B w v l) (h0 : FreshG E2 T2 B2 w v0 bs) (hT : T ≠ T2) (hg : w.grownBy w1 v0.ownBlock) : FreshG E T B w1 v l := by
  obtain ⟨A, c, e, hown⟩ := h
  obtain ⟨_, _, _, hown0⟩ := h0
  exact ⟨A, c, e, hown.kept hg (own_other hown hown0 hT)⟩
theorem FreshG.rd {α : Type} {E : Enc α} {T : TypeId} {B : Nat} {w : World} {A : Option Addr} {n c : Nat} {l : List α} (h : FreshG E T B w (.slice A n c) l) (hn : l.length = n) : RdG E w A n l := by
  obtain ⟨A', c', e, hR, _⟩ := h.rdn n hn
  injection e with e1 _ _
  rw [e1]; exact hR
set_option maxRecDepth 100000 in
set_option maxHeartbeats 8000000 in
theorem law_sepochs (p t k0 : Int) (Al : Option Addr) (nl cl : Nat) (l : List Nat) (w : World) (hr : RdG u64E w Al nl l) (hv : ∀ v ∈ l, v ≤ 18446744073709551615) :
    Calls Try.prog 11 #[.agg #[.int .i64 p, .int .i64 t], .slice Al nl cl, .int .i64 k0] w fun e w' => e = .returned (.bool true) ∧ Below w.heap.size w w' := by
  have B0 : Blk (w.alloc (.cells #[.int .i64 p, .int .i64 t] 23)) w.heap.size 23 #[.int .i64 p, .int .i64 t] := Blk.new _ _ _
  cases hm : gmay p t
  · go_enter Try.func11, Try.ntmps11
    go_wp2_with fail
    refine (grmay_any p t _).mono ?_
    rintro e w1 ⟨rfl, hb1⟩
    rw [hm]
    have B1 := B0.on hb1
    have c1 := B1.cell
    go_wp2_with fail
    refine (block_no p t k0 Al nl cl _ (.inl hm)).mono ?_
    rintro e w2 ⟨rfl, hb2⟩
    have B2 := B1.on hb2
    have c2 := B2.cell
    go_wp2_with fail
    refine (epochs_few p t none 0 0 _ (.inl hm)).mono ?_
    rintro e w3 ⟨rfl, hb3⟩
    go_wp2_with fail
    refine (sawake_any _).mono ?_
    rintro e w4 ⟨rfl, hb4⟩
    go_wp2_with fail
    go_ret
    exact ⟨rfl, (by (have q_hb4 := Below.size hb4; (try simp at q_hb4); have q_hb3 := Below.size hb3; (try simp at q_hb3); have q_hb2 := Below.size hb2; (try simp at q_hb2); have q_hb1 := Below.size hb1; (try simp at q_hb1); repeat (first | exact Below.refl _ _ | (refine Below.trans ?_ (Below.mono hb4 (by first | omega | (simp; omega) | simp))) | (refine Below.trans ?_ (Below.mono hb3 (by first | omega | (simp; omega) | simp))) | (refine Below.trans ?_ (Below.mono hb2 (by first | omega | (simp; omega) | simp))) | (refine Below.trans ?_ (Below.mono hb1 (by first | omega | (simp; omega) | simp))) | (refine Below.setCell ?_ (by first | omega | (simp; omega) | simp) _) | (refine Below.alloc ?_ (by first | omega | (simp; omega) | simp) _) | apply Below.drew | apply below_drewN)))⟩
  · obtain ⟨s1, s2, s3, s4⟩ := nSeal_eq hm
    obtain ⟨h1, h2, h3, h4⟩ := gmay_true hm
    obtain ⟨_, _, _, _, e0, e3⟩ := geo_range h1 h2
    obtain ⟨E, hE⟩ := Int.eq_ofNat_of_zero_le (show 0 ≤ epochsI p by omega)
    have HE := Lib.hid hE
    have hE1 : 1 ≤ E := by omega
    have hE3 : E ≤ 3 := by omega
    have S4 : nSeal p ≤ 32 * E := by omega
    obtain ⟨S, hS⟩ : ∃ S, S = nSeal p := ⟨_, rfl⟩
    rw [← hS] at s1 s2 s3 S4
    have HS := Lib.hid hS
    have S1 := Lib.hid s1
    clear s1 s4 hE e0 e3 hS
    have hmk : ∀ W : World, (Instr.makeSlice 61 (.int .i64 (S : Int)) (.int .i64 (S : Int))).run Try.prog W = .ok (.slice (some ⟨W.heap.size, 0, none⟩) S S) (W.alloc (.cells (madeCells #[.int .u64 0] S) 46)) :=
      make_u64 (P := Try.prog) Try.underlying61 info64 .i64 .i64 S (by omega)
    obtain ⟨L, hL⟩ : ∃ L, L = nallL l S := ⟨_, rfl⟩
    have hLl : L.length = S := by rw [hL, nallL_len]
    have HV := Lib.hid (show ∀ v ∈ L, v ≤ 18446744073709551615 by rw [hL]; exact nallL_le hv)
    have HL := Lib.hid hL
    have HB := Lib.hid (epochs_back L S E hLl S4 HV.out)
    clear hL hv
    go_enter Try.func11, Try.ntmps11
    go_wp2_with fail
    refine (grmay_any p t _).mono ?_
    rintro e w1 ⟨rfl, hb1⟩
    rw [hm]
    have B1 := B0.on hb1
    have c1 := B1.cell
    have b1 : Below w.heap.size w w1 := (by (have q_hb1 := Below.size hb1; (try simp at q_hb1); repeat (first | exact Below.refl _ _ | (refine Below.trans ?_ (Below.mono hb1 (by first | omega | (simp; omega) | simp))) | (refine Below.setCell ?_ (by first | omega | (simp; omega) | simp) _) | (refine Below.alloc ?_ (by first | omega | (simp; omega) | simp) _) | apply Below.drew | apply below_drewN)))
    go_wp2_with fail
    refine (rsealed_any p t _ h1 h2).mono ?_
    rintro e w2 ⟨rfl, hb2⟩
    rw [← S1.out]
    have B2 := B1.on hb2
    have b2 := b1.trans (hb2.mono b1.size)
    have hr2 := hr.on b2 (Nat.le_refl _)
    clear B0 B1 c1 hb1 hb2 b1 hr
    go_upto_region 6 with fail
    clear hmk
    obtain ⟨cs, hcp, hcs⟩ := run_copy_u64 (P := Try.prog) (dT := 61) S (Blk.new w2 46 (madeCells #[.int .u64 0] S)) (made_u64 S) (hr2.alloc (.cells (madeCells #[.int .u64 0] S) 46)) Try.underlying61 info64 3 S cl
    have hK := Kept.row (g := w2.heap.size) (w2.alloc (.cells (madeCells #[.int .u64 0] S) 46)) cs
    have Bc := (Blk.new w2 46 (madeCells #[.int .u64 0] S)).row cs
    have z2 := B2.lt
    have B3 := (B2.alloc (.cells (madeCells #[.int .u64 0] S) 46)).kept hK (by simp; omega)
    have b3 : Below w.heap.size w ((w2.alloc (.cells (madeCells #[.int .u64 0] S) 46)).setRow w2.heap.size cs) :=
      (show Below w.heap.size w (w2.alloc (.cells (madeCells #[.int .u64 0] S) 46)) from (by (have q_b2 := Below.size b2; (try simp at q_b2); repeat (first | exact Below.refl _ _ | (refine Below.trans ?_ (Below.mono b2 (by first | omega | (simp; omega) | simp))) | (refine Below.setCell ?_ (by first | omega | (simp; omega) | simp) _) | (refine Below.alloc ?_ (by first | omega | (simp; omega) | simp) _) | apply Below.drew | apply below_drewN)))).trans (hK.below (by have := b2.size; simp; omega) (by have := b2.size; simp; omega))
    go_upto_region 7 with fail
    obtain ⟨w3, hw3⟩ : ∃ w3, w3 = (w2.alloc (.cells (madeCells #[.int .u64 0] S) 46)).setRow w2.heap.size cs := ⟨_, rfl⟩
    rw [← hw3] at Bc B3 b3 ⊢
    have F3 : FreshG u64E 46 w2.heap.size w3 (.slice (some ⟨w2.heap.size, 0, none⟩) S S) L := FreshG.of_blk Bc (Nat.le_refl _) (by unfold maxLen; omega) hLl (by rw [HL.out]; exact hcs)
    have hX := F3.from_ (B' := w.heap.size + 1) (by omega)
    obtain ⟨Ao, hv1⟩ : ∃ Ao : Option Addr, Ao = some ⟨w2.heap.size, 0, none⟩ := ⟨_, rfl⟩
    rw [← hv1] at hX ⊢
    clear hv1 hw3 F3 Bc hK hcp hcs hr2 B2 b2 z2
    go_wp2_with fail
    go_loopw [12, 13] (fun v i wr => ∃ k : Nat, k ≤ E + 2 ∧ i = .int .i64 ((k : Int) - 1) ∧ OwnSS 5 39 (w.heap.size + 1) wr v (blksL L (min (k - 1) E)) ∧ Blk wr w.heap.size 23 #[.int .i64 p, .int .i64 t] ∧ FreshG u64E 46 (w.heap.size + 1) wr (.slice Ao S S) L ∧ Below w.heap.size w wr) (fun _ i _ => E + 2 - (intOf i + 1).toNat)
    case atStart => exact ⟨0, by omega, rfl, by rw [show min (0 - 1) E = 0 from by omega]; exact OwnSS.nil _, B3, hX, b3⟩
    case round =>
      clear B3 hX b3
      obtain ⟨k, hk, rfl, hO, hB, hX, hbr⟩ := hrel
      have cc := hB.cell
      by_cases hk0 : k = 0
      · subst hk0
        rw [show ((0 : Nat) : Int) - 1 = -1 from rfl]
        have hO' : OwnSS 5 39 (w.heap.size + 1) wr u12 (blksL L (min (1 - 1) E)) := hO
        have hEI : (-1 : Int) ≤ E := by omega
        clear hO
        go_wp2_with fail
        refine (repochs_any p t _ h1 h2).mono ?_
        rintro e w4 ⟨rfl, hb4⟩
        rw [HE.out]
        have B4 := hB.on hb4
        have c4 := B4.cell
        go_wp2_with fail
        refine (block_no p t (-1) Ao S S _ (.inr (.inr (eAt_out (.inl (by omega)))))).mono ?_
        rintro e w5 ⟨rfl, hb5⟩
        have hO5 := (hO'.below hb4).below hb5
        have B5 := B4.on hb5
        have hX5 := (hX.below hb4).below hb5
        have b5 : Below w.heap.size w w5 := (by (have q_hb5 := Below.size hb5; (try simp at q_hb5); have q_hb4 := Below.size hb4; (try simp at q_hb4); have q_hbr := Below.size hbr; (try simp at q_hbr); repeat (first | exact Below.refl _ _ | (refine Below.trans ?_ (Below.mono hb5 (by first | omega | (simp; omega) | simp))) | (refine Below.trans ?_ (Below.mono hb4 (by first | omega | (simp; omega) | simp))) | (refine Below.trans ?_ (Below.mono hbr (by first | omega | (simp; omega) | simp))) | (refine Below.setCell ?_ (by first | omega | (simp; omega) | simp) _) | (refine Below.alloc ?_ (by first | omega | (simp; omega) | simp) _) | apply Below.drew | apply below_drewN)))
        clear hO' hB B4 c4 cc hX hb4 hb5 hbr
        go_wp2_with fail
        go_roundw
        case rel => exact ⟨1, by omega, by go_num, hO5, B5, hX5, b5⟩
        case measure => simp [intOf] <;> omega
      · obtain ⟨j, rfl⟩ : ∃ j, k = j + 1 := ⟨k - 1, by omega⟩
        rw [show ((j + 1 : Nat) : Int) - 1 = (j : Int) from by omega]
        rw [show j + 1 - 1 = j from by omega] at hO
        clear hk0
        rcases Nat.lt_trichotomy j E with hjE | hjE | hjE
        · rw [show min j E = j from by omega] at hO
          have hst := Lib.hid (show blksL L (min (j + 2 - 1) E) = blksL L j ++ [bytes8 (nums32 L j)] by rw [show min (j + 2 - 1) E = j + 1 from by omega, blksL_succ])
          have hj0 : ¬ (j : Int) < 0 := by omega
          have hjI : (j : Int) ≤ E := by omega
          have hjI2 : (j : Int) < E := by omega
          have hjne : ¬ (j : Int) = E := by omega
          have hjb : ((j : Int) == (E : Int)) = false := by simp; omega
          have hjd : decide ((j : Int) < 0) = false := by simp
          go_wp2_with fail
          refine (repochs_any p t _ h1 h2).mono ?_
          rintro e w4 ⟨rfl, hb4⟩
          rw [HE.out]
          have B4 := hB.on hb4
          have c4 := B4.cell
          have hX4 := hX.below hb4
          go_wp2_with fail
          refine (block_yes p t j Ao S S L _ (hX4.rd hLl) (Nat.le_refl _) hm S1.out (by rw [HE.out]; exact hjI2) HV.out).mono ?_
          rintro e w5 ⟨vb, rfl, hF5, hb5⟩
          have B5 := B4.on hb5
          have c5 := B5.cell
          obtain ⟨A5, c5', rfl, hR5, _, hc51, hc52⟩ := hF5.rdn 256 (by rw [bytes8_len, nums32_len])
          go_wp2_with fail
          refine (repochs_any p t _ h1 h2).mono ?_
          rintro e w6 ⟨rfl, hb6⟩
          rw [HE.out]
          have hO6 := ((hO.below hb4).below hb5).below hb6
          have B6 := B5.on hb6
          have hX6 := (hX4.below hb5).below hb6
          have hF6 := hF5.below hb6
          have hR6 := hR5.below hb6
          have hz4 := (hbr.trans (hb4.mono hbr.size)).size
          have b6 : Below w.heap.size w w6 := (by (have q_hb6 := Below.size hb6; (try simp at q_hb6); have q_hb5 := Below.size hb5; (try simp at q_hb5); have q_hb4 := Below.size hb4; (try simp at q_hb4); have q_hbr := Below.size hbr; (try simp at q_hbr); repeat (first | exact Below.refl _ _ | (refine Below.trans ?_ (Below.mono hb6 (by first | omega | (simp; omega) | simp))) | (refine Below.trans ?_ (Below.mono hb5 (by first | omega | (simp; omega) | simp))) | (refine Below.trans ?_ (Below.mono hb4 (by first | omega | (simp; omega) | simp))) | (refine Below.trans ?_ (Below.mono hbr (by first | omega | (simp; omega) | simp))) | (refine Below.setCell ?_ (by first | omega | (simp; omega) | simp) _) | (refine Below.alloc ?_ (by first | omega | (simp; omega) | simp) _) | apply Below.drew | apply below_drewN)))
          have zB := hB.lt
          have zb4 := hb4.size
          have hF7 := hF6.from_ (B' := w.heap.size + 1) (by omega)
          clear hO hB B4 B5 c4 c5 cc hX hX4 hb4 hb5 hb6 hbr hF5 hF6 hR5 hz4 zB zb4
          go_wp2_with fail
          refine wp_flows [(fun y_ _ => y_ = .int .i64 0), (fun y_ _ => y_ = .bool false), (fun y_ _ => y_ = .bool false), (fun y_ _ => y_ = .slice A5 256 c5'), (fun y_ _ => y_ = .string (str (bytes8 (nums32 L j)))), (fun y_ _ => y_ = .int .i64 (j : Int)), (fun y_ _ => y_ = .slice Ao S S), (IsB (256) (bytes8 (nums32 L j))), (fun y_ _ => y_ = .string (str (bytes8 (nums32 L j)))), (fun y_ _ => y_ = .bool false), (fun y_ _ => y_ = .bool false)] (by kernel_rfl) ⟨Stab.eq _, Stab.eq _, Stab.eq _, Stab.eq _, Stab.eq _, Stab.eq _, Stab.eq _, Stab.b _ _, Stab.eq _, Stab.eq _, Stab.eq _, trivial⟩ (by kernel_rfl) (by rfl) ?_ ?_
          · intro kq hkq
            match kq, hkq with
            | 0, _ =>
              refine StepOk.plain _ 84 rfl rfl rfl [(15, none)] (by kernel_rfl) (fun af wf hbw hf Kf hKf => ?_)
              obtain ⟨g15, _⟩ := hf
              have h15 : af.tmps[15]?.getD undef = .int .i64 0 := g15
              clear g15
              go_simp
              exact hKf _ _ (Below.refl _ _) rfl
            | 1, _ =>
              refine StepOk.plain _ 85 rfl rfl rfl [(84, some 0)] (by kernel_rfl) (fun af wf hbw hf Kf hKf => ?_)
              obtain ⟨g84, _⟩ := hf
              have h84 : af.tmps[84]?.getD undef = .int .i64 0 := g84
              clear g84
              go_simp
              exact hKf _ _ (Below.refl _ _) rfl
            | 2, _ =>
              refine StepOk.plain _ 86 rfl rfl rfl [(85, some 1)] (by kernel_rfl) (fun af wf hbw hf Kf hKf => ?_)
              obtain ⟨g85, _⟩ := hf
              have h85 : af.tmps[85]?.getD undef = .bool false := g85
              clear g85
              go_simp
              exact hKf _ _ (Below.refl _ _) rfl
            | 3, _ =>
              refine StepOk.yes _ 87 rfl rfl rfl rfl (fun _ _ h => h) [(14, none)] (by kernel_rfl) (fun af wf hbw hf Kf hKf => ?_)
              obtain ⟨g14, _⟩ := hf
              have h14 : af.tmps[14]?.getD undef = .slice A5 256 c5' := g14
              clear g14
              go_simp
              exact hKf _ _ (Below.refl _ _) rfl
            | 4, _ =>
              refine StepOk.yes _ 88 rfl rfl rfl rfl (fun _ _ h => h) [(87, some 3)] (by kernel_rfl) (fun af wf hbw hf Kf hKf => ?_)
              obtain ⟨g87, _⟩ := hf
              have h87 : af.tmps[87]?.getD undef = .slice A5 256 c5' := g87
              clear g87
              have hcv := conv c5' _ (Rd.below (Rd.drew (hR6)) hbw)
              go_simp
              exact hKf _ _ (Below.refl _ _) rfl
            | 5, _ =>
              refine StepOk.yes _ 89 rfl rfl rfl rfl (fun _ _ h => h) [(13, none)] (by kernel_rfl) (fun af wf hbw hf Kf hKf => ?_)
              obtain ⟨g13, _⟩ := hf
              have h13 : af.tmps[13]?.getD undef = .int .i64 (j : Int) := g13
              clear g13
              go_simp
              exact hKf _ _ (Below.refl _ _) rfl
            | 6, _ =>
              refine StepOk.yes _ 90 rfl rfl rfl rfl (fun _ _ h => h) [(11, none)] (by kernel_rfl) (fun af wf hbw hf Kf hKf => ?_)
              obtain ⟨g11, _⟩ := hf
              have h11 : af.tmps[11]?.getD undef = .slice Ao S S := g11
              clear g11
              go_simp
              exact hKf _ _ (Below.refl _ _) rfl
            | 7, _ =>
              refine StepOk.yes _ 91 rfl rfl rfl rfl (fun _ _ h => h) [(89, some 5), (90, some 6)] (by kernel_rfl) (fun af wf hbw hf Kf hKf => ?_)
              obtain ⟨g89, g90, _⟩ := hf
              have h89 : af.tmps[89]?.getD undef = .int .i64 (j : Int) := g89
              have h90 : af.tmps[90]?.getD undef = .slice Ao S S := g90
              clear g89 g90
              go_simp
              refine (rblock_any j Ao S S L _ (RdG.below (RdG.drew (hX6.rd hLl)) hbw) (by omega) (by omega) HV.out).mono ?_
              rintro e wN ⟨r, rfl, hF, hb⟩
              exact hKf _ _ (hb) (IsB.of hF (by rw [bytes8_len, nums32_len]))
            | 8, _ =>
              refine StepOk.yes _ 92 rfl rfl rfl rfl (fun _ _ h => h) [(91, some 7)] (by kernel_rfl) (fun af wf hbw hf Kf hKf => ?_)
              obtain ⟨g91, _⟩ := hf
              obtain ⟨A91, c91, h91, hR91, hn91, hm91⟩ : IsB (256) (bytes8 (nums32 L j)) (af.tmps[91]?.getD undef) wf := g91
              have hcv := conv c91 _ hR91
              go_simp
              exact hKf _ _ (Below.refl _ _) rfl
            | 9, _ =>
              refine StepOk.yes _ 93 rfl rfl rfl rfl (fun _ _ h => h) [(88, some 4), (92, some 8)] (by kernel_rfl) (fun af wf hbw hf Kf hKf => ?_)
              obtain ⟨g88, g92, _⟩ := hf
              have h88 : af.tmps[88]?.getD undef = .string (str (bytes8 (nums32 L j))) := g88
              have h92 : af.tmps[92]?.getD undef = .string (str (bytes8 (nums32 L j))) := g92
              clear g88 g92
              go_simp
              exact hKf _ _ (Below.refl _ _) rfl
            | 10, _ =>
              refine StepOk.plain _ 94 rfl rfl rfl [(86, some 2), (93, some 9)] (by kernel_rfl) (fun af wf hbw hf Kf hKf => ?_)
              obtain ⟨g86, g93, _⟩ := hf
              have h86 : af.tmps[86]?.getD undef = .bool false := g86
              have h93 : af.tmps[93]?.getD undef = .bool false := g93
              clear g86 g93
              go_simp
              exact hKf _ _ (Below.refl _ _) rfl
            | i + 11, h => exact absurd h (by show ¬ (i + 11 < 11); omega)
          · intro af wF hbF hdF hsF hbaseF hfactF
            obtain ⟨T, dsF⟩ := af
            obtain rfl : dsF = _ := hdF
            have e0 := hbaseF 0 (not_dst (by kernel_rfl))
            simp only [List.getElem?_toArray, List.getElem?_cons_zero, Option.getD_some] at e0
            have e1 := hbaseF 1 (not_dst (by kernel_rfl))
            simp only [List.getElem?_toArray, List.getElem?_cons_zero, List.getElem?_cons_succ, Option.getD_some] at e1
            have e2 := hbaseF 2 (not_dst (by kernel_rfl))
            simp only [List.getElem?_toArray, List.getElem?_cons_zero, List.getElem?_cons_succ, Option.getD_some] at e2
            have e3 := hbaseF 3 (not_dst (by kernel_rfl))
            simp only [List.getElem?_toArray, List.getElem?_cons_zero, List.getElem?_cons_succ, Option.getD_some] at e3
            have e4 := hbaseF 4 (not_dst (by kernel_rfl))
            simp only [List.getElem?_toArray, List.getElem?_cons_zero, List.getElem?_cons_succ, Option.getD_some] at e4
            have e5 := hbaseF 5 (not_dst (by kernel_rfl))
            simp only [List.getElem?_toArray, List.getElem?_cons_zero, List.getElem?_cons_succ, Option.getD_some] at e5
            have e6 := hbaseF 6 (not_dst (by kernel_rfl))
            simp only [List.getElem?_toArray, List.getElem?_cons_zero, List.getElem?_cons_succ, Option.getD_some] at e6
            have e7 := hbaseF 7 (not_dst (by kernel_rfl))
            simp only [List.getElem?_toArray, List.getElem?_cons_zero, List.getElem?_cons_succ, Option.getD_some] at e7
            have e8 := hbaseF 8 (not_dst (by kernel_rfl))
            simp only [List.getElem?_toArray, List.getElem?_cons_zero, List.getElem?_cons_succ, Option.getD_some] at e8
            have e9 := hbaseF 9 (not_dst (by kernel_rfl))
            simp only [List.getElem?_toArray, List.getElem?_cons_zero, List.getElem?_cons_succ, Option.getD_some] at e9
            have e10 := hbaseF 10 (not_dst (by kernel_rfl))
            simp only [List.getElem?_toArray, List.getElem?_cons_zero, List.getElem?_cons_succ, Option.getD_some] at e10
            have e11 := hbaseF 11 (not_dst (by kernel_rfl))
            simp only [List.getElem?_toArray, List.getElem?_cons_zero, List.getElem?_cons_succ, Option.getD_some] at e11
            have e12 := hbaseF 12 (not_dst (by kernel_rfl))
            simp only [List.getElem?_toArray, List.getElem?_cons_zero, List.getElem?_cons_succ, Option.getD_some] at e12
            have e13 := hbaseF 13 (not_dst (by kernel_rfl))
            simp only [List.getElem?_toArray, List.getElem?_cons_zero, List.getElem?_cons_succ, Option.getD_some] at e13
            have e14 := hbaseF 14 (not_dst (by kernel_rfl))
            simp only [List.getElem?_toArray, List.getElem?_cons_zero, List.getElem?_cons_succ, Option.getD_some] at e14
            have e15 := hbaseF 15 (not_dst (by kernel_rfl))
            simp only [List.getElem?_toArray, List.getElem?_cons_zero, List.getElem?_cons_succ, Option.getD_some] at e15
            have e16 := hbaseF 16 (not_dst (by kernel_rfl))
            simp only [List.getElem?_toArray, List.getElem?_cons_zero, List.getElem?_cons_succ, Option.getD_some] at e16
            have e17 := hbaseF 17 (not_dst (by kernel_rfl))
            simp only [List.getElem?_toArray, List.getElem?_cons_zero, List.getElem?_cons_succ, Option.getD_some] at e17
            have e18 := hbaseF 18 (not_dst (by kernel_rfl))
            simp only [List.getElem?_toArray, List.getElem?_cons_zero, List.getElem?_cons_succ, Option.getD_some] at e18
            have e19 := hbaseF 19 (not_dst (by kernel_rfl))
            simp only [List.getElem?_toArray, List.getElem?_cons_zero, List.getElem?_cons_succ, Option.getD_some] at e19
            have e20 := hbaseF 20 (not_dst (by kernel_rfl))
            simp only [List.getElem?_toArray, List.getElem?_cons_zero, List.getElem?_cons_succ, Option.getD_some] at e20
            have e21 := hbaseF 21 (not_dst (by kernel_rfl))
            simp only [List.getElem?_toArray, List.getElem?_cons_zero, List.getElem?_cons_succ, Option.getD_some] at e21
            have e22 := hbaseF 22 (not_dst (by kernel_rfl))
            simp only [List.getElem?_toArray, List.getElem?_cons_zero, List.getElem?_cons_succ, Option.getD_some] at e22
            have e23 := hbaseF 23 (not_dst (by kernel_rfl))
            simp only [List.getElem?_toArray, List.getElem?_cons_zero, List.getElem?_cons_succ, Option.getD_some] at e23
            have e24 := hbaseF 24 (not_dst (by kernel_rfl))
            simp only [List.getElem?_toArray, List.getElem?_cons_zero, List.getElem?_cons_succ, Option.getD_some] at e24
            have e25 := hbaseF 25 (not_dst (by kernel_rfl))
            simp only [List.getElem?_toArray, List.getElem?_cons_zero, List.getElem?_cons_succ, Option.getD_some] at e25
            have e26 := hbaseF 26 (not_dst (by kernel_rfl))
            simp only [List.getElem?_toArray, List.getElem?_cons_zero, List.getElem?_cons_succ, Option.getD_some] at e26
            have e27 := hbaseF 27 (not_dst (by kernel_rfl))
            simp only [List.getElem?_toArray, List.getElem?_cons_zero, List.getElem?_cons_succ, Option.getD_some] at e27
            have e28 := hbaseF 28 (not_dst (by kernel_rfl))
            simp only [List.getElem?_toArray, List.getElem?_cons_zero, List.getElem?_cons_succ, Option.getD_some] at e28
            have e29 := hbaseF 29 (not_dst (by kernel_rfl))
            simp only [List.getElem?_toArray, List.getElem?_cons_zero, List.getElem?_cons_succ, Option.getD_some] at e29
            have e30 := hbaseF 30 (not_dst (by kernel_rfl))
            simp only [List.getElem?_toArray, List.getElem?_cons_zero, List.getElem?_cons_succ, Option.getD_some] at e30
            have e31 := hbaseF 31 (not_dst (by kernel_rfl))
            simp only [List.getElem?_toArray, List.getElem?_cons_zero, List.getElem?_cons_succ, Option.getD_some] at e31
            have e32 := hbaseF 32 (not_dst (by kernel_rfl))
            simp only [List.getElem?_toArray, List.getElem?_cons_zero, List.getElem?_cons_succ, Option.getD_some] at e32
            have e33 := hbaseF 33 (not_dst (by kernel_rfl))
            simp only [List.getElem?_toArray, List.getElem?_cons_zero, List.getElem?_cons_succ, Option.getD_some] at e33
            have e34 := hbaseF 34 (not_dst (by kernel_rfl))
            simp only [List.getElem?_toArray, List.getElem?_cons_zero, List.getElem?_cons_succ, Option.getD_some] at e34
            have e35 := hbaseF 35 (not_dst (by kernel_rfl))
            simp only [List.getElem?_toArray, List.getElem?_cons_zero, List.getElem?_cons_succ, Option.getD_some] at e35
            have e36 := hbaseF 36 (not_dst (by kernel_rfl))
            simp only [List.getElem?_toArray, List.getElem?_cons_zero, List.getElem?_cons_succ, Option.getD_some] at e36
            have e37 := hbaseF 37 (not_dst (by kernel_rfl))
            simp only [List.getElem?_toArray, List.getElem?_cons_zero, List.getElem?_cons_succ, Option.getD_some] at e37
            have e38 := hbaseF 38 (not_dst (by kernel_rfl))
            simp only [List.getElem?_toArray, List.getElem?_cons_zero, List.getElem?_cons_succ, Option.getD_some] at e38
            have e39 := hbaseF 39 (not_dst (by kernel_rfl))
            simp only [List.getElem?_toArray, List.getElem?_cons_zero, List.getElem?_cons_succ, Option.getD_some] at e39
            have e40 := hbaseF 40 (not_dst (by kernel_rfl))
            simp only [List.getElem?_toArray, List.getElem?_cons_zero, List.getElem?_cons_succ, Option.getD_some] at e40
            have e41 := hbaseF 41 (not_dst (by kernel_rfl))
            simp only [List.getElem?_toArray, List.getElem?_cons_zero, List.getElem?_cons_succ, Option.getD_some] at e41
            have e42 := hbaseF 42 (not_dst (by kernel_rfl))
            simp only [List.getElem?_toArray, List.getElem?_cons_zero, List.getElem?_cons_succ, Option.getD_some] at e42
            have e43 := hbaseF 43 (not_dst (by kernel_rfl))
            simp only [List.getElem?_toArray, List.getElem?_cons_zero, List.getElem?_cons_succ, Option.getD_some] at e43
            have e44 := hbaseF 44 (not_dst (by kernel_rfl))
            simp only [List.getElem?_toArray, List.getElem?_cons_zero, List.getElem?_cons_succ, Option.getD_some] at e44
            have e45 := hbaseF 45 (not_dst (by kernel_rfl))
            simp only [List.getElem?_toArray, List.getElem?_cons_zero, List.getElem?_cons_succ, Option.getD_some] at e45
            have e46 := hbaseF 46 (not_dst (by kernel_rfl))
            simp only [List.getElem?_toArray, List.getElem?_cons_zero, List.getElem?_cons_succ, Option.getD_some] at e46
            have e47 := hbaseF 47 (not_dst (by kernel_rfl))
            simp only [List.getElem?_toArray, List.getElem?_cons_zero, List.getElem?_cons_succ, Option.getD_some] at e47
            have e48 := hbaseF 48 (not_dst (by kernel_rfl))
            simp only [List.getElem?_toArray, List.getElem?_cons_zero, List.getElem?_cons_succ, Option.getD_some] at e48
            have e49 := hbaseF 49 (not_dst (by kernel_rfl))
            simp only [List.getElem?_toArray, List.getElem?_cons_zero, List.getElem?_cons_succ, Option.getD_some] at e49
            have e50 := hbaseF 50 (not_dst (by kernel_rfl))
            simp only [List.getElem?_toArray, List.getElem?_cons_zero, List.getElem?_cons_succ, Option.getD_some] at e50
            have e51 := hbaseF 51 (not_dst (by kernel_rfl))
            simp only [List.getElem?_toArray, List.getElem?_cons_zero, List.getElem?_cons_succ, Option.getD_some] at e51
            have e52 := hbaseF 52 (not_dst (by kernel_rfl))
            simp only [List.getElem?_toArray, List.getElem?_cons_zero, List.getElem?_cons_succ, Option.getD_some] at e52
            have e53 := hbaseF 53 (not_dst (by kernel_rfl))
            simp only [List.getElem?_toArray, List.getElem?_cons_zero, List.getElem?_cons_succ, Option.getD_some] at e53
            have e54 := hbaseF 54 (not_dst (by kernel_rfl))
            simp only [List.getElem?_toArray, List.getElem?_cons_zero, List.getElem?_cons_succ, Option.getD_some] at e54
            have e55 := hbaseF 55 (not_dst (by kernel_rfl))
            simp only [List.getElem?_toArray, List.getElem?_cons_zero, List.getElem?_cons_succ, Option.getD_some] at e55
            have e56 := hbaseF 56 (not_dst (by kernel_rfl))
            simp only [List.getElem?_toArray, List.getElem?_cons_zero, List.getElem?_cons_succ, Option.getD_some] at e56
            have e57 := hbaseF 57 (not_dst (by kernel_rfl))
            simp only [List.getElem?_toArray, List.getElem?_cons_zero, List.getElem?_cons_succ, Option.getD_some] at e57
            have e58 := hbaseF 58 (not_dst (by kernel_rfl))
            simp only [List.getElem?_toArray, List.getElem?_cons_zero, List.getElem?_cons_succ, Option.getD_some] at e58
            have e59 := hbaseF 59 (not_dst (by kernel_rfl))
            simp only [List.getElem?_toArray, List.getElem?_cons_zero, List.getElem?_cons_succ, Option.getD_some] at e59
            have e60 := hbaseF 60 (not_dst (by kernel_rfl))
            simp only [List.getElem?_toArray, List.getElem?_cons_zero, List.getElem?_cons_succ, Option.getD_some] at e60
            have e61 := hbaseF 61 (not_dst (by kernel_rfl))
            simp only [List.getElem?_toArray, List.getElem?_cons_zero, List.getElem?_cons_succ, Option.getD_some] at e61
            have e62 := hbaseF 62 (not_dst (by kernel_rfl))
            simp only [List.getElem?_toArray, List.getElem?_cons_zero, List.getElem?_cons_succ, Option.getD_some] at e62
            have e63 := hbaseF 63 (not_dst (by kernel_rfl))
            simp only [List.getElem?_toArray, List.getElem?_cons_zero, List.getElem?_cons_succ, Option.getD_some] at e63
            have e64 := hbaseF 64 (not_dst (by kernel_rfl))
            simp only [List.getElem?_toArray, List.getElem?_cons_zero, List.getElem?_cons_succ, Option.getD_some] at e64
            have e65 := hbaseF 65 (not_dst (by kernel_rfl))
            simp only [List.getElem?_toArray, List.getElem?_cons_zero, List.getElem?_cons_succ, Option.getD_some] at e65
            have e66 := hbaseF 66 (not_dst (by kernel_rfl))
            simp only [List.getElem?_toArray, List.getElem?_cons_zero, List.getElem?_cons_succ, Option.getD_some] at e66
            have e67 := hbaseF 67 (not_dst (by kernel_rfl))
            simp only [List.getElem?_toArray, List.getElem?_cons_zero, List.getElem?_cons_succ, Option.getD_some] at e67
            have e68 := hbaseF 68 (not_dst (by kernel_rfl))
            simp only [List.getElem?_toArray, List.getElem?_cons_zero, List.getElem?_cons_succ, Option.getD_some] at e68
            have e69 := hbaseF 69 (not_dst (by kernel_rfl))
            simp only [List.getElem?_toArray, List.getElem?_cons_zero, List.getElem?_cons_succ, Option.getD_some] at e69
            have e70 := hbaseF 70 (not_dst (by kernel_rfl))
            simp only [List.getElem?_toArray, List.getElem?_cons_zero, List.getElem?_cons_succ, Option.getD_some] at e70
            have e71 := hbaseF 71 (not_dst (by kernel_rfl))
            simp only [List.getElem?_toArray, List.getElem?_cons_zero, List.getElem?_cons_succ, Option.getD_some] at e71
            have e72 := hbaseF 72 (not_dst (by kernel_rfl))
            simp only [List.getElem?_toArray, List.getElem?_cons_zero, List.getElem?_cons_succ, Option.getD_some] at e72
            have e73 := hbaseF 73 (not_dst (by kernel_rfl))
            simp only [List.getElem?_toArray, List.getElem?_cons_zero, List.getElem?_cons_succ, Option.getD_some] at e73
            have e74 := hbaseF 74 (not_dst (by kernel_rfl))
            simp only [List.getElem?_toArray, List.getElem?_cons_zero, List.getElem?_cons_succ, Option.getD_some] at e74
            have e75 := hbaseF 75 (not_dst (by kernel_rfl))
            simp only [List.getElem?_toArray, List.getElem?_cons_zero, List.getElem?_cons_succ, Option.getD_some] at e75
            have e76 := hbaseF 76 (not_dst (by kernel_rfl))
            simp only [List.getElem?_toArray, List.getElem?_cons_zero, List.getElem?_cons_succ, Option.getD_some] at e76
            have e77 := hbaseF 77 (not_dst (by kernel_rfl))
            simp only [List.getElem?_toArray, List.getElem?_cons_zero, List.getElem?_cons_succ, Option.getD_some] at e77
            have e78 := hbaseF 78 (not_dst (by kernel_rfl))
            simp only [List.getElem?_toArray, List.getElem?_cons_zero, List.getElem?_cons_succ, Option.getD_some] at e78
            have e79 := hbaseF 79 (not_dst (by kernel_rfl))
            simp only [List.getElem?_toArray, List.getElem?_cons_zero, List.getElem?_cons_succ, Option.getD_some] at e79
            have e80 := hbaseF 80 (not_dst (by kernel_rfl))
            simp only [List.getElem?_toArray, List.getElem?_cons_zero, List.getElem?_cons_succ, Option.getD_some] at e80
            have e81 := hbaseF 81 (not_dst (by kernel_rfl))
            simp only [List.getElem?_toArray, List.getElem?_cons_zero, List.getElem?_cons_succ, Option.getD_some] at e81
            have e82 := hbaseF 82 (not_dst (by kernel_rfl))
            simp only [List.getElem?_toArray, List.getElem?_cons_zero, List.getElem?_cons_succ, Option.getD_some] at e82
            have e83 := hbaseF 83 (not_dst (by kernel_rfl))
            simp only [List.getElem?_toArray, List.getElem?_cons_zero, List.getElem?_cons_succ, Option.getD_some] at e83
            have e95 := hbaseF 95 (not_dst (by kernel_rfl))
            simp only [List.getElem?_toArray, List.getElem?_cons_zero, List.getElem?_cons_succ, Option.getD_some] at e95
            have e96 := hbaseF 96 (not_dst (by kernel_rfl))
            simp only [List.getElem?_toArray, List.getElem?_cons_zero, List.getElem?_cons_succ, Option.getD_some] at e96
            have e97 := hbaseF 97 (not_dst (by kernel_rfl))
            simp only [List.getElem?_toArray, List.getElem?_cons_zero, List.getElem?_cons_succ, Option.getD_some] at e97
            have e98 := hbaseF 98 (not_dst (by kernel_rfl))
            simp only [List.getElem?_toArray, List.getElem?_cons_zero, List.getElem?_cons_succ, Option.getD_some] at e98
            have e99 := hbaseF 99 (not_dst (by kernel_rfl))
            simp only [List.getElem?_toArray, List.getElem?_cons_zero, List.getElem?_cons_succ, Option.getD_some] at e99
            have e100 := hbaseF 100 (not_dst (by kernel_rfl))
            simp only [List.getElem?_toArray, List.getElem?_cons_zero, List.getElem?_cons_succ, Option.getD_some] at e100
            have e101 := hbaseF 101 (not_dst (by kernel_rfl))
            simp only [List.getElem?_toArray, List.getElem?_cons_zero, List.getElem?_cons_succ, Option.getD_some] at e101
            have e102 := hbaseF 102 (not_dst (by kernel_rfl))
            simp only [List.getElem?_toArray, List.getElem?_cons_zero, List.getElem?_cons_succ, Option.getD_some] at e102
            have e103 := hbaseF 103 (not_dst (by kernel_rfl))
            simp only [List.getElem?_toArray, List.getElem?_cons_zero, List.getElem?_cons_succ, Option.getD_some] at e103
            have e104 := hbaseF 104 (not_dst (by kernel_rfl))
            simp only [List.getElem?_toArray, List.getElem?_cons_zero, List.getElem?_cons_succ, Option.getD_some] at e104
            have e105 := hbaseF 105 (not_dst (by kernel_rfl))
            simp only [List.getElem?_toArray, List.getElem?_cons_zero, List.getElem?_cons_succ, Option.getD_some] at e105
            have e106 := hbaseF 106 (not_dst (by kernel_rfl))
            simp only [List.getElem?_toArray, List.getElem?_cons_zero, List.getElem?_cons_succ, Option.getD_some] at e106
            have e107 := hbaseF 107 (not_dst (by kernel_rfl))
            simp only [List.getElem?_toArray, List.getElem?_cons_zero, List.getElem?_cons_succ, Option.getD_some] at e107
            have e108 := hbaseF 108 (not_dst (by kernel_rfl))
            simp only [List.getElem?_toArray, List.getElem?_cons_zero, List.getElem?_cons_succ, Option.getD_some] at e108
            have e109 := hbaseF 109 (not_dst (by kernel_rfl))
            simp only [List.getElem?_toArray, List.getElem?_cons_zero, List.getElem?_cons_succ, Option.getD_some] at e109
            have e110 := hbaseF 110 (not_dst (by kernel_rfl))
            simp only [List.getElem?_toArray, List.getElem?_cons_zero, List.getElem?_cons_succ, Option.getD_some] at e110
            have e111 := hbaseF 111 (not_dst (by kernel_rfl))
            simp only [List.getElem?_toArray, List.getElem?_cons_zero, List.getElem?_cons_succ, Option.getD_some] at e111
            have e112 := hbaseF 112 (not_dst (by kernel_rfl))
            simp only [List.getElem?_toArray, List.getElem?_cons_zero, List.getElem?_cons_succ, Option.getD_some] at e112
            have e113 := hbaseF 113 (not_dst (by kernel_rfl))
            simp only [List.getElem?_toArray, List.getElem?_cons_zero, List.getElem?_cons_succ, Option.getD_some] at e113
            have e114 := hbaseF 114 (not_dst (by kernel_rfl))
            simp only [List.getElem?_toArray, List.getElem?_cons_zero, List.getElem?_cons_succ, Option.getD_some] at e114
            have e115 := hbaseF 115 (not_dst (by kernel_rfl))
            simp only [List.getElem?_toArray, List.getElem?_cons_zero, List.getElem?_cons_succ, Option.getD_some] at e115
            have e116 := hbaseF 116 (not_dst (by kernel_rfl))
            simp only [List.getElem?_toArray, List.getElem?_cons_zero, List.getElem?_cons_succ, Option.getD_some] at e116
            have e117 := hbaseF 117 (not_dst (by kernel_rfl))
            simp only [List.getElem?_toArray, List.getElem?_cons_zero, List.getElem?_cons_succ, Option.getD_some] at e117
            have e118 := hbaseF 118 (not_dst (by kernel_rfl))
            simp only [List.getElem?_toArray, List.getElem?_cons_zero, List.getElem?_cons_succ, Option.getD_some] at e118
            have e119 := hbaseF 119 (not_dst (by kernel_rfl))
            simp only [List.getElem?_toArray, List.getElem?_cons_zero, List.getElem?_cons_succ, Option.getD_some] at e119
            have e120 := hbaseF 120 (not_dst (by kernel_rfl))
            simp only [List.getElem?_toArray, List.getElem?_cons_zero, List.getElem?_cons_succ, Option.getD_some] at e120
            have e121 := hbaseF 121 (not_dst (by kernel_rfl))
            simp only [List.getElem?_toArray, List.getElem?_cons_zero, List.getElem?_cons_succ, Option.getD_some] at e121
            have e122 := hbaseF 122 (not_dst (by kernel_rfl))
            simp only [List.getElem?_toArray, List.getElem?_cons_zero, List.getElem?_cons_succ, Option.getD_some] at e122
            have e123 := hbaseF 123 (not_dst (by kernel_rfl))
            simp only [List.getElem?_toArray, List.getElem?_cons_zero, List.getElem?_cons_succ, Option.getD_some] at e123
            have e124 := hbaseF 124 (not_dst (by kernel_rfl))
            simp only [List.getElem?_toArray, List.getElem?_cons_zero, List.getElem?_cons_succ, Option.getD_some] at e124
            have e125 := hbaseF 125 (not_dst (by kernel_rfl))
            simp only [List.getElem?_toArray, List.getElem?_cons_zero, List.getElem?_cons_succ, Option.getD_some] at e125
            have e126 := hbaseF 126 (not_dst (by kernel_rfl))
            simp only [List.getElem?_toArray, List.getElem?_cons_zero, List.getElem?_cons_succ, Option.getD_some] at e126
            have e127 := hbaseF 127 (not_dst (by kernel_rfl))
            simp only [List.getElem?_toArray, List.getElem?_cons_zero, List.getElem?_cons_succ, Option.getD_some] at e127
            have e128 := hbaseF 128 (not_dst (by kernel_rfl))
            simp only [List.getElem?_toArray, List.getElem?_cons_zero, List.getElem?_cons_succ, Option.getD_some] at e128
            have e129 := hbaseF 129 (not_dst (by kernel_rfl))
            simp only [List.getElem?_toArray, List.getElem?_cons_zero, List.getElem?_cons_succ, Option.getD_some] at e129
            have e130 := hbaseF 130 (not_dst (by kernel_rfl))
            simp only [List.getElem?_toArray, List.getElem?_cons_zero, List.getElem?_cons_succ, Option.getD_some] at e130
            have e131 := hbaseF 131 (not_dst (by kernel_rfl))
            simp only [List.getElem?_toArray, List.getElem?_cons_zero, List.getElem?_cons_succ, Option.getD_some] at e131
            have e132 := hbaseF 132 (not_dst (by kernel_rfl))
            simp only [List.getElem?_toArray, List.getElem?_cons_zero, List.getElem?_cons_succ, Option.getD_some] at e132
            have e133 := hbaseF 133 (not_dst (by kernel_rfl))
            simp only [List.getElem?_toArray, List.getElem?_cons_zero, List.getElem?_cons_succ, Option.getD_some] at e133
            have e134 := hbaseF 134 (not_dst (by kernel_rfl))
            simp only [List.getElem?_toArray, List.getElem?_cons_zero, List.getElem?_cons_succ, Option.getD_some] at e134
            have e135 := hbaseF 135 (not_dst (by kernel_rfl))
            simp only [List.getElem?_toArray, List.getElem?_cons_zero, List.getElem?_cons_succ, Option.getD_some] at e135
            have e136 := hbaseF 136 (not_dst (by kernel_rfl))
            simp only [List.getElem?_toArray, List.getElem?_cons_zero, List.getElem?_cons_succ, Option.getD_some] at e136
            have e137 := hbaseF 137 (not_dst (by kernel_rfl))
            simp only [List.getElem?_toArray, List.getElem?_cons_zero, List.getElem?_cons_succ, Option.getD_some] at e137
            have e138 := hbaseF 138 (not_dst (by kernel_rfl))
            simp only [List.getElem?_toArray, List.getElem?_cons_zero, List.getElem?_cons_succ, Option.getD_some] at e138
            have e139 := hbaseF 139 (not_dst (by kernel_rfl))
            simp only [List.getElem?_toArray, List.getElem?_cons_zero, List.getElem?_cons_succ, Option.getD_some] at e139
            have e140 := hbaseF 140 (not_dst (by kernel_rfl))
            simp only [List.getElem?_toArray, List.getElem?_cons_zero, List.getElem?_cons_succ, Option.getD_some] at e140
            have e94 := hfactF 10 94 (by decide) rfl
            replace e94 : T[94]?.getD undef = .bool false := e94
            clear hbaseF hfactF
            have hT : T = #[T[0]?.getD undef, T[1]?.getD undef, T[2]?.getD undef, T[3]?.getD undef, T[4]?.getD undef, T[5]?.getD undef, T[6]?.getD undef, T[7]?.getD undef, T[8]?.getD undef, T[9]?.getD undef, T[10]?.getD undef, T[11]?.getD undef, T[12]?.getD undef, T[13]?.getD undef, T[14]?.getD undef, T[15]?.getD undef, T[16]?.getD undef, T[17]?.getD undef, T[18]?.getD undef, T[19]?.getD undef, T[20]?.getD undef, T[21]?.getD undef, T[22]?.getD undef, T[23]?.getD undef, T[24]?.getD undef, T[25]?.getD undef, T[26]?.getD undef, T[27]?.getD undef, T[28]?.getD undef, T[29]?.getD undef, T[30]?.getD undef, T[31]?.getD undef, T[32]?.getD undef, T[33]?.getD undef, T[34]?.getD undef, T[35]?.getD undef, T[36]?.getD undef, T[37]?.getD undef, T[38]?.getD undef, T[39]?.getD undef, T[40]?.getD undef, T[41]?.getD undef, T[42]?.getD undef, T[43]?.getD undef, T[44]?.getD undef, T[45]?.getD undef, T[46]?.getD undef, T[47]?.getD undef, T[48]?.getD undef, T[49]?.getD undef, T[50]?.getD undef, T[51]?.getD undef, T[52]?.getD undef, T[53]?.getD undef, T[54]?.getD undef, T[55]?.getD undef, T[56]?.getD undef, T[57]?.getD undef, T[58]?.getD undef, T[59]?.getD undef, T[60]?.getD undef, T[61]?.getD undef, T[62]?.getD undef, T[63]?.getD undef, T[64]?.getD undef, T[65]?.getD undef, T[66]?.getD undef, T[67]?.getD undef, T[68]?.getD undef, T[69]?.getD undef, T[70]?.getD undef, T[71]?.getD undef, T[72]?.getD undef, T[73]?.getD undef, T[74]?.getD undef, T[75]?.getD undef, T[76]?.getD undef, T[77]?.getD undef, T[78]?.getD undef, T[79]?.getD undef, T[80]?.getD undef, T[81]?.getD undef, T[82]?.getD undef, T[83]?.getD undef, T[84]?.getD undef, T[85]?.getD undef, T[86]?.getD undef, T[87]?.getD undef, T[88]?.getD undef, T[89]?.getD undef, T[90]?.getD undef, T[91]?.getD undef, T[92]?.getD undef, T[93]?.getD undef, T[94]?.getD undef, T[95]?.getD undef, T[96]?.getD undef, T[97]?.getD undef, T[98]?.getD undef, T[99]?.getD undef, T[100]?.getD undef, T[101]?.getD undef, T[102]?.getD undef, T[103]?.getD undef, T[104]?.getD undef, T[105]?.getD undef, T[106]?.getD undef, T[107]?.getD undef, T[108]?.getD undef, T[109]?.getD undef, T[110]?.getD undef, T[111]?.getD undef, T[112]?.getD undef, T[113]?.getD undef, T[114]?.getD undef, T[115]?.getD undef, T[116]?.getD undef, T[117]?.getD undef, T[118]?.getD undef, T[119]?.getD undef, T[120]?.getD undef, T[121]?.getD undef, T[122]?.getD undef, T[123]?.getD undef, T[124]?.getD undef, T[125]?.getD undef, T[126]?.getD undef, T[127]?.getD undef, T[128]?.getD undef, T[129]?.getD undef, T[130]?.getD undef, T[131]?.getD undef, T[132]?.getD undef, T[133]?.getD undef, T[134]?.getD undef, T[135]?.getD undef, T[136]?.getD undef, T[137]?.getD undef, T[138]?.getD undef, T[139]?.getD undef, T[140]?.getD undef] := arr_eq T 141 hsF
            clear hsF
            rw [e0] at hT; clear e0
            rw [e1] at hT; clear e1
            rw [e2] at hT; clear e2
            rw [e3] at hT; clear e3
            rw [e4] at hT; clear e4
            rw [e5] at hT; clear e5
            rw [e6] at hT; clear e6
            rw [e7] at hT; clear e7
            rw [e8] at hT; clear e8
            rw [e9] at hT; clear e9
            rw [e10] at hT; clear e10
            rw [e11] at hT; clear e11
            rw [e12] at hT; clear e12
            rw [e13] at hT; clear e13
            rw [e14] at hT; clear e14
            rw [e15] at hT; clear e15
            rw [e16] at hT; clear e16
            rw [e17] at hT; clear e17
            rw [e18] at hT; clear e18
            rw [e19] at hT; clear e19
            rw [e20] at hT; clear e20
            rw [e21] at hT; clear e21
            rw [e22] at hT; clear e22
            rw [e23] at hT; clear e23
            rw [e24] at hT; clear e24
            rw [e25] at hT; clear e25
            rw [e26] at hT; clear e26
            rw [e27] at hT; clear e27
            rw [e28] at hT; clear e28
            rw [e29] at hT; clear e29
            rw [e30] at hT; clear e30
            rw [e31] at hT; clear e31
            rw [e32] at hT; clear e32
            rw [e33] at hT; clear e33
            rw [e34] at hT; clear e34
            rw [e35] at hT; clear e35
            rw [e36] at hT; clear e36
            rw [e37] at hT; clear e37
            rw [e38] at hT; clear e38
            rw [e39] at hT; clear e39
            rw [e40] at hT; clear e40
            rw [e41] at hT; clear e41
            rw [e42] at hT; clear e42
            rw [e43] at hT; clear e43
            rw [e44] at hT; clear e44
            rw [e45] at hT; clear e45
            rw [e46] at hT; clear e46
            rw [e47] at hT; clear e47
            rw [e48] at hT; clear e48
            rw [e49] at hT; clear e49
            rw [e50] at hT; clear e50
            rw [e51] at hT; clear e51
            rw [e52] at hT; clear e52
            rw [e53] at hT; clear e53
            rw [e54] at hT; clear e54
            rw [e55] at hT; clear e55
            rw [e56] at hT; clear e56
            rw [e57] at hT; clear e57
            rw [e58] at hT; clear e58
            rw [e59] at hT; clear e59
            rw [e60] at hT; clear e60
            rw [e61] at hT; clear e61
            rw [e62] at hT; clear e62
            rw [e63] at hT; clear e63
            rw [e64] at hT; clear e64
            rw [e65] at hT; clear e65
            rw [e66] at hT; clear e66
            rw [e67] at hT; clear e67
            rw [e68] at hT; clear e68
            rw [e69] at hT; clear e69
            rw [e70] at hT; clear e70
            rw [e71] at hT; clear e71
            rw [e72] at hT; clear e72
            rw [e73] at hT; clear e73
            rw [e74] at hT; clear e74
            rw [e75] at hT; clear e75
            rw [e76] at hT; clear e76
            rw [e77] at hT; clear e77
            rw [e78] at hT; clear e78
            rw [e79] at hT; clear e79
            rw [e80] at hT; clear e80
            rw [e81] at hT; clear e81
            rw [e82] at hT; clear e82
            rw [e83] at hT; clear e83
            generalize T[84]?.getD undef = u84 at hT
            generalize T[85]?.getD undef = u85 at hT
            generalize T[86]?.getD undef = u86 at hT
            generalize T[87]?.getD undef = u87 at hT
            generalize T[88]?.getD undef = u88 at hT
            generalize T[89]?.getD undef = u89 at hT
            generalize T[90]?.getD undef = u90 at hT
            generalize T[91]?.getD undef = u91 at hT
            generalize T[92]?.getD undef = u92 at hT
            generalize T[93]?.getD undef = u93 at hT
            rw [e94] at hT; clear e94
            rw [e95] at hT; clear e95
            rw [e96] at hT; clear e96
            rw [e97] at hT; clear e97
            rw [e98] at hT; clear e98
            rw [e99] at hT; clear e99
            rw [e100] at hT; clear e100
            rw [e101] at hT; clear e101
            rw [e102] at hT; clear e102
            rw [e103] at hT; clear e103
            rw [e104] at hT; clear e104
            rw [e105] at hT; clear e105
            rw [e106] at hT; clear e106
            rw [e107] at hT; clear e107
            rw [e108] at hT; clear e108
            rw [e109] at hT; clear e109
            rw [e110] at hT; clear e110
            rw [e111] at hT; clear e111
            rw [e112] at hT; clear e112
            rw [e113] at hT; clear e113
            rw [e114] at hT; clear e114
            rw [e115] at hT; clear e115
            rw [e116] at hT; clear e116
            rw [e117] at hT; clear e117
            rw [e118] at hT; clear e118
            rw [e119] at hT; clear e119
            rw [e120] at hT; clear e120
            rw [e121] at hT; clear e121
            rw [e122] at hT; clear e122
            rw [e123] at hT; clear e123
            rw [e124] at hT; clear e124
            rw [e125] at hT; clear e125
            rw [e126] at hT; clear e126
            rw [e127] at hT; clear e127
            rw [e128] at hT; clear e128
            rw [e129] at hT; clear e129
            rw [e130] at hT; clear e130
            rw [e131] at hT; clear e131
            rw [e132] at hT; clear e132
            rw [e133] at hT; clear e133
            rw [e134] at hT; clear e134
            rw [e135] at hT; clear e135
            rw [e136] at hT; clear e136
            rw [e137] at hT; clear e137
            rw [e138] at hT; clear e138
            rw [e139] at hT; clear e139
            rw [e140] at hT; clear e140
            subst hT
            have hO8 := hO6.below hbF
            have B8 := B6.on hbF
            have hX8 := hX6.below hbF
            have hF8 := hF7.below hbF
            have b8 : Below w.heap.size w wF := (by (have q_hbF := Below.size hbF; (try simp at q_hbF); have q_b6 := Below.size b6; (try simp at q_b6); repeat (first | exact Below.refl _ _ | (refine Below.trans ?_ (Below.mono hbF (by first | omega | (simp; omega) | simp))) | (refine Below.trans ?_ (Below.mono b6 (by first | omega | (simp; omega) | simp))) | (refine Below.setCell ?_ (by first | omega | (simp; omega) | simp) _) | (refine Below.alloc ?_ (by first | omega | (simp; omega) | simp) _) | apply Below.drew | apply below_drewN)))
            obtain ⟨bs, hrow, hbs, hall⟩ := hO8
            have hbk := hbs
            rw [blksL_len] at hbk
            have z8 := b8.size
            have zB8 := B8.lt
            clear hO6 B6 hX6 hF7 hR6 b6 hbF
            go_wp2_with (at_builtin; refine wpList_append_G (E := ssE) _ rfl (.tmp 95) (.tmp 97) _ rfl (w.heap.size + 1) 39 Try.underlying51 infoSS rfl _ bs rfl (hrow.alloc _) _ _ _ [(A5, 256, c5')] rfl (RdG.boxed _ _ _ _ rfl) (by omega) (by omega) (by simp; omega) ?_; intro b' w9 hF9 hg9 hb9)
            have hO9 := OwnSS.more (T1 := 5) (by decide) hbs (hrow.alloc (.cells #[.slice A5 256 c5'] 39)) (fun k x l hx hl => (hall k x l hx hl).below (by (repeat (first | exact Below.refl _ _ | (refine Below.setCell ?_ (by first | omega | (simp; omega) | simp) _) | (refine Below.alloc ?_ (by first | omega | (simp; omega) | simp) _) | apply Below.drew | apply below_drewN)))) (hF8.below (by (repeat (first | exact Below.refl _ _ | (refine Below.setCell ?_ (by first | omega | (simp; omega) | simp) _) | (refine Below.alloc ?_ (by first | omega | (simp; omega) | simp) _) | apply Below.drew | apply below_drewN)))) hF9 hg9
            have hX9 := FreshG.besides (hX8.alloc (.cells #[.slice A5 256 c5'] 39)) (hrow.alloc (.cells #[.slice A5 256 c5'] 39)) (by decide) hg9
            go_roundw
            case rel => exact ⟨j + 2, by omega, by go_num, by rw [hst.out]; exact hO9, (B8.alloc _).below hb9 (by omega), hX9, (by (have q_hb9 := Below.size hb9; (try simp at q_hb9); have q_b8 := Below.size b8; (try simp at q_b8); repeat (first | exact Below.refl _ _ | (refine Below.trans ?_ (Below.mono hb9 (by first | omega | (simp; omega) | simp))) | (refine Below.trans ?_ (Below.mono b8 (by first | omega | (simp; omega) | simp))) | (refine Below.setCell ?_ (by first | omega | (simp; omega) | simp) _) | (refine Below.alloc ?_ (by first | omega | (simp; omega) | simp) _) | apply Below.drew | apply below_drewN)))⟩
            case measure => simp [intOf] <;> omega
        · subst hjE
          have hO' : OwnSS 5 39 (w.heap.size + 1) wr u12 (blksL L (min (j + 2 - 1) j)) := by
            rw [show min (j + 2 - 1) j = min j j from by omega]; exact hO
          have hj0 : ¬ (j : Int) < 0 := by omega
          clear hO
          go_wp2_with fail
          refine (repochs_any p t _ h1 h2).mono ?_
          rintro e w4 ⟨rfl, hb4⟩
          rw [HE.out]
          have B4 := hB.on hb4
          have c4 := B4.cell
          go_wp2_with fail
          refine (block_no p t (j : Int) Ao S S _ (.inr (.inr (eAt_out (.inr (by rw [HE.out]; exact Int.le_refl _)))))).mono ?_
          rintro e w5 ⟨rfl, hb5⟩
          have B5 := B4.on hb5
          have c5 := B5.cell
          go_wp2_with fail
          refine (repochs_any p t _ h1 h2).mono ?_
          rintro e w6 ⟨rfl, hb6⟩
          rw [HE.out]
          have hO6 := ((hO'.below hb4).below hb5).below hb6
          have B6 := B5.on hb6
          have hX6 := ((hX.below hb4).below hb5).below hb6
          have b6 : Below w.heap.size w w6 := (by (have q_hb6 := Below.size hb6; (try simp at q_hb6); have q_hb5 := Below.size hb5; (try simp at q_hb5); have q_hb4 := Below.size hb4; (try simp at q_hb4); have q_hbr := Below.size hbr; (try simp at q_hbr); repeat (first | exact Below.refl _ _ | (refine Below.trans ?_ (Below.mono hb6 (by first | omega | (simp; omega) | simp))) | (refine Below.trans ?_ (Below.mono hb5 (by first | omega | (simp; omega) | simp))) | (refine Below.trans ?_ (Below.mono hb4 (by first | omega | (simp; omega) | simp))) | (refine Below.trans ?_ (Below.mono hbr (by first | omega | (simp; omega) | simp))) | (refine Below.setCell ?_ (by first | omega | (simp; omega) | simp) _) | (refine Below.alloc ?_ (by first | omega | (simp; omega) | simp) _) | apply Below.drew | apply below_drewN)))
          clear hO' hB B4 B5 c4 c5 cc hX hb4 hb5 hb6 hbr
          go_wp2_with fail
          go_roundw
          case rel => exact ⟨j + 2, by omega, by go_num, hO6, B6, hX6, b6⟩
          case measure => simp [intOf] <;> omega
        · obtain rfl : j = E + 1 := by omega
          rw [show min (E + 1) E = E from by omega] at hO
          obtain ⟨Ab, cb, rfl, hR, _, _⟩ := hO.rd E (blksL_len L E)
          have hgt : ¬ ((E + 1 : Nat) : Int) ≤ E := by omega
          clear hO
          go_wp2_with fail
          refine (repochs_any p t _ h1 h2).mono ?_
          rintro e w4 ⟨rfl, hb4⟩
          rw [HE.out]
          have B4 := hB.on hb4
          have c4 := B4.cell
          have hR4 := hR.below hb4
          have hX4 := hX.below hb4
          have b4 := hbr.trans (hb4.mono hbr.size)
          clear hB hR hX hb4 hbr cc
          go_wp2_with fail
          refine (epochs_yes p t Ab E cb (blksL L E) _ hR4 hm HE.out.symm (blksL_ok L E)).mono ?_
          rintro e w5 ⟨v, rfl, hF5, hb5⟩
          rw [← HS.out, HB.out] at hF5
          obtain ⟨Ax, cx, rfl, hY, _, hcx, hcxm⟩ := hF5.rdn S hLl
          have hX5 := (hX4.rd hLl).below hb5
          have B5 := B4.on hb5
          have b5 := b4.trans (hb5.mono b4.size)
          clear hR4 hX4 B4 c4 b4 hb5 hF5
          go_wp2_with fail
          go_loopw [116] (fun i wi => ∃ j : Nat, j ≤ S ∧ i = .int .i64 j ∧ RdG u64E wi Ao S L ∧ RdG u64E wi Ax S L ∧ Blk wi w.heap.size 23 #[.int .i64 p, .int .i64 t] ∧ Below w.heap.size w wi) (fun i _ => S - (intOf i).toNat)
          case atStart => exact ⟨0, by omega, rfl, hX5, hY, B5, b5⟩
          case round =>
            clear hX5 hY B5 b5
            obtain ⟨wi, hwi_⟩ : ∃ wi, wi = wr := ⟨_, rfl⟩
            subst hwi_
            obtain ⟨j, hj, rfl, hXi, hYi, hBi, hbi⟩ := hrel
            by_cases hj2 : j < S
            · obtain ⟨bx, offx, x, rfl, hbx, hxx, hcx0⟩ := hYi.at_ hj2
              obtain ⟨bo, offo, y, rfl, hbo, hyy, hco0⟩ := hXi.at_ hj2
              have hxy : y = x := by rw [hxx] at hyy; injection hyy with hyy; exact hyy.symm
              subst hxy
              have hcx1 : wi.cell? ⟨bx, offx + j, none⟩ = some (.int .u64 (y : Int)) := by
                have := hcx0 0 (.int .u64 (y : Int)) rfl
                simpa [u64E] using this
              have hco1 : wi.cell? ⟨bo, offo + j, none⟩ = some (.int .u64 (y : Int)) := by
                have := hco0 0 (.int .u64 (y : Int)) rfl
                simpa [u64E] using this
              have hj2' : (j : Int) < S := by omega
              clear hcx0 hco0 hxx hyy
              go_wp2_with fail
              refine wp_flows [(fun y_ _ => y_ = .slice (some ⟨bx, offx, none⟩) S cx), (fun y_ _ => y_ = .int .i64 (j : Int)), (fun y_ _ => y_ = .pointer (some ⟨bx, offx + j, none⟩)), (fun y_ _ => y_ = .int .u64 (y : Int)), (fun y_ _ => y_ = .slice (some ⟨bo, offo, none⟩) S S), (fun y_ _ => y_ = .int .i64 (j : Int)), (fun y_ _ => y_ = .pointer (some ⟨bo, offo + j, none⟩)), (fun y_ _ => y_ = .int .u64 (y : Int)), (fun y_ _ => y_ = .bool false)] (by kernel_rfl) ⟨Stab.eq _, Stab.eq _, Stab.eq _, Stab.eq _, Stab.eq _, Stab.eq _, Stab.eq _, Stab.eq _, Stab.eq _, trivial⟩ (by kernel_rfl) (by rfl) ?_ ?_
              · intro kq hkq
                match kq, hkq with
                | 0, _ =>
                  refine StepOk.plain _ 119 rfl rfl rfl [(16, none)] (by kernel_rfl) (fun af wf hbw hf Kf hKf => ?_)
                  obtain ⟨g16, _⟩ := hf
                  have h16 : af.tmps[16]?.getD undef = .slice (some ⟨bx, offx, none⟩) S cx := g16
                  clear g16
                  go_simp
                  exact hKf _ _ (Below.refl _ _) rfl
                | 1, _ =>
                  refine StepOk.plain _ 120 rfl rfl rfl [(18, none)] (by kernel_rfl) (fun af wf hbw hf Kf hKf => ?_)
                  obtain ⟨g18, _⟩ := hf
                  have h18 : af.tmps[18]?.getD undef = .int .i64 (j : Int) := g18
                  clear g18
                  go_simp
                  exact hKf _ _ (Below.refl _ _) rfl
                | 2, _ =>
                  refine StepOk.plain _ 121 rfl rfl rfl [(119, some 0), (120, some 1)] (by kernel_rfl) (fun af wf hbw hf Kf hKf => ?_)
                  obtain ⟨g119, g120, _⟩ := hf
                  have h119 : af.tmps[119]?.getD undef = .slice (some ⟨bx, offx, none⟩) S cx := g119
                  have h120 : af.tmps[120]?.getD undef = .int .i64 (j : Int) := g120
                  clear g119 g120
                  go_simp
                  exact hKf _ _ (Below.refl _ _) rfl
                | 3, _ =>
                  refine StepOk.plain _ 122 rfl rfl rfl [(121, some 2)] (by kernel_rfl) (fun af wf hbw hf Kf hKf => ?_)
                  obtain ⟨g121, _⟩ := hf
                  have h121 : af.tmps[121]?.getD undef = .pointer (some ⟨bx, offx + j, none⟩) := g121
                  clear g121
                  have hcx := (Below.cell (p := ⟨bx, offx + j, none⟩) hbw hbx).trans hcx1
                  go_simp
                  exact hKf _ _ (Below.refl _ _) rfl
                | 4, _ =>
                  refine StepOk.plain _ 123 rfl rfl rfl [(11, none)] (by kernel_rfl) (fun af wf hbw hf Kf hKf => ?_)
                  obtain ⟨g11, _⟩ := hf
                  have h11 : af.tmps[11]?.getD undef = .slice (some ⟨bo, offo, none⟩) S S := g11
                  clear g11
                  go_simp
                  exact hKf _ _ (Below.refl _ _) rfl
                | 5, _ =>
                  refine StepOk.plain _ 124 rfl rfl rfl [(18, none)] (by kernel_rfl) (fun af wf hbw hf Kf hKf => ?_)
                  obtain ⟨g18, _⟩ := hf
                  have h18 : af.tmps[18]?.getD undef = .int .i64 (j : Int) := g18
                  clear g18
                  go_simp
                  exact hKf _ _ (Below.refl _ _) rfl
                | 6, _ =>
                  refine StepOk.plain _ 125 rfl rfl rfl [(123, some 4), (124, some 5)] (by kernel_rfl) (fun af wf hbw hf Kf hKf => ?_)
                  obtain ⟨g123, g124, _⟩ := hf
                  have h123 : af.tmps[123]?.getD undef = .slice (some ⟨bo, offo, none⟩) S S := g123
                  have h124 : af.tmps[124]?.getD undef = .int .i64 (j : Int) := g124
                  clear g123 g124
                  go_simp
                  exact hKf _ _ (Below.refl _ _) rfl
                | 7, _ =>
                  refine StepOk.plain _ 126 rfl rfl rfl [(125, some 6)] (by kernel_rfl) (fun af wf hbw hf Kf hKf => ?_)
                  obtain ⟨g125, _⟩ := hf
                  have h125 : af.tmps[125]?.getD undef = .pointer (some ⟨bo, offo + j, none⟩) := g125
                  clear g125
                  have hcx := (Below.cell (p := ⟨bo, offo + j, none⟩) hbw hbo).trans hco1
                  go_simp
                  exact hKf _ _ (Below.refl _ _) rfl
                | 8, _ =>
                  refine StepOk.plain _ 127 rfl rfl rfl [(122, some 3), (126, some 7)] (by kernel_rfl) (fun af wf hbw hf Kf hKf => ?_)
                  obtain ⟨g122, g126, _⟩ := hf
                  have h122 : af.tmps[122]?.getD undef = .int .u64 (y : Int) := g122
                  have h126 : af.tmps[126]?.getD undef = .int .u64 (y : Int) := g126
                  clear g122 g126
                  go_simp
                  exact hKf _ _ (Below.refl _ _) rfl
                | i + 9, h => exact absurd h (by show ¬ (i + 9 < 9); omega)
              · intro af wF hbF hdF hsF hbaseF hfactF
                obtain ⟨T, dsF⟩ := af
                obtain rfl : dsF = _ := hdF
                have e0 := hbaseF 0 (not_dst (by kernel_rfl))
                simp only [List.getElem?_toArray, List.getElem?_cons_zero, Option.getD_some] at e0
                have e1 := hbaseF 1 (not_dst (by kernel_rfl))
                simp only [List.getElem?_toArray, List.getElem?_cons_zero, List.getElem?_cons_succ, Option.getD_some] at e1
                have e2 := hbaseF 2 (not_dst (by kernel_rfl))
                simp only [List.getElem?_toArray, List.getElem?_cons_zero, List.getElem?_cons_succ, Option.getD_some] at e2
                have e3 := hbaseF 3 (not_dst (by kernel_rfl))
                simp only [List.getElem?_toArray, List.getElem?_cons_zero, List.getElem?_cons_succ, Option.getD_some] at e3
                have e4 := hbaseF 4 (not_dst (by kernel_rfl))
                simp only [List.getElem?_toArray, List.getElem?_cons_zero, List.getElem?_cons_succ, Option.getD_some] at e4
                have e5 := hbaseF 5 (not_dst (by kernel_rfl))
                simp only [List.getElem?_toArray, List.getElem?_cons_zero, List.getElem?_cons_succ, Option.getD_some] at e5
                have e6 := hbaseF 6 (not_dst (by kernel_rfl))
                simp only [List.getElem?_toArray, List.getElem?_cons_zero, List.getElem?_cons_succ, Option.getD_some] at e6
                have e7 := hbaseF 7 (not_dst (by kernel_rfl))
                simp only [List.getElem?_toArray, List.getElem?_cons_zero, List.getElem?_cons_succ, Option.getD_some] at e7
                have e8 := hbaseF 8 (not_dst (by kernel_rfl))
                simp only [List.getElem?_toArray, List.getElem?_cons_zero, List.getElem?_cons_succ, Option.getD_some] at e8
                have e9 := hbaseF 9 (not_dst (by kernel_rfl))
                simp only [List.getElem?_toArray, List.getElem?_cons_zero, List.getElem?_cons_succ, Option.getD_some] at e9
                have e10 := hbaseF 10 (not_dst (by kernel_rfl))
                simp only [List.getElem?_toArray, List.getElem?_cons_zero, List.getElem?_cons_succ, Option.getD_some] at e10
                have e11 := hbaseF 11 (not_dst (by kernel_rfl))
                simp only [List.getElem?_toArray, List.getElem?_cons_zero, List.getElem?_cons_succ, Option.getD_some] at e11
                have e12 := hbaseF 12 (not_dst (by kernel_rfl))
                simp only [List.getElem?_toArray, List.getElem?_cons_zero, List.getElem?_cons_succ, Option.getD_some] at e12
                have e13 := hbaseF 13 (not_dst (by kernel_rfl))
                simp only [List.getElem?_toArray, List.getElem?_cons_zero, List.getElem?_cons_succ, Option.getD_some] at e13
                have e14 := hbaseF 14 (not_dst (by kernel_rfl))
                simp only [List.getElem?_toArray, List.getElem?_cons_zero, List.getElem?_cons_succ, Option.getD_some] at e14
                have e15 := hbaseF 15 (not_dst (by kernel_rfl))
                simp only [List.getElem?_toArray, List.getElem?_cons_zero, List.getElem?_cons_succ, Option.getD_some] at e15
                have e16 := hbaseF 16 (not_dst (by kernel_rfl))
                simp only [List.getElem?_toArray, List.getElem?_cons_zero, List.getElem?_cons_succ, Option.getD_some] at e16
                have e17 := hbaseF 17 (not_dst (by kernel_rfl))
                simp only [List.getElem?_toArray, List.getElem?_cons_zero, List.getElem?_cons_succ, Option.getD_some] at e17
                have e18 := hbaseF 18 (not_dst (by kernel_rfl))
                simp only [List.getElem?_toArray, List.getElem?_cons_zero, List.getElem?_cons_succ, Option.getD_some] at e18
                have e19 := hbaseF 19 (not_dst (by kernel_rfl))
                simp only [List.getElem?_toArray, List.getElem?_cons_zero, List.getElem?_cons_succ, Option.getD_some] at e19
                have e20 := hbaseF 20 (not_dst (by kernel_rfl))
                simp only [List.getElem?_toArray, List.getElem?_cons_zero, List.getElem?_cons_succ, Option.getD_some] at e20
                have e21 := hbaseF 21 (not_dst (by kernel_rfl))
                simp only [List.getElem?_toArray, List.getElem?_cons_zero, List.getElem?_cons_succ, Option.getD_some] at e21
                have e22 := hbaseF 22 (not_dst (by kernel_rfl))
                simp only [List.getElem?_toArray, List.getElem?_cons_zero, List.getElem?_cons_succ, Option.getD_some] at e22
                have e23 := hbaseF 23 (not_dst (by kernel_rfl))
                simp only [List.getElem?_toArray, List.getElem?_cons_zero, List.getElem?_cons_succ, Option.getD_some] at e23
                have e24 := hbaseF 24 (not_dst (by kernel_rfl))
                simp only [List.getElem?_toArray, List.getElem?_cons_zero, List.getElem?_cons_succ, Option.getD_some] at e24
                have e25 := hbaseF 25 (not_dst (by kernel_rfl))
                simp only [List.getElem?_toArray, List.getElem?_cons_zero, List.getElem?_cons_succ, Option.getD_some] at e25
                have e26 := hbaseF 26 (not_dst (by kernel_rfl))
                simp only [List.getElem?_toArray, List.getElem?_cons_zero, List.getElem?_cons_succ, Option.getD_some] at e26
                have e27 := hbaseF 27 (not_dst (by kernel_rfl))
                simp only [List.getElem?_toArray, List.getElem?_cons_zero, List.getElem?_cons_succ, Option.getD_some] at e27
                have e28 := hbaseF 28 (not_dst (by kernel_rfl))
                simp only [List.getElem?_toArray, List.getElem?_cons_zero, List.getElem?_cons_succ, Option.getD_some] at e28
                have e29 := hbaseF 29 (not_dst (by kernel_rfl))
                simp only [List.getElem?_toArray, List.getElem?_cons_zero, List.getElem?_cons_succ, Option.getD_some] at e29
                have e30 := hbaseF 30 (not_dst (by kernel_rfl))
                simp only [List.getElem?_toArray, List.getElem?_cons_zero, List.getElem?_cons_succ, Option.getD_some] at e30
                have e31 := hbaseF 31 (not_dst (by kernel_rfl))
                simp only [List.getElem?_toArray, List.getElem?_cons_zero, List.getElem?_cons_succ, Option.getD_some] at e31
                have e32 := hbaseF 32 (not_dst (by kernel_rfl))
                simp only [List.getElem?_toArray, List.getElem?_cons_zero, List.getElem?_cons_succ, Option.getD_some] at e32
                have e33 := hbaseF 33 (not_dst (by kernel_rfl))
                simp only [List.getElem?_toArray, List.getElem?_cons_zero, List.getElem?_cons_succ, Option.getD_some] at e33
                have e34 := hbaseF 34 (not_dst (by kernel_rfl))
                simp only [List.getElem?_toArray, List.getElem?_cons_zero, List.getElem?_cons_succ, Option.getD_some] at e34
                have e35 := hbaseF 35 (not_dst (by kernel_rfl))
                simp only [List.getElem?_toArray, List.getElem?_cons_zero, List.getElem?_cons_succ, Option.getD_some] at e35
                have e36 := hbaseF 36 (not_dst (by kernel_rfl))
                simp only [List.getElem?_toArray, List.getElem?_cons_zero, List.getElem?_cons_succ, Option.getD_some] at e36
                have e37 := hbaseF 37 (not_dst (by kernel_rfl))
                simp only [List.getElem?_toArray, List.getElem?_cons_zero, List.getElem?_cons_succ, Option.getD_some] at e37
                have e38 := hbaseF 38 (not_dst (by kernel_rfl))
                simp only [List.getElem?_toArray, List.getElem?_cons_zero, List.getElem?_cons_succ, Option.getD_some] at e38
                have e39 := hbaseF 39 (not_dst (by kernel_rfl))
                simp only [List.getElem?_toArray, List.getElem?_cons_zero, List.getElem?_cons_succ, Option.getD_some] at e39
                have e40 := hbaseF 40 (not_dst (by kernel_rfl))
                simp only [List.getElem?_toArray, List.getElem?_cons_zero, List.getElem?_cons_succ, Option.getD_some] at e40
                have e41 := hbaseF 41 (not_dst (by kernel_rfl))
                simp only [List.getElem?_toArray, List.getElem?_cons_zero, List.getElem?_cons_succ, Option.getD_some] at e41
                have e42 := hbaseF 42 (not_dst (by kernel_rfl))
                simp only [List.getElem?_toArray, List.getElem?_cons_zero, List.getElem?_cons_succ, Option.getD_some] at e42
                have e43 := hbaseF 43 (not_dst (by kernel_rfl))
                simp only [List.getElem?_toArray, List.getElem?_cons_zero, List.getElem?_cons_succ, Option.getD_some] at e43
                have e44 := hbaseF 44 (not_dst (by kernel_rfl))
                simp only [List.getElem?_toArray, List.getElem?_cons_zero, List.getElem?_cons_succ, Option.getD_some] at e44
                have e45 := hbaseF 45 (not_dst (by kernel_rfl))
                simp only [List.getElem?_toArray, List.getElem?_cons_zero, List.getElem?_cons_succ, Option.getD_some] at e45
                have e46 := hbaseF 46 (not_dst (by kernel_rfl))
                simp only [List.getElem?_toArray, List.getElem?_cons_zero, List.getElem?_cons_succ, Option.getD_some] at e46
                have e47 := hbaseF 47 (not_dst (by kernel_rfl))
                simp only [List.getElem?_toArray, List.getElem?_cons_zero, List.getElem?_cons_succ, Option.getD_some] at e47
                have e48 := hbaseF 48 (not_dst (by kernel_rfl))
                simp only [List.getElem?_toArray, List.getElem?_cons_zero, List.getElem?_cons_succ, Option.getD_some] at e48
                have e49 := hbaseF 49 (not_dst (by kernel_rfl))
                simp only [List.getElem?_toArray, List.getElem?_cons_zero, List.getElem?_cons_succ, Option.getD_some] at e49
                have e50 := hbaseF 50 (not_dst (by kernel_rfl))
                simp only [List.getElem?_toArray, List.getElem?_cons_zero, List.getElem?_cons_succ, Option.getD_some] at e50
                have e51 := hbaseF 51 (not_dst (by kernel_rfl))
                simp only [List.getElem?_toArray, List.getElem?_cons_zero, List.getElem?_cons_succ, Option.getD_some] at e51
                have e52 := hbaseF 52 (not_dst (by kernel_rfl))
                simp only [List.getElem?_toArray, List.getElem?_cons_zero, List.getElem?_cons_succ, Option.getD_some] at e52
                have e53 := hbaseF 53 (not_dst (by kernel_rfl))
                simp only [List.getElem?_toArray, List.getElem?_cons_zero, List.getElem?_cons_succ, Option.getD_some] at e53
                have e54 := hbaseF 54 (not_dst (by kernel_rfl))
                simp only [List.getElem?_toArray, List.getElem?_cons_zero, List.getElem?_cons_succ, Option.getD_some] at e54
                have e55 := hbaseF 55 (not_dst (by kernel_rfl))
                simp only [List.getElem?_toArray, List.getElem?_cons_zero, List.getElem?_cons_succ, Option.getD_some] at e55
                have e56 := hbaseF 56 (not_dst (by kernel_rfl))
                simp only [List.getElem?_toArray, List.getElem?_cons_zero, List.getElem?_cons_succ, Option.getD_some] at e56
                have e57 := hbaseF 57 (not_dst (by kernel_rfl))
                simp only [List.getElem?_toArray, List.getElem?_cons_zero, List.getElem?_cons_succ, Option.getD_some] at e57
                have e58 := hbaseF 58 (not_dst (by kernel_rfl))
                simp only [List.getElem?_toArray, List.getElem?_cons_zero, List.getElem?_cons_succ, Option.getD_some] at e58
                have e59 := hbaseF 59 (not_dst (by kernel_rfl))
                simp only [List.getElem?_toArray, List.getElem?_cons_zero, List.getElem?_cons_succ, Option.getD_some] at e59
                have e60 := hbaseF 60 (not_dst (by kernel_rfl))
                simp only [List.getElem?_toArray, List.getElem?_cons_zero, List.getElem?_cons_succ, Option.getD_some] at e60
                have e61 := hbaseF 61 (not_dst (by kernel_rfl))
                simp only [List.getElem?_toArray, List.getElem?_cons_zero, List.getElem?_cons_succ, Option.getD_some] at e61
                have e62 := hbaseF 62 (not_dst (by kernel_rfl))
                simp only [List.getElem?_toArray, List.getElem?_cons_zero, List.getElem?_cons_succ, Option.getD_some] at e62
                have e63 := hbaseF 63 (not_dst (by kernel_rfl))
                simp only [List.getElem?_toArray, List.getElem?_cons_zero, List.getElem?_cons_succ, Option.getD_some] at e63
                have e64 := hbaseF 64 (not_dst (by kernel_rfl))
                simp only [List.getElem?_toArray, List.getElem?_cons_zero, List.getElem?_cons_succ, Option.getD_some] at e64
                have e65 := hbaseF 65 (not_dst (by kernel_rfl))
                simp only [List.getElem?_toArray, List.getElem?_cons_zero, List.getElem?_cons_succ, Option.getD_some] at e65
                have e66 := hbaseF 66 (not_dst (by kernel_rfl))
                simp only [List.getElem?_toArray, List.getElem?_cons_zero, List.getElem?_cons_succ, Option.getD_some] at e66
                have e67 := hbaseF 67 (not_dst (by kernel_rfl))
                simp only [List.getElem?_toArray, List.getElem?_cons_zero, List.getElem?_cons_succ, Option.getD_some] at e67
                have e68 := hbaseF 68 (not_dst (by kernel_rfl))
                simp only [List.getElem?_toArray, List.getElem?_cons_zero, List.getElem?_cons_succ, Option.getD_some] at e68
                have e69 := hbaseF 69 (not_dst (by kernel_rfl))
                simp only [List.getElem?_toArray, List.getElem?_cons_zero, List.getElem?_cons_succ, Option.getD_some] at e69
                have e70 := hbaseF 70 (not_dst (by kernel_rfl))
                simp only [List.getElem?_toArray, List.getElem?_cons_zero, List.getElem?_cons_succ, Option.getD_some] at e70
                have e71 := hbaseF 71 (not_dst (by kernel_rfl))
                simp only [List.getElem?_toArray, List.getElem?_cons_zero, List.getElem?_cons_succ, Option.getD_some] at e71
                have e72 := hbaseF 72 (not_dst (by kernel_rfl))
                simp only [List.getElem?_toArray, List.getElem?_cons_zero, List.getElem?_cons_succ, Option.getD_some] at e72
                have e73 := hbaseF 73 (not_dst (by kernel_rfl))
                simp only [List.getElem?_toArray, List.getElem?_cons_zero, List.getElem?_cons_succ, Option.getD_some] at e73
                have e74 := hbaseF 74 (not_dst (by kernel_rfl))
                simp only [List.getElem?_toArray, List.getElem?_cons_zero, List.getElem?_cons_succ, Option.getD_some] at e74
                have e75 := hbaseF 75 (not_dst (by kernel_rfl))
                simp only [List.getElem?_toArray, List.getElem?_cons_zero, List.getElem?_cons_succ, Option.getD_some] at e75
                have e76 := hbaseF 76 (not_dst (by kernel_rfl))
                simp only [List.getElem?_toArray, List.getElem?_cons_zero, List.getElem?_cons_succ, Option.getD_some] at e76
                have e77 := hbaseF 77 (not_dst (by kernel_rfl))
                simp only [List.getElem?_toArray, List.getElem?_cons_zero, List.getElem?_cons_succ, Option.getD_some] at e77
                have e78 := hbaseF 78 (not_dst (by kernel_rfl))
                simp only [List.getElem?_toArray, List.getElem?_cons_zero, List.getElem?_cons_succ, Option.getD_some] at e78
                have e79 := hbaseF 79 (not_dst (by kernel_rfl))
                simp only [List.getElem?_toArray, List.getElem?_cons_zero, List.getElem?_cons_succ, Option.getD_some] at e79
                have e80 := hbaseF 80 (not_dst (by kernel_rfl))
                simp only [List.getElem?_toArray, List.getElem?_cons_zero, List.getElem?_cons_succ, Option.getD_some] at e80
                have e81 := hbaseF 81 (not_dst (by kernel_rfl))
                simp only [List.getElem?_toArray, List.getElem?_cons_zero, List.getElem?_cons_succ, Option.getD_some] at e81
                have e82 := hbaseF 82 (not_dst (by kernel_rfl))
                simp only [List.getElem?_toArray, List.getElem?_cons_zero, List.getElem?_cons_succ, Option.getD_some] at e82
                have e83 := hbaseF 83 (not_dst (by kernel_rfl))
                simp only [List.getElem?_toArray, List.getElem?_cons_zero, List.getElem?_cons_succ, Option.getD_some] at e83
                have e84 := hbaseF 84 (not_dst (by kernel_rfl))
                simp only [List.getElem?_toArray, List.getElem?_cons_zero, List.getElem?_cons_succ, Option.getD_some] at e84
                have e85 := hbaseF 85 (not_dst (by kernel_rfl))
                simp only [List.getElem?_toArray, List.getElem?_cons_zero, List.getElem?_cons_succ, Option.getD_some] at e85
                have e86 := hbaseF 86 (not_dst (by kernel_rfl))
                simp only [List.getElem?_toArray, List.getElem?_cons_zero, List.getElem?_cons_succ, Option.getD_some] at e86
                have e87 := hbaseF 87 (not_dst (by kernel_rfl))
                simp only [List.getElem?_toArray, List.getElem?_cons_zero, List.getElem?_cons_succ, Option.getD_some] at e87
                have e88 := hbaseF 88 (not_dst (by kernel_rfl))
                simp only [List.getElem?_toArray, List.getElem?_cons_zero, List.getElem?_cons_succ, Option.getD_some] at e88
                have e89 := hbaseF 89 (not_dst (by kernel_rfl))
                simp only [List.getElem?_toArray, List.getElem?_cons_zero, List.getElem?_cons_succ, Option.getD_some] at e89
                have e90 := hbaseF 90 (not_dst (by kernel_rfl))
                simp only [List.getElem?_toArray, List.getElem?_cons_zero, List.getElem?_cons_succ, Option.getD_some] at e90
                have e91 := hbaseF 91 (not_dst (by kernel_rfl))
                simp only [List.getElem?_toArray, List.getElem?_cons_zero, List.getElem?_cons_succ, Option.getD_some] at e91
                have e92 := hbaseF 92 (not_dst (by kernel_rfl))
                simp only [List.getElem?_toArray, List.getElem?_cons_zero, List.getElem?_cons_succ, Option.getD_some] at e92
                have e93 := hbaseF 93 (not_dst (by kernel_rfl))
                simp only [List.getElem?_toArray, List.getElem?_cons_zero, List.getElem?_cons_succ, Option.getD_some] at e93
                have e94 := hbaseF 94 (not_dst (by kernel_rfl))
                simp only [List.getElem?_toArray, List.getElem?_cons_zero, List.getElem?_cons_succ, Option.getD_some] at e94
                have e95 := hbaseF 95 (not_dst (by kernel_rfl))
                simp only [List.getElem?_toArray, List.getElem?_cons_zero, List.getElem?_cons_succ, Option.getD_some] at e95
                have e96 := hbaseF 96 (not_dst (by kernel_rfl))
                simp only [List.getElem?_toArray, List.getElem?_cons_zero, List.getElem?_cons_succ, Option.getD_some] at e96
                have e97 := hbaseF 97 (not_dst (by kernel_rfl))
                simp only [List.getElem?_toArray, List.getElem?_cons_zero, List.getElem?_cons_succ, Option.getD_some] at e97
                have e98 := hbaseF 98 (not_dst (by kernel_rfl))
                simp only [List.getElem?_toArray, List.getElem?_cons_zero, List.getElem?_cons_succ, Option.getD_some] at e98
                have e99 := hbaseF 99 (not_dst (by kernel_rfl))
                simp only [List.getElem?_toArray, List.getElem?_cons_zero, List.getElem?_cons_succ, Option.getD_some] at e99
                have e100 := hbaseF 100 (not_dst (by kernel_rfl))
                simp only [List.getElem?_toArray, List.getElem?_cons_zero, List.getElem?_cons_succ, Option.getD_some] at e100
                have e101 := hbaseF 101 (not_dst (by kernel_rfl))
                simp only [List.getElem?_toArray, List.getElem?_cons_zero, List.getElem?_cons_succ, Option.getD_some] at e101
                have e102 := hbaseF 102 (not_dst (by kernel_rfl))
                simp only [List.getElem?_toArray, List.getElem?_cons_zero, List.getElem?_cons_succ, Option.getD_some] at e102
                have e103 := hbaseF 103 (not_dst (by kernel_rfl))
                simp only [List.getElem?_toArray, List.getElem?_cons_zero, List.getElem?_cons_succ, Option.getD_some] at e103
                have e104 := hbaseF 104 (not_dst (by kernel_rfl))
                simp only [List.getElem?_toArray, List.getElem?_cons_zero, List.getElem?_cons_succ, Option.getD_some] at e104
                have e105 := hbaseF 105 (not_dst (by kernel_rfl))
                simp only [List.getElem?_toArray, List.getElem?_cons_zero, List.getElem?_cons_succ, Option.getD_some] at e105
                have e106 := hbaseF 106 (not_dst (by kernel_rfl))
                simp only [List.getElem?_toArray, List.getElem?_cons_zero, List.getElem?_cons_succ, Option.getD_some] at e106
                have e107 := hbaseF 107 (not_dst (by kernel_rfl))
                simp only [List.getElem?_toArray, List.getElem?_cons_zero, List.getElem?_cons_succ, Option.getD_some] at e107
                have e108 := hbaseF 108 (not_dst (by kernel_rfl))
                simp only [List.getElem?_toArray, List.getElem?_cons_zero, List.getElem?_cons_succ, Option.getD_some] at e108
                have e109 := hbaseF 109 (not_dst (by kernel_rfl))
                simp only [List.getElem?_toArray, List.getElem?_cons_zero, List.getElem?_cons_succ, Option.getD_some] at e109
                have e110 := hbaseF 110 (not_dst (by kernel_rfl))
                simp only [List.getElem?_toArray, List.getElem?_cons_zero, List.getElem?_cons_succ, Option.getD_some] at e110
                have e111 := hbaseF 111 (not_dst (by kernel_rfl))
                simp only [List.getElem?_toArray, List.getElem?_cons_zero, List.getElem?_cons_succ, Option.getD_some] at e111
                have e112 := hbaseF 112 (not_dst (by kernel_rfl))
                simp only [List.getElem?_toArray, List.getElem?_cons_zero, List.getElem?_cons_succ, Option.getD_some] at e112
                have e113 := hbaseF 113 (not_dst (by kernel_rfl))
                simp only [List.getElem?_toArray, List.getElem?_cons_zero, List.getElem?_cons_succ, Option.getD_some] at e113
                have e114 := hbaseF 114 (not_dst (by kernel_rfl))
                simp only [List.getElem?_toArray, List.getElem?_cons_zero, List.getElem?_cons_succ, Option.getD_some] at e114
                have e115 := hbaseF 115 (not_dst (by kernel_rfl))
                simp only [List.getElem?_toArray, List.getElem?_cons_zero, List.getElem?_cons_succ, Option.getD_some] at e115
                have e116 := hbaseF 116 (not_dst (by kernel_rfl))
                simp only [List.getElem?_toArray, List.getElem?_cons_zero, List.getElem?_cons_succ, Option.getD_some] at e116
                have e117 := hbaseF 117 (not_dst (by kernel_rfl))
                simp only [List.getElem?_toArray, List.getElem?_cons_zero, List.getElem?_cons_succ, Option.getD_some] at e117
                have e118 := hbaseF 118 (not_dst (by kernel_rfl))
                simp only [List.getElem?_toArray, List.getElem?_cons_zero, List.getElem?_cons_succ, Option.getD_some] at e118
                have e128 := hbaseF 128 (not_dst (by kernel_rfl))
                simp only [List.getElem?_toArray, List.getElem?_cons_zero, List.getElem?_cons_succ, Option.getD_some] at e128
                have e129 := hbaseF 129 (not_dst (by kernel_rfl))
                simp only [List.getElem?_toArray, List.getElem?_cons_zero, List.getElem?_cons_succ, Option.getD_some] at e129
                have e130 := hbaseF 130 (not_dst (by kernel_rfl))
                simp only [List.getElem?_toArray, List.getElem?_cons_zero, List.getElem?_cons_succ, Option.getD_some] at e130
                have e131 := hbaseF 131 (not_dst (by kernel_rfl))
                simp only [List.getElem?_toArray, List.getElem?_cons_zero, List.getElem?_cons_succ, Option.getD_some] at e131
                have e132 := hbaseF 132 (not_dst (by kernel_rfl))
                simp only [List.getElem?_toArray, List.getElem?_cons_zero, List.getElem?_cons_succ, Option.getD_some] at e132
                have e133 := hbaseF 133 (not_dst (by kernel_rfl))
                simp only [List.getElem?_toArray, List.getElem?_cons_zero, List.getElem?_cons_succ, Option.getD_some] at e133
                have e134 := hbaseF 134 (not_dst (by kernel_rfl))
                simp only [List.getElem?_toArray, List.getElem?_cons_zero, List.getElem?_cons_succ, Option.getD_some] at e134
                have e135 := hbaseF 135 (not_dst (by kernel_rfl))
                simp only [List.getElem?_toArray, List.getElem?_cons_zero, List.getElem?_cons_succ, Option.getD_some] at e135
                have e136 := hbaseF 136 (not_dst (by kernel_rfl))
                simp only [List.getElem?_toArray, List.getElem?_cons_zero, List.getElem?_cons_succ, Option.getD_some] at e136
                have e137 := hbaseF 137 (not_dst (by kernel_rfl))
                simp only [List.getElem?_toArray, List.getElem?_cons_zero, List.getElem?_cons_succ, Option.getD_some] at e137
                have e138 := hbaseF 138 (not_dst (by kernel_rfl))
                simp only [List.getElem?_toArray, List.getElem?_cons_zero, List.getElem?_cons_succ, Option.getD_some] at e138
                have e139 := hbaseF 139 (not_dst (by kernel_rfl))
                simp only [List.getElem?_toArray, List.getElem?_cons_zero, List.getElem?_cons_succ, Option.getD_some] at e139
                have e140 := hbaseF 140 (not_dst (by kernel_rfl))
                simp only [List.getElem?_toArray, List.getElem?_cons_zero, List.getElem?_cons_succ, Option.getD_some] at e140
                have e127 := hfactF 8 127 (by decide) rfl
                replace e127 : T[127]?.getD undef = .bool false := e127
                clear hbaseF hfactF
                have hT : T = #[T[0]?.getD undef, T[1]?.getD undef, T[2]?.getD undef, T[3]?.getD undef, T[4]?.getD undef, T[5]?.getD undef, T[6]?.getD undef, T[7]?.getD undef, T[8]?.getD undef, T[9]?.getD undef, T[10]?.getD undef, T[11]?.getD undef, T[12]?.getD undef, T[13]?.getD undef, T[14]?.getD undef, T[15]?.getD undef, T[16]?.getD undef, T[17]?.getD undef, T[18]?.getD undef, T[19]?.getD undef, T[20]?.getD undef, T[21]?.getD undef, T[22]?.getD undef, T[23]?.getD undef, T[24]?.getD undef, T[25]?.getD undef, T[26]?.getD undef, T[27]?.getD undef, T[28]?.getD undef, T[29]?.getD undef, T[30]?.getD undef, T[31]?.getD undef, T[32]?.getD undef, T[33]?.getD undef, T[34]?.getD undef, T[35]?.getD undef, T[36]?.getD undef, T[37]?.getD undef, T[38]?.getD undef, T[39]?.getD undef, T[40]?.getD undef, T[41]?.getD undef, T[42]?.getD undef, T[43]?.getD undef, T[44]?.getD undef, T[45]?.getD undef, T[46]?.getD undef, T[47]?.getD undef, T[48]?.getD undef, T[49]?.getD undef, T[50]?.getD undef, T[51]?.getD undef, T[52]?.getD undef, T[53]?.getD undef, T[54]?.getD undef, T[55]?.getD undef, T[56]?.getD undef, T[57]?.getD undef, T[58]?.getD undef, T[59]?.getD undef, T[60]?.getD undef, T[61]?.getD undef, T[62]?.getD undef, T[63]?.getD undef, T[64]?.getD undef, T[65]?.getD undef, T[66]?.getD undef, T[67]?.getD undef, T[68]?.getD undef, T[69]?.getD undef, T[70]?.getD undef, T[71]?.getD undef, T[72]?.getD undef, T[73]?.getD undef, T[74]?.getD undef, T[75]?.getD undef, T[76]?.getD undef, T[77]?.getD undef, T[78]?.getD undef, T[79]?.getD undef, T[80]?.getD undef, T[81]?.getD undef, T[82]?.getD undef, T[83]?.getD undef, T[84]?.getD undef, T[85]?.getD undef, T[86]?.getD undef, T[87]?.getD undef, T[88]?.getD undef, T[89]?.getD undef, T[90]?.getD undef, T[91]?.getD undef, T[92]?.getD undef, T[93]?.getD undef, T[94]?.getD undef, T[95]?.getD undef, T[96]?.getD undef, T[97]?.getD undef, T[98]?.getD undef, T[99]?.getD undef, T[100]?.getD undef, T[101]?.getD undef, T[102]?.getD undef, T[103]?.getD undef, T[104]?.getD undef, T[105]?.getD undef, T[106]?.getD undef, T[107]?.getD undef, T[108]?.getD undef, T[109]?.getD undef, T[110]?.getD undef, T[111]?.getD undef, T[112]?.getD undef, T[113]?.getD undef, T[114]?.getD undef, T[115]?.getD undef, T[116]?.getD undef, T[117]?.getD undef, T[118]?.getD undef, T[119]?.getD undef, T[120]?.getD undef, T[121]?.getD undef, T[122]?.getD undef, T[123]?.getD undef, T[124]?.getD undef, T[125]?.getD undef, T[126]?.getD undef, T[127]?.getD undef, T[128]?.getD undef, T[129]?.getD undef, T[130]?.getD undef, T[131]?.getD undef, T[132]?.getD undef, T[133]?.getD undef, T[134]?.getD undef, T[135]?.getD undef, T[136]?.getD undef, T[137]?.getD undef, T[138]?.getD undef, T[139]?.getD undef, T[140]?.getD undef] := arr_eq T 141 hsF
                clear hsF
                rw [e0] at hT; clear e0
                rw [e1] at hT; clear e1
                rw [e2] at hT; clear e2
                rw [e3] at hT; clear e3
                rw [e4] at hT; clear e4
                rw [e5] at hT; clear e5
                rw [e6] at hT; clear e6
                rw [e7] at hT; clear e7
                rw [e8] at hT; clear e8
                rw [e9] at hT; clear e9
                rw [e10] at hT; clear e10
                rw [e11] at hT; clear e11
                rw [e12] at hT; clear e12
                rw [e13] at hT; clear e13
                rw [e14] at hT; clear e14
                rw [e15] at hT; clear e15
                rw [e16] at hT; clear e16
                rw [e17] at hT; clear e17
                rw [e18] at hT; clear e18
                rw [e19] at hT; clear e19
                rw [e20] at hT; clear e20
                rw [e21] at hT; clear e21
                rw [e22] at hT; clear e22
                rw [e23] at hT; clear e23
                rw [e24] at hT; clear e24
                rw [e25] at hT; clear e25
                rw [e26] at hT; clear e26
                rw [e27] at hT; clear e27
                rw [e28] at hT; clear e28
                rw [e29] at hT; clear e29
                rw [e30] at hT; clear e30
                rw [e31] at hT; clear e31
                rw [e32] at hT; clear e32
                rw [e33] at hT; clear e33
                rw [e34] at hT; clear e34
                rw [e35] at hT; clear e35
                rw [e36] at hT; clear e36
                rw [e37] at hT; clear e37
                rw [e38] at hT; clear e38
                rw [e39] at hT; clear e39
                rw [e40] at hT; clear e40
                rw [e41] at hT; clear e41
                rw [e42] at hT; clear e42
                rw [e43] at hT; clear e43
                rw [e44] at hT; clear e44
                rw [e45] at hT; clear e45
                rw [e46] at hT; clear e46
                rw [e47] at hT; clear e47
                rw [e48] at hT; clear e48
                rw [e49] at hT; clear e49
                rw [e50] at hT; clear e50
                rw [e51] at hT; clear e51
                rw [e52] at hT; clear e52
                rw [e53] at hT; clear e53
                rw [e54] at hT; clear e54
                rw [e55] at hT; clear e55
                rw [e56] at hT; clear e56
                rw [e57] at hT; clear e57
                rw [e58] at hT; clear e58
                rw [e59] at hT; clear e59
                rw [e60] at hT; clear e60
                rw [e61] at hT; clear e61
                rw [e62] at hT; clear e62
                rw [e63] at hT; clear e63
                rw [e64] at hT; clear e64
                rw [e65] at hT; clear e65
                rw [e66] at hT; clear e66
                rw [e67] at hT; clear e67
                rw [e68] at hT; clear e68
                rw [e69] at hT; clear e69
                rw [e70] at hT; clear e70
                rw [e71] at hT; clear e71
                rw [e72] at hT; clear e72
                rw [e73] at hT; clear e73
                rw [e74] at hT; clear e74
                rw [e75] at hT; clear e75
                rw [e76] at hT; clear e76
                rw [e77] at hT; clear e77
                rw [e78] at hT; clear e78
                rw [e79] at hT; clear e79
                rw [e80] at hT; clear e80
                rw [e81] at hT; clear e81
                rw [e82] at hT; clear e82
                rw [e83] at hT; clear e83
                rw [e84] at hT; clear e84
                rw [e85] at hT; clear e85
                rw [e86] at hT; clear e86
                rw [e87] at hT; clear e87
                rw [e88] at hT; clear e88
                rw [e89] at hT; clear e89
                rw [e90] at hT; clear e90
                rw [e91] at hT; clear e91
                rw [e92] at hT; clear e92
                rw [e93] at hT; clear e93
                rw [e94] at hT; clear e94
                rw [e95] at hT; clear e95
                rw [e96] at hT; clear e96
                rw [e97] at hT; clear e97
                rw [e98] at hT; clear e98
                rw [e99] at hT; clear e99
                rw [e100] at hT; clear e100
                rw [e101] at hT; clear e101
                rw [e102] at hT; clear e102
                rw [e103] at hT; clear e103
                rw [e104] at hT; clear e104
                rw [e105] at hT; clear e105
                rw [e106] at hT; clear e106
                rw [e107] at hT; clear e107
                rw [e108] at hT; clear e108
                rw [e109] at hT; clear e109
                rw [e110] at hT; clear e110
                rw [e111] at hT; clear e111
                rw [e112] at hT; clear e112
                rw [e113] at hT; clear e113
                rw [e114] at hT; clear e114
                rw [e115] at hT; clear e115
                rw [e116] at hT; clear e116
                rw [e117] at hT; clear e117
                rw [e118] at hT; clear e118
                generalize T[119]?.getD undef = u119 at hT
                generalize T[120]?.getD undef = u120 at hT
                generalize T[121]?.getD undef = u121 at hT
                generalize T[122]?.getD undef = u122 at hT
                generalize T[123]?.getD undef = u123 at hT
                generalize T[124]?.getD undef = u124 at hT
                generalize T[125]?.getD undef = u125 at hT
                generalize T[126]?.getD undef = u126 at hT
                rw [e127] at hT; clear e127
                rw [e128] at hT; clear e128
                rw [e129] at hT; clear e129
                rw [e130] at hT; clear e130
                rw [e131] at hT; clear e131
                rw [e132] at hT; clear e132
                rw [e133] at hT; clear e133
                rw [e134] at hT; clear e134
                rw [e135] at hT; clear e135
                rw [e136] at hT; clear e136
                rw [e137] at hT; clear e137
                rw [e138] at hT; clear e138
                rw [e139] at hT; clear e139
                rw [e140] at hT; clear e140
                subst hT
                go_wp2_with fail
                go_roundw
                case rel => exact ⟨j + 1, by omega, by go_num, hXi.below hbF, hYi.below hbF, hBi.on hbF, (by (have q_hbF := Below.size hbF; (try simp at q_hbF); have q_hbi := Below.size hbi; (try simp at q_hbi); repeat (first | exact Below.refl _ _ | (refine Below.trans ?_ (Below.mono hbF (by first | omega | (simp; omega) | simp))) | (refine Below.trans ?_ (Below.mono hbi (by first | omega | (simp; omega) | simp))) | (refine Below.setCell ?_ (by first | omega | (simp; omega) | simp) _) | (refine Below.alloc ?_ (by first | omega | (simp; omega) | simp) _) | apply Below.drew | apply below_drewN)))⟩
                case measure => simp [intOf] <;> omega
            · obtain rfl : j = S := by omega
              obtain ⟨bo, offo, _, rfl, _, _, _⟩ := hXi.at_ (k := 0) (by omega)
              have hq1 : (1 : Int) ≤ j := by omega
              have hq2 : ¬ j = 1 := by omega
              have HNE := Lib.hid (show ((j - 1 : Nat) : Int) ≠ sealedI p by rw [← S1.out]; omega)
              clear hYi hXi
              go_wp2_with fail
              refine wp_flows [(fun y_ _ => y_ = .agg #[.int .i64 p, .int .i64 t]), (fun y_ _ => y_ = .slice (some ⟨bo, offo, none⟩) j j), (fun y_ _ => y_ = .slice (some ⟨bo, offo + 1, none⟩) (j - 1) (j - 1)), (fun y_ _ => y_ = .tuple #[.slice none 0 0, .int .i64 1]), (fun y_ _ => y_ = .tuple #[.slice none 0 0, .int .i64 1]), (fun y_ _ => y_ = .slice none 0 0), (fun y_ _ => y_ = .int .i64 1), (fun y_ _ => y_ = .slice none 0 0), (fun y_ _ => y_ = .int .i64 1)] (by kernel_rfl) ⟨Stab.eq _, Stab.eq _, Stab.eq _, Stab.eq _, Stab.eq _, Stab.eq _, Stab.eq _, Stab.eq _, Stab.eq _, trivial⟩ (by kernel_rfl) (by rfl) ?_ ?_
              · intro kq hkq
                match kq, hkq with
                | 0, _ =>
                  refine StepOk.plain _ 130 rfl rfl rfl [(3, none)] (by kernel_rfl) (fun af wf hbw hf Kf hKf => ?_)
                  obtain ⟨g3, _⟩ := hf
                  have h3 : af.tmps[3]?.getD undef = .pointer (some ⟨w.heap.size, 0, none⟩) := g3
                  clear g3
                  have cB0 := (Blk.on (Blk.drew (hBi)) hbw).cell
                  go_simp
                  exact hKf _ _ (Below.refl _ _) rfl
                | 1, _ =>
                  refine StepOk.plain _ 131 rfl rfl rfl [(11, none)] (by kernel_rfl) (fun af wf hbw hf Kf hKf => ?_)
                  obtain ⟨g11, _⟩ := hf
                  have h11 : af.tmps[11]?.getD undef = .slice (some ⟨bo, offo, none⟩) j j := g11
                  clear g11
                  go_simp
                  exact hKf _ _ (Below.refl _ _) rfl
                | 2, _ =>
                  refine StepOk.plain _ 132 rfl rfl rfl [(131, some 1)] (by kernel_rfl) (fun af wf hbw hf Kf hKf => ?_)
                  obtain ⟨g131, _⟩ := hf
                  have h131 : af.tmps[131]?.getD undef = .slice (some ⟨bo, offo, none⟩) j j := g131
                  clear g131
                  go_simp
                  exact hKf _ _ (Below.refl _ _) rfl
                | 3, _ =>
                  refine StepOk.plain _ 133 rfl rfl rfl [(130, some 0), (132, some 2)] (by kernel_rfl) (fun af wf hbw hf Kf hKf => ?_)
                  obtain ⟨g130, g132, _⟩ := hf
                  have h130 : af.tmps[130]?.getD undef = .agg #[.int .i64 p, .int .i64 t] := g130
                  have h132 : af.tmps[132]?.getD undef = .slice (some ⟨bo, offo + 1, none⟩) (j - 1) (j - 1) := g132
                  clear g130 g132
                  go_simp
                  refine (block_no p t 0 _ (j - 1) (j - 1) _ (.inr (.inl HNE.out))).mono ?_
                  rintro e wN ⟨rfl, hb⟩
                  exact hKf _ _ (hb) (rfl)
                | 4, _ =>
                  refine StepOk.plain _ 129 rfl rfl rfl [(133, some 3)] (by kernel_rfl) (fun af wf hbw hf Kf hKf => ?_)
                  obtain ⟨g133, _⟩ := hf
                  have h133 : af.tmps[133]?.getD undef = .tuple #[.slice none 0 0, .int .i64 1] := g133
                  clear g133
                  go_simp
                  exact hKf _ _ (Below.refl _ _) rfl
                | 5, _ =>
                  refine StepOk.plain _ 134 rfl rfl rfl [(129, some 4)] (by kernel_rfl) (fun af wf hbw hf Kf hKf => ?_)
                  obtain ⟨g129, _⟩ := hf
                  have h129 : af.tmps[129]?.getD undef = .tuple #[.slice none 0 0, .int .i64 1] := g129
                  clear g129
                  go_simp
                  exact hKf _ _ (Below.refl _ _) rfl
                | 6, _ =>
                  refine StepOk.plain _ 135 rfl rfl rfl [(129, some 4)] (by kernel_rfl) (fun af wf hbw hf Kf hKf => ?_)
                  obtain ⟨g129, _⟩ := hf
                  have h129 : af.tmps[129]?.getD undef = .tuple #[.slice none 0 0, .int .i64 1] := g129
                  clear g129
                  go_simp
                  exact hKf _ _ (Below.refl _ _) rfl
                | 7, _ =>
                  refine StepOk.plain _ 19 rfl rfl rfl [(134, some 5)] (by kernel_rfl) (fun af wf hbw hf Kf hKf => ?_)
                  obtain ⟨g134, _⟩ := hf
                  have h134 : af.tmps[134]?.getD undef = .slice none 0 0 := g134
                  clear g134
                  go_simp
                  exact hKf _ _ (Below.refl _ _) rfl
                | 8, _ =>
                  refine StepOk.plain _ 20 rfl rfl rfl [(135, some 6)] (by kernel_rfl) (fun af wf hbw hf Kf hKf => ?_)
                  obtain ⟨g135, _⟩ := hf
                  have h135 : af.tmps[135]?.getD undef = .int .i64 1 := g135
                  clear g135
                  go_simp
                  exact hKf _ _ (Below.refl _ _) rfl
                | i + 9, h => exact absurd h (by show ¬ (i + 9 < 9); omega)
              · intro af wF hbF hdF hsF hbaseF hfactF
                obtain ⟨T, dsF⟩ := af
                obtain rfl : dsF = _ := hdF
                have e0 := hbaseF 0 (not_dst (by kernel_rfl))
                simp only [List.getElem?_toArray, List.getElem?_cons_zero, Option.getD_some] at e0
                have e1 := hbaseF 1 (not_dst (by kernel_rfl))
                simp only [List.getElem?_toArray, List.getElem?_cons_zero, List.getElem?_cons_succ, Option.getD_some] at e1
                have e2 := hbaseF 2 (not_dst (by kernel_rfl))
                simp only [List.getElem?_toArray, List.getElem?_cons_zero, List.getElem?_cons_succ, Option.getD_some] at e2
                have e3 := hbaseF 3 (not_dst (by kernel_rfl))
                simp only [List.getElem?_toArray, List.getElem?_cons_zero, List.getElem?_cons_succ, Option.getD_some] at e3
                have e4 := hbaseF 4 (not_dst (by kernel_rfl))
                simp only [List.getElem?_toArray, List.getElem?_cons_zero, List.getElem?_cons_succ, Option.getD_some] at e4
                have e5 := hbaseF 5 (not_dst (by kernel_rfl))
                simp only [List.getElem?_toArray, List.getElem?_cons_zero, List.getElem?_cons_succ, Option.getD_some] at e5
                have e6 := hbaseF 6 (not_dst (by kernel_rfl))
                simp only [List.getElem?_toArray, List.getElem?_cons_zero, List.getElem?_cons_succ, Option.getD_some] at e6
                have e7 := hbaseF 7 (not_dst (by kernel_rfl))
                simp only [List.getElem?_toArray, List.getElem?_cons_zero, List.getElem?_cons_succ, Option.getD_some] at e7
                have e8 := hbaseF 8 (not_dst (by kernel_rfl))
                simp only [List.getElem?_toArray, List.getElem?_cons_zero, List.getElem?_cons_succ, Option.getD_some] at e8
                have e9 := hbaseF 9 (not_dst (by kernel_rfl))
                simp only [List.getElem?_toArray, List.getElem?_cons_zero, List.getElem?_cons_succ, Option.getD_some] at e9
                have e10 := hbaseF 10 (not_dst (by kernel_rfl))
                simp only [List.getElem?_toArray, List.getElem?_cons_zero, List.getElem?_cons_succ, Option.getD_some] at e10
                have e11 := hbaseF 11 (not_dst (by kernel_rfl))
                simp only [List.getElem?_toArray, List.getElem?_cons_zero, List.getElem?_cons_succ, Option.getD_some] at e11
                have e12 := hbaseF 12 (not_dst (by kernel_rfl))
                simp only [List.getElem?_toArray, List.getElem?_cons_zero, List.getElem?_cons_succ, Option.getD_some] at e12
                have e13 := hbaseF 13 (not_dst (by kernel_rfl))
                simp only [List.getElem?_toArray, List.getElem?_cons_zero, List.getElem?_cons_succ, Option.getD_some] at e13
                have e14 := hbaseF 14 (not_dst (by kernel_rfl))
                simp only [List.getElem?_toArray, List.getElem?_cons_zero, List.getElem?_cons_succ, Option.getD_some] at e14
                have e15 := hbaseF 15 (not_dst (by kernel_rfl))
                simp only [List.getElem?_toArray, List.getElem?_cons_zero, List.getElem?_cons_succ, Option.getD_some] at e15
                have e16 := hbaseF 16 (not_dst (by kernel_rfl))
                simp only [List.getElem?_toArray, List.getElem?_cons_zero, List.getElem?_cons_succ, Option.getD_some] at e16
                have e17 := hbaseF 17 (not_dst (by kernel_rfl))
                simp only [List.getElem?_toArray, List.getElem?_cons_zero, List.getElem?_cons_succ, Option.getD_some] at e17
                have e18 := hbaseF 18 (not_dst (by kernel_rfl))
                simp only [List.getElem?_toArray, List.getElem?_cons_zero, List.getElem?_cons_succ, Option.getD_some] at e18
                have e21 := hbaseF 21 (not_dst (by kernel_rfl))
                simp only [List.getElem?_toArray, List.getElem?_cons_zero, List.getElem?_cons_succ, Option.getD_some] at e21
                have e22 := hbaseF 22 (not_dst (by kernel_rfl))
                simp only [List.getElem?_toArray, List.getElem?_cons_zero, List.getElem?_cons_succ, Option.getD_some] at e22
                have e23 := hbaseF 23 (not_dst (by kernel_rfl))
                simp only [List.getElem?_toArray, List.getElem?_cons_zero, List.getElem?_cons_succ, Option.getD_some] at e23
                have e24 := hbaseF 24 (not_dst (by kernel_rfl))
                simp only [List.getElem?_toArray, List.getElem?_cons_zero, List.getElem?_cons_succ, Option.getD_some] at e24
                have e25 := hbaseF 25 (not_dst (by kernel_rfl))
                simp only [List.getElem?_toArray, List.getElem?_cons_zero, List.getElem?_cons_succ, Option.getD_some] at e25
                have e26 := hbaseF 26 (not_dst (by kernel_rfl))
                simp only [List.getElem?_toArray, List.getElem?_cons_zero, List.getElem?_cons_succ, Option.getD_some] at e26
                have e27 := hbaseF 27 (not_dst (by kernel_rfl))
                simp only [List.getElem?_toArray, List.getElem?_cons_zero, List.getElem?_cons_succ, Option.getD_some] at e27
                have e28 := hbaseF 28 (not_dst (by kernel_rfl))
                simp only [List.getElem?_toArray, List.getElem?_cons_zero, List.getElem?_cons_succ, Option.getD_some] at e28
                have e29 := hbaseF 29 (not_dst (by kernel_rfl))
                simp only [List.getElem?_toArray, List.getElem?_cons_zero, List.getElem?_cons_succ, Option.getD_some] at e29
                have e30 := hbaseF 30 (not_dst (by kernel_rfl))
                simp only [List.getElem?_toArray, List.getElem?_cons_zero, List.getElem?_cons_succ, Option.getD_some] at e30
                have e31 := hbaseF 31 (not_dst (by kernel_rfl))
                simp only [List.getElem?_toArray, List.getElem?_cons_zero, List.getElem?_cons_succ, Option.getD_some] at e31
                have e32 := hbaseF 32 (not_dst (by kernel_rfl))
                simp only [List.getElem?_toArray, List.getElem?_cons_zero, List.getElem?_cons_succ, Option.getD_some] at e32
                have e33 := hbaseF 33 (not_dst (by kernel_rfl))
                simp only [List.getElem?_toArray, List.getElem?_cons_zero, List.getElem?_cons_succ, Option.getD_some] at e33
                have e34 := hbaseF 34 (not_dst (by kernel_rfl))
                simp only [List.getElem?_toArray, List.getElem?_cons_zero, List.getElem?_cons_succ, Option.getD_some] at e34
                have e35 := hbaseF 35 (not_dst (by kernel_rfl))
                simp only [List.getElem?_toArray, List.getElem?_cons_zero, List.getElem?_cons_succ, Option.getD_some] at e35
                have e36 := hbaseF 36 (not_dst (by kernel_rfl))
                simp only [List.getElem?_toArray, List.getElem?_cons_zero, List.getElem?_cons_succ, Option.getD_some] at e36
                have e37 := hbaseF 37 (not_dst (by kernel_rfl))
                simp only [List.getElem?_toArray, List.getElem?_cons_zero, List.getElem?_cons_succ, Option.getD_some] at e37
                have e38 := hbaseF 38 (not_dst (by kernel_rfl))
                simp only [List.getElem?_toArray, List.getElem?_cons_zero, List.getElem?_cons_succ, Option.getD_some] at e38
                have e39 := hbaseF 39 (not_dst (by kernel_rfl))
                simp only [List.getElem?_toArray, List.getElem?_cons_zero, List.getElem?_cons_succ, Option.getD_some] at e39
                have e40 := hbaseF 40 (not_dst (by kernel_rfl))
                simp only [List.getElem?_toArray, List.getElem?_cons_zero, List.getElem?_cons_succ, Option.getD_some] at e40
                have e41 := hbaseF 41 (not_dst (by kernel_rfl))
                simp only [List.getElem?_toArray, List.getElem?_cons_zero, List.getElem?_cons_succ, Option.getD_some] at e41
                have e42 := hbaseF 42 (not_dst (by kernel_rfl))
                simp only [List.getElem?_toArray, List.getElem?_cons_zero, List.getElem?_cons_succ, Option.getD_some] at e42
                have e43 := hbaseF 43 (not_dst (by kernel_rfl))
                simp only [List.getElem?_toArray, List.getElem?_cons_zero, List.getElem?_cons_succ, Option.getD_some] at e43
                have e44 := hbaseF 44 (not_dst (by kernel_rfl))
                simp only [List.getElem?_toArray, List.getElem?_cons_zero, List.getElem?_cons_succ, Option.getD_some] at e44
                have e45 := hbaseF 45 (not_dst (by kernel_rfl))
                simp only [List.getElem?_toArray, List.getElem?_cons_zero, List.getElem?_cons_succ, Option.getD_some] at e45
                have e46 := hbaseF 46 (not_dst (by kernel_rfl))
                simp only [List.getElem?_toArray, List.getElem?_cons_zero, List.getElem?_cons_succ, Option.getD_some] at e46
                have e47 := hbaseF 47 (not_dst (by kernel_rfl))
                simp only [List.getElem?_toArray, List.getElem?_cons_zero, List.getElem?_cons_succ, Option.getD_some] at e47
                have e48 := hbaseF 48 (not_dst (by kernel_rfl))
                simp only [List.getElem?_toArray, List.getElem?_cons_zero, List.getElem?_cons_succ, Option.getD_some] at e48
                have e49 := hbaseF 49 (not_dst (by kernel_rfl))
                simp only [List.getElem?_toArray, List.getElem?_cons_zero, List.getElem?_cons_succ, Option.getD_some] at e49
                have e50 := hbaseF 50 (not_dst (by kernel_rfl))
                simp only [List.getElem?_toArray, List.getElem?_cons_zero, List.getElem?_cons_succ, Option.getD_some] at e50
                have e51 := hbaseF 51 (not_dst (by kernel_rfl))
                simp only [List.getElem?_toArray, List.getElem?_cons_zero, List.getElem?_cons_succ, Option.getD_some] at e51
                have e52 := hbaseF 52 (not_dst (by kernel_rfl))
                simp only [List.getElem?_toArray, List.getElem?_cons_zero, List.getElem?_cons_succ, Option.getD_some] at e52
                have e53 := hbaseF 53 (not_dst (by kernel_rfl))
                simp only [List.getElem?_toArray, List.getElem?_cons_zero, List.getElem?_cons_succ, Option.getD_some] at e53
                have e54 := hbaseF 54 (not_dst (by kernel_rfl))
                simp only [List.getElem?_toArray, List.getElem?_cons_zero, List.getElem?_cons_succ, Option.getD_some] at e54
                have e55 := hbaseF 55 (not_dst (by kernel_rfl))
                simp only [List.getElem?_toArray, List.getElem?_cons_zero, List.getElem?_cons_succ, Option.getD_some] at e55
                have e56 := hbaseF 56 (not_dst (by kernel_rfl))
                simp only [List.getElem?_toArray, List.getElem?_cons_zero, List.getElem?_cons_succ, Option.getD_some] at e56
                have e57 := hbaseF 57 (not_dst (by kernel_rfl))
                simp only [List.getElem?_toArray, List.getElem?_cons_zero, List.getElem?_cons_succ, Option.getD_some] at e57
                have e58 := hbaseF 58 (not_dst (by kernel_rfl))
                simp only [List.getElem?_toArray, List.getElem?_cons_zero, List.getElem?_cons_succ, Option.getD_some] at e58
                have e59 := hbaseF 59 (not_dst (by kernel_rfl))
                simp only [List.getElem?_toArray, List.getElem?_cons_zero, List.getElem?_cons_succ, Option.getD_some] at e59
                have e60 := hbaseF 60 (not_dst (by kernel_rfl))
                simp only [List.getElem?_toArray, List.getElem?_cons_zero, List.getElem?_cons_succ, Option.getD_some] at e60
                have e61 := hbaseF 61 (not_dst (by kernel_rfl))
                simp only [List.getElem?_toArray, List.getElem?_cons_zero, List.getElem?_cons_succ, Option.getD_some] at e61
                have e62 := hbaseF 62 (not_dst (by kernel_rfl))
                simp only [List.getElem?_toArray, List.getElem?_cons_zero, List.getElem?_cons_succ, Option.getD_some] at e62
                have e63 := hbaseF 63 (not_dst (by kernel_rfl))
                simp only [List.getElem?_toArray, List.getElem?_cons_zero, List.getElem?_cons_succ, Option.getD_some] at e63
                have e64 := hbaseF 64 (not_dst (by kernel_rfl))
                simp only [List.getElem?_toArray, List.getElem?_cons_zero, List.getElem?_cons_succ, Option.getD_some] at e64
                have e65 := hbaseF 65 (not_dst (by kernel_rfl))
                simp only [List.getElem?_toArray, List.getElem?_cons_zero, List.getElem?_cons_succ, Option.getD_some] at e65
                have e66 := hbaseF 66 (not_dst (by kernel_rfl))
                simp only [List.getElem?_toArray, List.getElem?_cons_zero, List.getElem?_cons_succ, Option.getD_some] at e66
                have e67 := hbaseF 67 (not_dst (by kernel_rfl))
                simp only [List.getElem?_toArray, List.getElem?_cons_zero, List.getElem?_cons_succ, Option.getD_some] at e67
                have e68 := hbaseF 68 (not_dst (by kernel_rfl))
                simp only [List.getElem?_toArray, List.getElem?_cons_zero, List.getElem?_cons_succ, Option.getD_some] at e68
                have e69 := hbaseF 69 (not_dst (by kernel_rfl))
                simp only [List.getElem?_toArray, List.getElem?_cons_zero, List.getElem?_cons_succ, Option.getD_some] at e69
                have e70 := hbaseF 70 (not_dst (by kernel_rfl))
                simp only [List.getElem?_toArray, List.getElem?_cons_zero, List.getElem?_cons_succ, Option.getD_some] at e70
                have e71 := hbaseF 71 (not_dst (by kernel_rfl))
                simp only [List.getElem?_toArray, List.getElem?_cons_zero, List.getElem?_cons_succ, Option.getD_some] at e71
                have e72 := hbaseF 72 (not_dst (by kernel_rfl))
                simp only [List.getElem?_toArray, List.getElem?_cons_zero, List.getElem?_cons_succ, Option.getD_some] at e72
                have e73 := hbaseF 73 (not_dst (by kernel_rfl))
                simp only [List.getElem?_toArray, List.getElem?_cons_zero, List.getElem?_cons_succ, Option.getD_some] at e73
                have e74 := hbaseF 74 (not_dst (by kernel_rfl))
                simp only [List.getElem?_toArray, List.getElem?_cons_zero, List.getElem?_cons_succ, Option.getD_some] at e74
                have e75 := hbaseF 75 (not_dst (by kernel_rfl))
                simp only [List.getElem?_toArray, List.getElem?_cons_zero, List.getElem?_cons_succ, Option.getD_some] at e75
                have e76 := hbaseF 76 (not_dst (by kernel_rfl))
                simp only [List.getElem?_toArray, List.getElem?_cons_zero, List.getElem?_cons_succ, Option.getD_some] at e76
                have e77 := hbaseF 77 (not_dst (by kernel_rfl))
                simp only [List.getElem?_toArray, List.getElem?_cons_zero, List.getElem?_cons_succ, Option.getD_some] at e77
                have e78 := hbaseF 78 (not_dst (by kernel_rfl))
                simp only [List.getElem?_toArray, List.getElem?_cons_zero, List.getElem?_cons_succ, Option.getD_some] at e78
                have e79 := hbaseF 79 (not_dst (by kernel_rfl))
                simp only [List.getElem?_toArray, List.getElem?_cons_zero, List.getElem?_cons_succ, Option.getD_some] at e79
                have e80 := hbaseF 80 (not_dst (by kernel_rfl))
                simp only [List.getElem?_toArray, List.getElem?_cons_zero, List.getElem?_cons_succ, Option.getD_some] at e80
                have e81 := hbaseF 81 (not_dst (by kernel_rfl))
                simp only [List.getElem?_toArray, List.getElem?_cons_zero, List.getElem?_cons_succ, Option.getD_some] at e81
                have e82 := hbaseF 82 (not_dst (by kernel_rfl))
                simp only [List.getElem?_toArray, List.getElem?_cons_zero, List.getElem?_cons_succ, Option.getD_some] at e82
                have e83 := hbaseF 83 (not_dst (by kernel_rfl))
                simp only [List.getElem?_toArray, List.getElem?_cons_zero, List.getElem?_cons_succ, Option.getD_some] at e83
                have e84 := hbaseF 84 (not_dst (by kernel_rfl))
                simp only [List.getElem?_toArray, List.getElem?_cons_zero, List.getElem?_cons_succ, Option.getD_some] at e84
                have e85 := hbaseF 85 (not_dst (by kernel_rfl))
                simp only [List.getElem?_toArray, List.getElem?_cons_zero, List.getElem?_cons_succ, Option.getD_some] at e85
                have e86 := hbaseF 86 (not_dst (by kernel_rfl))
                simp only [List.getElem?_toArray, List.getElem?_cons_zero, List.getElem?_cons_succ, Option.getD_some] at e86
                have e87 := hbaseF 87 (not_dst (by kernel_rfl))
                simp only [List.getElem?_toArray, List.getElem?_cons_zero, List.getElem?_cons_succ, Option.getD_some] at e87
                have e88 := hbaseF 88 (not_dst (by kernel_rfl))
                simp only [List.getElem?_toArray, List.getElem?_cons_zero, List.getElem?_cons_succ, Option.getD_some] at e88
                have e89 := hbaseF 89 (not_dst (by kernel_rfl))
                simp only [List.getElem?_toArray, List.getElem?_cons_zero, List.getElem?_cons_succ, Option.getD_some] at e89
                have e90 := hbaseF 90 (not_dst (by kernel_rfl))
                simp only [List.getElem?_toArray, List.getElem?_cons_zero, List.getElem?_cons_succ, Option.getD_some] at e90
                have e91 := hbaseF 91 (not_dst (by kernel_rfl))
                simp only [List.getElem?_toArray, List.getElem?_cons_zero, List.getElem?_cons_succ, Option.getD_some] at e91
                have e92 := hbaseF 92 (not_dst (by kernel_rfl))
                simp only [List.getElem?_toArray, List.getElem?_cons_zero, List.getElem?_cons_succ, Option.getD_some] at e92
                have e93 := hbaseF 93 (not_dst (by kernel_rfl))
                simp only [List.getElem?_toArray, List.getElem?_cons_zero, List.getElem?_cons_succ, Option.getD_some] at e93
                have e94 := hbaseF 94 (not_dst (by kernel_rfl))
                simp only [List.getElem?_toArray, List.getElem?_cons_zero, List.getElem?_cons_succ, Option.getD_some] at e94
                have e95 := hbaseF 95 (not_dst (by kernel_rfl))
                simp only [List.getElem?_toArray, List.getElem?_cons_zero, List.getElem?_cons_succ, Option.getD_some] at e95
                have e96 := hbaseF 96 (not_dst (by kernel_rfl))
                simp only [List.getElem?_toArray, List.getElem?_cons_zero, List.getElem?_cons_succ, Option.getD_some] at e96
                have e97 := hbaseF 97 (not_dst (by kernel_rfl))
                simp only [List.getElem?_toArray, List.getElem?_cons_zero, List.getElem?_cons_succ, Option.getD_some] at e97
                have e98 := hbaseF 98 (not_dst (by kernel_rfl))
                simp only [List.getElem?_toArray, List.getElem?_cons_zero, List.getElem?_cons_succ, Option.getD_some] at e98
                have e99 := hbaseF 99 (not_dst (by kernel_rfl))
                simp only [List.getElem?_toArray, List.getElem?_cons_zero, List.getElem?_cons_succ, Option.getD_some] at e99
                have e100 := hbaseF 100 (not_dst (by kernel_rfl))
                simp only [List.getElem?_toArray, List.getElem?_cons_zero, List.getElem?_cons_succ, Option.getD_some] at e100
                have e101 := hbaseF 101 (not_dst (by kernel_rfl))
                simp only [List.getElem?_toArray, List.getElem?_cons_zero, List.getElem?_cons_succ, Option.getD_some] at e101
                have e102 := hbaseF 102 (not_dst (by kernel_rfl))
                simp only [List.getElem?_toArray, List.getElem?_cons_zero, List.getElem?_cons_succ, Option.getD_some] at e102
                have e103 := hbaseF 103 (not_dst (by kernel_rfl))
                simp only [List.getElem?_toArray, List.getElem?_cons_zero, List.getElem?_cons_succ, Option.getD_some] at e103
                have e104 := hbaseF 104 (not_dst (by kernel_rfl))
                simp only [List.getElem?_toArray, List.getElem?_cons_zero, List.getElem?_cons_succ, Option.getD_some] at e104
                have e105 := hbaseF 105 (not_dst (by kernel_rfl))
                simp only [List.getElem?_toArray, List.getElem?_cons_zero, List.getElem?_cons_succ, Option.getD_some] at e105
                have e106 := hbaseF 106 (not_dst (by kernel_rfl))
                simp only [List.getElem?_toArray, List.getElem?_cons_zero, List.getElem?_cons_succ, Option.getD_some] at e106
                have e107 := hbaseF 107 (not_dst (by kernel_rfl))
                simp only [List.getElem?_toArray, List.getElem?_cons_zero, List.getElem?_cons_succ, Option.getD_some] at e107
                have e108 := hbaseF 108 (not_dst (by kernel_rfl))
                simp only [List.getElem?_toArray, List.getElem?_cons_zero, List.getElem?_cons_succ, Option.getD_some] at e108
                have e109 := hbaseF 109 (not_dst (by kernel_rfl))
                simp only [List.getElem?_toArray, List.getElem?_cons_zero, List.getElem?_cons_succ, Option.getD_some] at e109
                have e110 := hbaseF 110 (not_dst (by kernel_rfl))
                simp only [List.getElem?_toArray, List.getElem?_cons_zero, List.getElem?_cons_succ, Option.getD_some] at e110
                have e111 := hbaseF 111 (not_dst (by kernel_rfl))
                simp only [List.getElem?_toArray, List.getElem?_cons_zero, List.getElem?_cons_succ, Option.getD_some] at e111
                have e112 := hbaseF 112 (not_dst (by kernel_rfl))
                simp only [List.getElem?_toArray, List.getElem?_cons_zero, List.getElem?_cons_succ, Option.getD_some] at e112
                have e113 := hbaseF 113 (not_dst (by kernel_rfl))
                simp only [List.getElem?_toArray, List.getElem?_cons_zero, List.getElem?_cons_succ, Option.getD_some] at e113
                have e114 := hbaseF 114 (not_dst (by kernel_rfl))
                simp only [List.getElem?_toArray, List.getElem?_cons_zero, List.getElem?_cons_succ, Option.getD_some] at e114
                have e115 := hbaseF 115 (not_dst (by kernel_rfl))
                simp only [List.getElem?_toArray, List.getElem?_cons_zero, List.getElem?_cons_succ, Option.getD_some] at e115
                have e116 := hbaseF 116 (not_dst (by kernel_rfl))
                simp only [List.getElem?_toArray, List.getElem?_cons_zero, List.getElem?_cons_succ, Option.getD_some] at e116
                have e117 := hbaseF 117 (not_dst (by kernel_rfl))
                simp only [List.getElem?_toArray, List.getElem?_cons_zero, List.getElem?_cons_succ, Option.getD_some] at e117
                have e118 := hbaseF 118 (not_dst (by kernel_rfl))
                simp only [List.getElem?_toArray, List.getElem?_cons_zero, List.getElem?_cons_succ, Option.getD_some] at e118
                have e119 := hbaseF 119 (not_dst (by kernel_rfl))
                simp only [List.getElem?_toArray, List.getElem?_cons_zero, List.getElem?_cons_succ, Option.getD_some] at e119
                have e120 := hbaseF 120 (not_dst (by kernel_rfl))
                simp only [List.getElem?_toArray, List.getElem?_cons_zero, List.getElem?_cons_succ, Option.getD_some] at e120
                have e121 := hbaseF 121 (not_dst (by kernel_rfl))
                simp only [List.getElem?_toArray, List.getElem?_cons_zero, List.getElem?_cons_succ, Option.getD_some] at e121
                have e122 := hbaseF 122 (not_dst (by kernel_rfl))
                simp only [List.getElem?_toArray, List.getElem?_cons_zero, List.getElem?_cons_succ, Option.getD_some] at e122
                have e123 := hbaseF 123 (not_dst (by kernel_rfl))
                simp only [List.getElem?_toArray, List.getElem?_cons_zero, List.getElem?_cons_succ, Option.getD_some] at e123
                have e124 := hbaseF 124 (not_dst (by kernel_rfl))
                simp only [List.getElem?_toArray, List.getElem?_cons_zero, List.getElem?_cons_succ, Option.getD_some] at e124
                have e125 := hbaseF 125 (not_dst (by kernel_rfl))
                simp only [List.getElem?_toArray, List.getElem?_cons_zero, List.getElem?_cons_succ, Option.getD_some] at e125
                have e126 := hbaseF 126 (not_dst (by kernel_rfl))
                simp only [List.getElem?_toArray, List.getElem?_cons_zero, List.getElem?_cons_succ, Option.getD_some] at e126
                have e127 := hbaseF 127 (not_dst (by kernel_rfl))
                simp only [List.getElem?_toArray, List.getElem?_cons_zero, List.getElem?_cons_succ, Option.getD_some] at e127
                have e128 := hbaseF 128 (not_dst (by kernel_rfl))
                simp only [List.getElem?_toArray, List.getElem?_cons_zero, List.getElem?_cons_succ, Option.getD_some] at e128
                have e136 := hbaseF 136 (not_dst (by kernel_rfl))
                simp only [List.getElem?_toArray, List.getElem?_cons_zero, List.getElem?_cons_succ, Option.getD_some] at e136
                have e137 := hbaseF 137 (not_dst (by kernel_rfl))
                simp only [List.getElem?_toArray, List.getElem?_cons_zero, List.getElem?_cons_succ, Option.getD_some] at e137
                have e138 := hbaseF 138 (not_dst (by kernel_rfl))
                simp only [List.getElem?_toArray, List.getElem?_cons_zero, List.getElem?_cons_succ, Option.getD_some] at e138
                have e139 := hbaseF 139 (not_dst (by kernel_rfl))
                simp only [List.getElem?_toArray, List.getElem?_cons_zero, List.getElem?_cons_succ, Option.getD_some] at e139
                have e140 := hbaseF 140 (not_dst (by kernel_rfl))
                simp only [List.getElem?_toArray, List.getElem?_cons_zero, List.getElem?_cons_succ, Option.getD_some] at e140
                have e20 := hfactF 8 20 (by decide) rfl
                replace e20 : T[20]?.getD undef = .int .i64 1 := e20
                clear hbaseF hfactF
                have hT : T = #[T[0]?.getD undef, T[1]?.getD undef, T[2]?.getD undef, T[3]?.getD undef, T[4]?.getD undef, T[5]?.getD undef, T[6]?.getD undef, T[7]?.getD undef, T[8]?.getD undef, T[9]?.getD undef, T[10]?.getD undef, T[11]?.getD undef, T[12]?.getD undef, T[13]?.getD undef, T[14]?.getD undef, T[15]?.getD undef, T[16]?.getD undef, T[17]?.getD undef, T[18]?.getD undef, T[19]?.getD undef, T[20]?.getD undef, T[21]?.getD undef, T[22]?.getD undef, T[23]?.getD undef, T[24]?.getD undef, T[25]?.getD undef, T[26]?.getD undef, T[27]?.getD undef, T[28]?.getD undef, T[29]?.getD undef, T[30]?.getD undef, T[31]?.getD undef, T[32]?.getD undef, T[33]?.getD undef, T[34]?.getD undef, T[35]?.getD undef, T[36]?.getD undef, T[37]?.getD undef, T[38]?.getD undef, T[39]?.getD undef, T[40]?.getD undef, T[41]?.getD undef, T[42]?.getD undef, T[43]?.getD undef, T[44]?.getD undef, T[45]?.getD undef, T[46]?.getD undef, T[47]?.getD undef, T[48]?.getD undef, T[49]?.getD undef, T[50]?.getD undef, T[51]?.getD undef, T[52]?.getD undef, T[53]?.getD undef, T[54]?.getD undef, T[55]?.getD undef, T[56]?.getD undef, T[57]?.getD undef, T[58]?.getD undef, T[59]?.getD undef, T[60]?.getD undef, T[61]?.getD undef, T[62]?.getD undef, T[63]?.getD undef, T[64]?.getD undef, T[65]?.getD undef, T[66]?.getD undef, T[67]?.getD undef, T[68]?.getD undef, T[69]?.getD undef, T[70]?.getD undef, T[71]?.getD undef, T[72]?.getD undef, T[73]?.getD undef, T[74]?.getD undef, T[75]?.getD undef, T[76]?.getD undef, T[77]?.getD undef, T[78]?.getD undef, T[79]?.getD undef, T[80]?.getD undef, T[81]?.getD undef, T[82]?.getD undef, T[83]?.getD undef, T[84]?.getD undef, T[85]?.getD undef, T[86]?.getD undef, T[87]?.getD undef, T[88]?.getD undef, T[89]?.getD undef, T[90]?.getD undef, T[91]?.getD undef, T[92]?.getD undef, T[93]?.getD undef, T[94]?.getD undef, T[95]?.getD undef, T[96]?.getD undef, T[97]?.getD undef, T[98]?.getD undef, T[99]?.getD undef, T[100]?.getD undef, T[101]?.getD undef, T[102]?.getD undef, T[103]?.getD undef, T[104]?.getD undef, T[105]?.getD undef, T[106]?.getD undef, T[107]?.getD undef, T[108]?.getD undef, T[109]?.getD undef, T[110]?.getD undef, T[111]?.getD undef, T[112]?.getD undef, T[113]?.getD undef, T[114]?.getD undef, T[115]?.getD undef, T[116]?.getD undef, T[117]?.getD undef, T[118]?.getD undef, T[119]?.getD undef, T[120]?.getD undef, T[121]?.getD undef, T[122]?.getD undef, T[123]?.getD undef, T[124]?.getD undef, T[125]?.getD undef, T[126]?.getD undef, T[127]?.getD undef, T[128]?.getD undef, T[129]?.getD undef, T[130]?.getD undef, T[131]?.getD undef, T[132]?.getD undef, T[133]?.getD undef, T[134]?.getD undef, T[135]?.getD undef, T[136]?.getD undef, T[137]?.getD undef, T[138]?.getD undef, T[139]?.getD undef, T[140]?.getD undef] := arr_eq T 141 hsF
                clear hsF
                rw [e0] at hT; clear e0
                rw [e1] at hT; clear e1
                rw [e2] at hT; clear e2
                rw [e3] at hT; clear e3
                rw [e4] at hT; clear e4
                rw [e5] at hT; clear e5
                rw [e6] at hT; clear e6
                rw [e7] at hT; clear e7
                rw [e8] at hT; clear e8
                rw [e9] at hT; clear e9
                rw [e10] at hT; clear e10
                rw [e11] at hT; clear e11
                rw [e12] at hT; clear e12
                rw [e13] at hT; clear e13
                rw [e14] at hT; clear e14
                rw [e15] at hT; clear e15
                rw [e16] at hT; clear e16
                rw [e17] at hT; clear e17
                rw [e18] at hT; clear e18
                generalize T[19]?.getD undef = u19 at hT
                rw [e20] at hT; clear e20
                rw [e21] at hT; clear e21
                rw [e22] at hT; clear e22
                rw [e23] at hT; clear e23
                rw [e24] at hT; clear e24
                rw [e25] at hT; clear e25
                rw [e26] at hT; clear e26
                rw [e27] at hT; clear e27
                rw [e28] at hT; clear e28
                rw [e29] at hT; clear e29
                rw [e30] at hT; clear e30
                rw [e31] at hT; clear e31
                rw [e32] at hT; clear e32
                rw [e33] at hT; clear e33
                rw [e34] at hT; clear e34
                rw [e35] at hT; clear e35
                rw [e36] at hT; clear e36
                rw [e37] at hT; clear e37
                rw [e38] at hT; clear e38
                rw [e39] at hT; clear e39
                rw [e40] at hT; clear e40
                rw [e41] at hT; clear e41
                rw [e42] at hT; clear e42
                rw [e43] at hT; clear e43
                rw [e44] at hT; clear e44
                rw [e45] at hT; clear e45
                rw [e46] at hT; clear e46
                rw [e47] at hT; clear e47
                rw [e48] at hT; clear e48
                rw [e49] at hT; clear e49
                rw [e50] at hT; clear e50
                rw [e51] at hT; clear e51
                rw [e52] at hT; clear e52
                rw [e53] at hT; clear e53
                rw [e54] at hT; clear e54
                rw [e55] at hT; clear e55
                rw [e56] at hT; clear e56
                rw [e57] at hT; clear e57
                rw [e58] at hT; clear e58
                rw [e59] at hT; clear e59
                rw [e60] at hT; clear e60
                rw [e61] at hT; clear e61
                rw [e62] at hT; clear e62
                rw [e63] at hT; clear e63
                rw [e64] at hT; clear e64
                rw [e65] at hT; clear e65
                rw [e66] at hT; clear e66
                rw [e67] at hT; clear e67
                rw [e68] at hT; clear e68
                rw [e69] at hT; clear e69
                rw [e70] at hT; clear e70
                rw [e71] at hT; clear e71
                rw [e72] at hT; clear e72
                rw [e73] at hT; clear e73
                rw [e74] at hT; clear e74
                rw [e75] at hT; clear e75
                rw [e76] at hT; clear e76
                rw [e77] at hT; clear e77
                rw [e78] at hT; clear e78
                rw [e79] at hT; clear e79
                rw [e80] at hT; clear e80
                rw [e81] at hT; clear e81
                rw [e82] at hT; clear e82
                rw [e83] at hT; clear e83
                rw [e84] at hT; clear e84
                rw [e85] at hT; clear e85
                rw [e86] at hT; clear e86
                rw [e87] at hT; clear e87
                rw [e88] at hT; clear e88
                rw [e89] at hT; clear e89
                rw [e90] at hT; clear e90
                rw [e91] at hT; clear e91
                rw [e92] at hT; clear e92
                rw [e93] at hT; clear e93
                rw [e94] at hT; clear e94
                rw [e95] at hT; clear e95
                rw [e96] at hT; clear e96
                rw [e97] at hT; clear e97
                rw [e98] at hT; clear e98
                rw [e99] at hT; clear e99
                rw [e100] at hT; clear e100
                rw [e101] at hT; clear e101
                rw [e102] at hT; clear e102
                rw [e103] at hT; clear e103
                rw [e104] at hT; clear e104
                rw [e105] at hT; clear e105
                rw [e106] at hT; clear e106
                rw [e107] at hT; clear e107
                rw [e108] at hT; clear e108
                rw [e109] at hT; clear e109
                rw [e110] at hT; clear e110
                rw [e111] at hT; clear e111
                rw [e112] at hT; clear e112
                rw [e113] at hT; clear e113
                rw [e114] at hT; clear e114
                rw [e115] at hT; clear e115
                rw [e116] at hT; clear e116
                rw [e117] at hT; clear e117
                rw [e118] at hT; clear e118
                rw [e119] at hT; clear e119
                rw [e120] at hT; clear e120
                rw [e121] at hT; clear e121
                rw [e122] at hT; clear e122
                rw [e123] at hT; clear e123
                rw [e124] at hT; clear e124
                rw [e125] at hT; clear e125
                rw [e126] at hT; clear e126
                rw [e127] at hT; clear e127
                rw [e128] at hT; clear e128
                generalize T[129]?.getD undef = u129 at hT
                generalize T[130]?.getD undef = u130 at hT
                generalize T[131]?.getD undef = u131 at hT
                generalize T[132]?.getD undef = u132 at hT
                generalize T[133]?.getD undef = u133 at hT
                generalize T[134]?.getD undef = u134 at hT
                generalize T[135]?.getD undef = u135 at hT
                rw [e136] at hT; clear e136
                rw [e137] at hT; clear e137
                rw [e138] at hT; clear e138
                rw [e139] at hT; clear e139
                rw [e140] at hT; clear e140
                subst hT
                go_wp2_with fail
                refine (sawake_any _).mono ?_
                rintro e w5 ⟨rfl, hb5⟩
                go_wp2_with fail
                go_ret
                exact ⟨rfl, (by (have q_hb5 := Below.size hb5; (try simp at q_hb5); have q_hbF := Below.size hbF; (try simp at q_hbF); have q_hbi := Below.size hbi; (try simp at q_hbi); repeat (first | exact Below.refl _ _ | (refine Below.trans ?_ (Below.mono hb5 (by first | omega | (simp; omega) | simp))) | (refine Below.trans ?_ (Below.mono hbF (by first | omega | (simp; omega) | simp))) | (refine Below.trans ?_ (Below.mono hbi (by first | omega | (simp; omega) | simp))) | (refine Below.setCell ?_ (by first | omega | (simp; omega) | simp) _) | (refine Below.alloc ?_ (by first | omega | (simp; omega) | simp) _) | apply Below.drew | apply below_drewN)))⟩
end Go.Proofs.Ythepgnankelmeaa
