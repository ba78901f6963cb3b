/- The walk of the statement PagesBytes: all may be written. -/
import Derived.Test.YtidlcplamgajpaaPgB6
import Derived.Test.YtidlcplamgajpaaConv
namespace Go.Proofs.Ytidlcplamgajpaa
open Go.RowKit

/-- Pages that the document reads, in a slot. -/
def IsPg (n : Nat) (l : List Pg) (v : Value) (w : World) : Prop := ∃ A c, v = .slice A n c ∧ RdG pgE w A n l ∧ n ≤ c ∧ c ≤ maxLen
theorem Stab.pg (n : Nat) (l : List Pg) : Stab (IsPg n l) := fun _ _ _ hb ⟨A, c, e, h, h1⟩ => ⟨A, c, e, h.below hb, h1⟩
def lenV : Value → Nat
  | .slice _ n _ => n
  | _ => 0
def padP (l : List Pg) : List Pg := l ++ List.replicate (16 - l.length) (0, 0, 0, 0, 0)
theorem padP_len {l : List Pg} (h : l.length ≤ 16) : (padP l).length = 16 := by simp [padP]; omega
theorem zero_may : mayB (0, 0, 0, 0, 0) = true := by decide
theorem all_may {l : List Pg} (h : l.any badB = false) : ∀ x ∈ l, mayB x = true := fun x hx => by
  have := (List.any_eq_false.1 h) x hx
  simpa [badB] using this
theorem pad_ok {l : List Pg} (hl : l.length ≤ 16) (h : l.any badB = false) : okB (pgsL l) = true := by
  have hm := all_may h
  unfold okB
  rw [parse_back l hl (fun x hx => may_room (hm x hx)), List.all_eq_true]
  intro x hx
  rcases List.mem_append.1 hx with hx | hx
  · exact hm x hx
  · rw [(List.mem_replicate.1 hx).2]
    exact zero_may
set_option maxRecDepth 100000 in
set_option maxHeartbeats 4000000 in
theorem law_pbytes_yes (A : Option Addr) (n c : Nat) (l0 : List Pg) (w : World) (hr0 : RdG pgE w A n l0) (hnc : n ≤ c) (hc : c ≤ maxLen) (hs16 : min n 70 ≤ 16) (hyes : (l0.take (min n 70)).any badB = false) :
    Calls Try.prog 9 #[.slice A n c] w fun e w' => e = .returned (.bool true) ∧ Below w.heap.size w w' := by
  obtain ⟨s, hs⟩ : ∃ s, min n 70 = s := ⟨_, rfl⟩
  obtain ⟨l, hl⟩ : ∃ l, l0.take s = l := ⟨_, rfl⟩
  rw [hs] at hs16
  rw [hs, hl] at hyes
  have hr : RdG pgE w A s l := by rw [← hl]; have := hr0.cutTo (min n 70) (by omega); rw [hs] at this; exact this
  have hlen := hr.len
  have HS := Lib.hid hs
  have HY := Lib.hid hyes
  have HM := Lib.hid (all_may hyes)
  have HOK := Lib.hid (pad_ok (by omega) hyes)
  have HPB := Lib.hid (parse_back l (by omega) (fun x hx => may_room (all_may hyes x hx)))
  clear hl hs hr0 hyes
  go_enter Try.func9, Try.ntmps9
  go_wp2_with fail
  refine (few_any _ _ _ _ hnc hc).mono ?_
  rintro e w1 ⟨rfl, rfl⟩
  rw [HS.out]
  go_wp2_with fail
  refine (ours_any A s c l _ hr (by omega)).mono ?_
  rintro e w1 ⟨v, rfl, hF1, hb1⟩
  obtain ⟨A1, c1, rfl, hR1, _, hc1, hc2⟩ := hF1.rdn s hlen
  clear hF1
  go_wp2_with fail
  have h16' : ¬ (16 : Int) < s := by omega
  refine (pgbytes_yes A1 s c1 l _ hR1 hs16 HY.out (fun x hx => may_room (HM.out x hx))).mono ?_
  rintro e w2 ⟨vb, rfl, hFb, hb2⟩
  obtain ⟨A3, c3, rfl, hR3, _, hc3, hm3⟩ := hFb.rdn 256 (by unfold pgsL; exact padL_len _ _)
  obtain ⟨ab, off, rfl, _⟩ := hR3.2 (by omega)
  have b2 : Below w.heap.size w w2 := (by (have q_hb2 := Below.size hb2; (try simp at q_hb2); have q_hb1 := Below.size hb1; (try simp at q_hb1); repeat (first | exact Below.refl _ _ | (refine Below.trans ?_ (Below.mono hb2 (by first | omega | (simp; omega) | simp))) | (refine Below.trans ?_ (Below.mono hb1 (by first | omega | (simp; omega) | simp))) | (refine Below.setCell ?_ (by first | omega | (simp; omega) | simp) _) | (refine Below.alloc ?_ (by first | omega | (simp; omega) | simp) _) | apply Below.drew | apply below_drewN)))
  have hz2 := b2.size
  clear hb1 hb2 hR1
  go_wp2_with fail
  go_loopw [33] (fun i wr => ∃ k : Nat, k ≤ s ∧ i = .int .i64 k ∧ Below w2.heap.size w2 wr) (fun i _ => s - (intOf i).toNat)
  case atStart => exact ⟨0, by omega, rfl, Below.refl _ _⟩
  case round =>
    obtain ⟨k, hk, rfl, hbel⟩ := hrel
    have hbz := hbel.size
    by_cases hlt : k < s
    · have hltI : (k : Int) < s := by omega
      obtain ⟨b, off, x, rfl, hb, hx, hcell⟩ := (hr.on (b2.trans (hbel.mono hz2)) (Nat.le_refl _)).at_ hlt
      have c0 := hcell 0 _ rfl
      have c1' := hcell 1 _ rfl
      have c2' := hcell 2 _ rfl
      have c3 := hcell 3 _ rfl
      have c4 := hcell 4 _ rfl
      simp only [show pgE.sz = 5 from rfl, Nat.add_zero] at c0 c1' c2' c3 c4
      obtain ⟨p1, p2, p3, p4, p5⟩ := x
      simp only at c0 c1' c2' c3 c4
      clear hcell
      have HG := Lib.hid (HM.out _ (List.mem_of_getElem? hx))
      clear hx
      go_wp2_with fail
      refine (rone_any p1 p2 p3 p4 p5 _).mono ?_
      rintro e w3 ⟨rfl, hb3⟩
      rw [HG.out]
      have b3 : Below w2.heap.size w2 w3 := (by (have q_hb3 := Below.size hb3; (try simp at q_hb3); have q_hbel := Below.size hbel; (try simp at q_hbel); repeat (first | exact Below.refl _ _ | (refine Below.trans ?_ (Below.mono hb3 (by first | omega | (simp; omega) | simp))) | (refine Below.trans ?_ (Below.mono hbel (by first | omega | (simp; omega) | simp))) | (refine Below.setCell ?_ (by first | omega | (simp; omega) | simp) _) | (refine Below.alloc ?_ (by first | omega | (simp; omega) | simp) _) | apply Below.drew | apply below_drewN)))
      clear c0 c1' c2' c3 c4 hb3
      go_wp2_with fail
      go_roundw
      case rel => exact ⟨k + 1, by omega, by go_num, (by (have q_b3 := Below.size b3; (try simp at q_b3); repeat (first | exact Below.refl _ _ | (refine Below.trans ?_ (Below.mono b3 (by first | omega | (simp; omega) | simp))) | (refine Below.setCell ?_ (by first | omega | (simp; omega) | simp) _) | (refine Below.alloc ?_ (by first | omega | (simp; omega) | simp) _) | apply Below.drew | apply below_drewN)))⟩
      case measure => simp [intOf] <;> omega
    · obtain rfl : k = s := by omega
      go_wp2_with fail
      refine (pgparse_any ab off c3 (pgsL l) _ (hR3.below hbel) hc3 hm3).mono ?_
      intro e w4 hP
      obtain ⟨_, v4, rfl, hF4, hb4⟩ := hP.resolve_right (fun h => by rw [HOK.out] at h; cases h.1)
      clear hP
      rw [HPB.out] at hF4
      obtain ⟨A7, c7, rfl, hR7, _, hc7, hm7⟩ := hF4.rdn 16 (padP_len (by omega))
      have bw2 : Below w.heap.size w w4 := b2.trans ((hbel.trans (hb4.mono hbz)).mono hz2)
      have hr4 := hr.on bw2 (Nat.le_refl _)
      have hR34 := hR3.below (hbel.trans (hb4.mono hbz))
      have hzw := bw2.size
      clear hF4 hR3 hFb hbel hb4 b2
      go_wp2_with (at_builtin; refine wpList_append_G (E := pgE) _ rfl (.tmp 56) (.tmp 57) _ rfl w4.heap.size 33 Try.underlying22 infoRP rfl _ [] rfl (FreshG.of_blk (Blk.new w4 _ _) (Nat.le_refl _) (by unfold maxLen; omega) rfl rfl) _ _ _ l rfl (hr4.alloc _) (by simp; omega) (by simp; omega) (by simp) ?_; intro v9 w5 hF5 hg5 hb5)
      have b5 : Below w4.heap.size w4 w5 := (by (have q_hb5 := Below.size hb5; (try simp at q_hb5); repeat (first | exact Below.refl _ _ | (refine Below.trans ?_ (Below.mono hb5 (by first | omega | (simp; omega) | simp))) | (refine Below.setCell ?_ (by first | omega | (simp; omega) | simp) _) | (refine Below.alloc ?_ (by first | omega | (simp; omega) | simp) _) | apply Below.drew | apply below_drewN)))
      have hz5 := b5.size
      clear hg5 hb5 hr4
      rw [List.nil_append] at hF5
      obtain ⟨A9, c9, rfl, _, _, _, _⟩ := hF5.rdn k hlen
      go_loopw [9] (fun v wx => ∃ m : Nat, k + m ≤ 16 ∧ FreshG pgE 33 w4.heap.size wx v (l ++ List.replicate m (0, 0, 0, 0, 0)) ∧ Below w4.heap.size w4 wx) (fun v _ => 16 - lenV v)
      case atStart => exact ⟨0, by omega, by simpa using hF5, b5⟩
      case round =>
        clear b5 hF5
        obtain ⟨wy, hwy⟩ : ∃ wy, wy = wr := ⟨_, rfl⟩
        subst hwy
        obtain ⟨m, hm, hFm, hbm⟩ := hrel
        obtain ⟨Am, cm, rfl, hRm, _, hcm, hmm⟩ := hFm.rdn (k + m) (by simp; omega)
        have hzm := hbm.size
        have hLm : (l ++ List.replicate m ((0, 0, 0, 0, 0) : Pg)).length = k + m := by simp; omega
        by_cases hlt2 : k + m < 16
        · have hst := Lib.hid (show (l ++ List.replicate m ((0, 0, 0, 0, 0) : Pg)) ++ [(0, 0, 0, 0, 0)] = l ++ List.replicate (m + 1) (0, 0, 0, 0, 0) by rw [List.append_assoc, List.replicate_succ'])
          obtain ⟨lm, hlm⟩ : ∃ lm, l ++ List.replicate m ((0, 0, 0, 0, 0) : Pg) = lm := ⟨_, rfl⟩
          rw [hlm] at hFm hLm hst
          clear hRm hlm
          have hz9 : (0 : Nat) ≤ 0 := Nat.le_refl _
          have q1 : ((k + m : Nat) : Int) < 16 := by omega
          go_wp2_with (at_builtin; refine wpList_append_G (E := pgE) _ rfl (.tmp 62) (.tmp 64) _ rfl w4.heap.size 33 Try.underlying22 infoRP rfl (.slice Am (k + m) cm) lm rfl (hFm.alloc _) (some ⟨wy.heap.size, 0, none⟩) 1 1 [((0 : Int), (0 : Int), (0 : Int), (0 : Int), (0 : Int))] rfl (RdG.boxed _ _ _ _ rfl) (by omega) (by omega) (by simp; omega) ?_; intro v8 w8 hF8 hg8 hb8)
          have b8 : Below w4.heap.size w4 w8 := (show Below w4.heap.size w4 (wy.alloc (.cells #[.int .i64 0, .int .i64 0, .int .i64 0, .int .i64 0, .int .u64 0] 33)) from (by (have q_hbm := Below.size hbm; (try simp at q_hbm); repeat (first | exact Below.refl _ _ | (refine Below.trans ?_ (Below.mono hbm (by first | omega | (simp; omega) | simp))) | (refine Below.setCell ?_ (by first | omega | (simp; omega) | simp) _) | (refine Below.alloc ?_ (by first | omega | (simp; omega) | simp) _) | apply Below.drew | apply below_drewN)))).trans hb8
          rw [hst.out] at hF8
          obtain ⟨A8, c8, rfl, _, _, _, _⟩ := hF8.rdn (k + m + 1) (by simp; omega)
          clear hg8 hb8
          go_roundw
          case rel => exact ⟨m + 1, by omega, hF8, b8⟩
          case measure => simp [lenV] <;> omega
        · have h16m : k + m = 16 := by omega
          have hmk : 16 - l.length = m := by omega
          rw [hmk] at hR7
          obtain ⟨PL, hPL⟩ : ∃ PL, l ++ List.replicate m ((0, 0, 0, 0, 0) : Pg) = PL := ⟨_, rfl⟩
          rw [hPL] at hR7 hRm
          rw [h16m] at hRm hcm ⊢
          have hR7' := hR7.below hbm
          have hRb := hR34.below hbm
          have hrw : RdG pgE wy A k l := hr.on (bw2.trans (hbm.mono hzw)) (Nat.le_refl _)
          have bwy : Below w.heap.size w wy := bw2.trans (hbm.mono hzw)
          have HROOM := Lib.hid (show ∀ x ∈ l, roomPg x from fun x hx => may_room (HM.out x hx))
          have hPLl : (pgsL l).length = 256 := by unfold pgsL; exact padL_len _ _
          obtain ⟨BL, hBL⟩ : ∃ BL, pgsL l = BL := ⟨_, rfl⟩
          have HBL := Lib.hid hBL
          rw [hBL] at hRb hPLl
          clear hbm hFm hPL hR7 hR34 h16m hmk hm hlt2 hLm hBL bw2
          go_wp2_with fail
          refine wp_flows [(fun y_ _ => y_ = .int .i64 0), (fun y_ _ => y_ = .bool true), (fun y_ _ => y_ = .bool true), (fun y_ _ => y_ = .slice (some ⟨ab, off, none⟩) 256 c3), (fun y_ _ => y_ = .string (str BL)), (fun y_ _ => y_ = .slice A k c), (IsB (256) (BL)), (fun y_ _ => y_ = .string (str BL)), (fun y_ _ => y_ = .bool true), (fun y_ _ => y_ = .bool true), (fun y_ _ => y_ = .bool true), (fun y_ _ => y_ = .int .i64 0), (fun y_ _ => y_ = .bool true), (fun y_ _ => y_ = .bool true), (fun y_ _ => y_ = .bool true), (fun y_ _ => y_ = .slice A7 16 c7), (IsPg 16 PL), (fun y_ _ => y_ = .slice Am 16 cm), (fun y_ _ => y_ = .bool true), (fun y_ _ => y_ = .bool true), (fun y_ _ => y_ = .bool true), (fun y_ _ => y_ = .bool true), (fun y_ _ => y_ = .bool true), (fun y_ _ => y_ = .bool true)] (by kernel_rfl) ⟨Stab.eq _, Stab.eq _, Stab.eq _, Stab.eq _, Stab.eq _, Stab.eq _, Stab.b _ _, Stab.eq _, Stab.eq _, Stab.eq _, Stab.eq _, Stab.eq _, Stab.eq _, Stab.eq _, Stab.eq _, Stab.eq _, Stab.pg _ _, Stab.eq _, Stab.eq _, Stab.eq _, Stab.eq _, Stab.eq _, Stab.eq _, Stab.eq _, trivial⟩ (by kernel_rfl) (by rfl) ?_ ?_
          · intro kq hkq
            match kq, hkq with
            | 0, _ =>
              refine StepOk.plain _ 66 rfl rfl rfl [(4, none)] (by kernel_rfl) (fun af wf hbw hf Kf hKf => ?_)
              obtain ⟨g4, _⟩ := hf
              have h4 : af.tmps[4]?.getD undef = .int .i64 0 := g4
              clear g4
              go_simp
              exact hKf _ _ (Below.refl _ _) rfl
            | 1, _ =>
              refine StepOk.plain _ 67 rfl rfl rfl [(66, some 0)] (by kernel_rfl) (fun af wf hbw hf Kf hKf => ?_)
              obtain ⟨g66, _⟩ := hf
              have h66 : af.tmps[66]?.getD undef = .int .i64 0 := g66
              clear g66
              go_simp
              exact hKf _ _ (Below.refl _ _) rfl
            | 2, _ =>
              refine StepOk.plain _ 68 rfl rfl rfl [(67, some 1)] (by kernel_rfl) (fun af wf hbw hf Kf hKf => ?_)
              obtain ⟨g67, _⟩ := hf
              have h67 : af.tmps[67]?.getD undef = .bool true := g67
              clear g67
              go_simp
              exact hKf _ _ (Below.refl _ _) rfl
            | 3, _ =>
              refine StepOk.yes _ 69 rfl rfl rfl rfl (fun _ _ h => h) [(3, none)] (by kernel_rfl) (fun af wf hbw hf Kf hKf => ?_)
              obtain ⟨g3, _⟩ := hf
              have h3 : af.tmps[3]?.getD undef = .slice (some ⟨ab, off, none⟩) 256 c3 := g3
              clear g3
              go_simp
              exact hKf _ _ (Below.refl _ _) rfl
            | 4, _ =>
              refine StepOk.yes _ 70 rfl rfl rfl rfl (fun _ _ h => h) [(69, some 3)] (by kernel_rfl) (fun af wf hbw hf Kf hKf => ?_)
              obtain ⟨g69, _⟩ := hf
              have h69 : af.tmps[69]?.getD undef = .slice (some ⟨ab, off, none⟩) 256 c3 := g69
              clear g69
              have hcv := conv c3 _ (Rd.below (Rd.drew (hRb)) hbw)
              go_simp
              exact hKf _ _ (Below.refl _ _) rfl
            | 5, _ =>
              refine StepOk.yes _ 71 rfl rfl rfl rfl (fun _ _ h => h) [(0, none)] (by kernel_rfl) (fun af wf hbw hf Kf hKf => ?_)
              obtain ⟨g0, _⟩ := hf
              have h0 : af.tmps[0]?.getD undef = .slice A k c := g0
              clear g0
              go_simp
              exact hKf _ _ (Below.refl _ _) rfl
            | 6, _ =>
              refine StepOk.yes _ 72 rfl rfl rfl rfl (fun _ _ h => h) [(71, some 5)] (by kernel_rfl) (fun af wf hbw hf Kf hKf => ?_)
              obtain ⟨g71, _⟩ := hf
              have h71 : af.tmps[71]?.getD undef = .slice A k c := g71
              clear g71
              go_simp
              refine (rpgbytes_any A k c l _ (RdG.below (RdG.drew hrw) hbw) hs16 HROOM.out).mono ?_
              rintro e wN ⟨r, rfl, hF, hb⟩
              exact hKf _ _ (hb) (IsB.of (HBL.out ▸ hF) hPLl)
            | 7, _ =>
              refine StepOk.yes _ 73 rfl rfl rfl rfl (fun _ _ h => h) [(72, some 6)] (by kernel_rfl) (fun af wf hbw hf Kf hKf => ?_)
              obtain ⟨g72, _⟩ := hf
              obtain ⟨A72, c72, h72, hR72, hn72, hm72⟩ : IsB (256) (BL) (af.tmps[72]?.getD undef) wf := g72
              have hcv := conv c72 _ hR72
              go_simp
              exact hKf _ _ (Below.refl _ _) rfl
            | 8, _ =>
              refine StepOk.yes _ 74 rfl rfl rfl rfl (fun _ _ h => h) [(70, some 4), (73, some 7)] (by kernel_rfl) (fun af wf hbw hf Kf hKf => ?_)
              obtain ⟨g70, g73, _⟩ := hf
              have h70 : af.tmps[70]?.getD undef = .string (str BL) := g70
              have h73 : af.tmps[73]?.getD undef = .string (str BL) := g73
              clear g70 g73
              go_simp
              exact hKf _ _ (Below.refl _ _) rfl
            | 9, _ =>
              refine StepOk.plain _ 75 rfl rfl rfl [(68, some 2), (74, some 8)] (by kernel_rfl) (fun af wf hbw hf Kf hKf => ?_)
              obtain ⟨g68, g74, _⟩ := hf
              have h68 : af.tmps[68]?.getD undef = .bool true := g68
              have h74 : af.tmps[74]?.getD undef = .bool true := g74
              clear g68 g74
              go_simp
              exact hKf _ _ (Below.refl _ _) rfl
            | 10, _ =>
              refine StepOk.plain _ 76 rfl rfl rfl [(75, some 9)] (by kernel_rfl) (fun af wf hbw hf Kf hKf => ?_)
              obtain ⟨g75, _⟩ := hf
              have h75 : af.tmps[75]?.getD undef = .bool true := g75
              clear g75
              go_simp
              exact hKf _ _ (Below.refl _ _) rfl
            | 11, _ =>
              refine StepOk.yes _ 77 rfl rfl rfl rfl (fun _ _ h => h) [(8, none)] (by kernel_rfl) (fun af wf hbw hf Kf hKf => ?_)
              obtain ⟨g8, _⟩ := hf
              have h8 : af.tmps[8]?.getD undef = .int .i64 0 := g8
              clear g8
              go_simp
              exact hKf _ _ (Below.refl _ _) rfl
            | 12, _ =>
              refine StepOk.yes _ 78 rfl rfl rfl rfl (fun _ _ h => h) [(77, some 11)] (by kernel_rfl) (fun af wf hbw hf Kf hKf => ?_)
              obtain ⟨g77, _⟩ := hf
              have h77 : af.tmps[77]?.getD undef = .int .i64 0 := g77
              clear g77
              go_simp
              exact hKf _ _ (Below.refl _ _) rfl
            | 13, _ =>
              refine StepOk.plain _ 79 rfl rfl rfl [(76, some 10), (78, some 12)] (by kernel_rfl) (fun af wf hbw hf Kf hKf => ?_)
              obtain ⟨g76, g78, _⟩ := hf
              have h76 : af.tmps[76]?.getD undef = .bool true := g76
              have h78 : af.tmps[78]?.getD undef = .bool true := g78
              clear g76 g78
              go_simp
              exact hKf _ _ (Below.refl _ _) rfl
            | 14, _ =>
              refine StepOk.plain _ 80 rfl rfl rfl [(79, some 13)] (by kernel_rfl) (fun af wf hbw hf Kf hKf => ?_)
              obtain ⟨g79, _⟩ := hf
              have h79 : af.tmps[79]?.getD undef = .bool true := g79
              clear g79
              go_simp
              exact hKf _ _ (Below.refl _ _) rfl
            | 15, _ =>
              refine StepOk.yes _ 81 rfl rfl rfl rfl (fun _ _ h => h) [(7, none)] (by kernel_rfl) (fun af wf hbw hf Kf hKf => ?_)
              obtain ⟨g7, _⟩ := hf
              have h7 : af.tmps[7]?.getD undef = .slice A7 16 c7 := g7
              clear g7
              go_simp
              exact hKf _ _ (Below.refl _ _) rfl
            | 16, _ =>
              refine StepOk.yes _ 82 rfl rfl rfl rfl (fun _ _ h => h) [(81, some 15)] (by kernel_rfl) (fun af wf hbw hf Kf hKf => ?_)
              obtain ⟨g81, _⟩ := hf
              have h81 : af.tmps[81]?.getD undef = .slice A7 16 c7 := g81
              clear g81
              go_simp
              refine (plainL_any A7 16 c7 PL _ (RdG.below (RdG.drew hR7') hbw) (by omega)).mono ?_
              rintro e wN ⟨r, rfl, hF, hb⟩
              exact hKf _ _ (hb) ((by obtain ⟨Aq, cq, e, hRq, _, h1, h2⟩ := hF.rdn 16 hR7'.len; exact ⟨Aq, cq, e, hRq, h1, h2⟩))
            | 17, _ =>
              refine StepOk.yes _ 83 rfl rfl rfl rfl (fun _ _ h => h) [(9, none)] (by kernel_rfl) (fun af wf hbw hf Kf hKf => ?_)
              obtain ⟨g9, _⟩ := hf
              have h9 : af.tmps[9]?.getD undef = .slice Am 16 cm := g9
              clear g9
              go_simp
              exact hKf _ _ (Below.refl _ _) rfl
            | 18, _ =>
              refine StepOk.yes _ 84 rfl rfl rfl rfl (fun _ _ h => h) [(82, some 16), (83, some 17)] (by kernel_rfl) (fun af wf hbw hf Kf hKf => ?_)
              obtain ⟨g82, g83, _⟩ := hf
              have g82 : (IsPg 16 PL) (af.tmps[82]?.getD undef) wf := g82
              obtain ⟨A16, c16, h16, hR16, hn16, hm16⟩ := g82
              have h83 : af.tmps[83]?.getD undef = .slice Am 16 cm := g83
              clear g83
              go_simp
              refine (same_any A16 Am 16 c16 cm PL _ hR16 (RdG.below (RdG.drew hRm) hbw) (by omega)).mono ?_
              rintro e wN ⟨rfl, hb⟩
              exact hKf _ _ (hb) (rfl)
            | 19, _ =>
              refine StepOk.plain _ 85 rfl rfl rfl [(80, some 14), (84, some 18)] (by kernel_rfl) (fun af wf hbw hf Kf hKf => ?_)
              obtain ⟨g80, g84, _⟩ := hf
              have h80 : af.tmps[80]?.getD undef = .bool true := g80
              have h84 : af.tmps[84]?.getD undef = .bool true := g84
              clear g80 g84
              go_simp
              exact hKf _ _ (Below.refl _ _) rfl
            | 20, _ =>
              refine StepOk.plain _ 86 rfl rfl rfl [(85, some 19)] (by kernel_rfl) (fun af wf hbw hf Kf hKf => ?_)
              obtain ⟨g85, _⟩ := hf
              have h85 : af.tmps[85]?.getD undef = .bool true := g85
              clear g85
              go_simp
              exact hKf _ _ (Below.refl _ _) rfl
            | 21, _ =>
              refine StepOk.yes _ 87 rfl rfl rfl rfl (fun _ _ h => h) [] (by kernel_rfl) (fun af wf hbw hf Kf hKf => ?_)
              go_simp
              refine (pawake_any _).mono ?_
              rintro e wN ⟨rfl, hb⟩
              exact hKf _ _ (hb) (rfl)
            | 22, _ =>
              refine StepOk.plain _ 88 rfl rfl rfl [(86, some 20), (87, some 21)] (by kernel_rfl) (fun af wf hbw hf Kf hKf => ?_)
              obtain ⟨g86, g87, _⟩ := hf
              have h86 : af.tmps[86]?.getD undef = .bool true := g86
              have h87 : af.tmps[87]?.getD undef = .bool true := g87
              clear g86 g87
              go_simp
              exact hKf _ _ (Below.refl _ _) rfl
            | 23, _ =>
              refine StepOk.plain _ 2 rfl rfl rfl [(88, some 22)] (by kernel_rfl) (fun af wf hbw hf Kf hKf => ?_)
              obtain ⟨g88, _⟩ := hf
              have h88 : af.tmps[88]?.getD undef = .bool true := g88
              clear g88
              go_simp
              exact hKf _ _ (Below.refl _ _) rfl
            | i + 24, h => exact absurd h (by show ¬ (i + 24 < 24); omega)
          · intro af wF hbF hdF hsF hbaseF hfactF
            obtain ⟨T, dsF⟩ := af
            obtain rfl : dsF = _ := hdF
            have e2 := hfactF 23 2 (by decide) rfl
            replace e2 : T[2]?.getD undef = .bool true := e2
            have hT := frame_back T [2, 66, 67, 68, 69, 70, 71, 72, 73, 74, 75, 76, 77, 78, 79, 80, 81, 82, 83, 84, 85, 86, 87, 88] hbaseF hsF (by kernel_rfl)
            simp only [List.foldl_cons, List.foldl_nil, List.setIfInBounds_toArray, List.set_cons_zero, List.set_cons_succ] at hT
            clear hbaseF hfactF hsF
            rw [e2] at hT; clear e2
            generalize T[66]?.getD undef = u66 at hT
            generalize T[67]?.getD undef = u67 at hT
            generalize T[68]?.getD undef = u68 at hT
            generalize T[69]?.getD undef = u69 at hT
            generalize T[70]?.getD undef = u70 at hT
            generalize T[71]?.getD undef = u71 at hT
            generalize T[72]?.getD undef = u72 at hT
            generalize T[73]?.getD undef = u73 at hT
            generalize T[74]?.getD undef = u74 at hT
            generalize T[75]?.getD undef = u75 at hT
            generalize T[76]?.getD undef = u76 at hT
            generalize T[77]?.getD undef = u77 at hT
            generalize T[78]?.getD undef = u78 at hT
            generalize T[79]?.getD undef = u79 at hT
            generalize T[80]?.getD undef = u80 at hT
            generalize T[81]?.getD undef = u81 at hT
            generalize T[82]?.getD undef = u82 at hT
            generalize T[83]?.getD undef = u83 at hT
            generalize T[84]?.getD undef = u84 at hT
            generalize T[85]?.getD undef = u85 at hT
            generalize T[86]?.getD undef = u86 at hT
            generalize T[87]?.getD undef = u87 at hT
            generalize T[88]?.getD undef = u88 at hT
            subst hT
            have bF : Below w.heap.size w wF := (by (have q_hbF := Below.size hbF; (try simp at q_hbF); have q_bwy := Below.size bwy; (try simp at q_bwy); repeat (first | exact Below.refl _ _ | (refine Below.trans ?_ (Below.mono hbF (by first | omega | (simp; omega) | simp))) | (refine Below.trans ?_ (Below.mono bwy (by first | omega | (simp; omega) | simp))) | (refine Below.setCell ?_ (by first | omega | (simp; omega) | simp) _) | (refine Below.alloc ?_ (by first | omega | (simp; omega) | simp) _) | apply Below.drew | apply below_drewN)))
            go_wp2_with fail
            go_ret
            exact ⟨rfl, bF⟩
end Go.Proofs.Ytidlcplamgajpaa
