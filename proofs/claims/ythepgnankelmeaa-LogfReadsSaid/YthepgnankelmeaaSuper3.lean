/- The walk of the statement SuperBytes. -/
import Derived.Test.YthepgnankelmeaaSuper2
namespace Go.Proofs.Ythepgnankelmeaa
open Go.RowKit

theorem take_app (a r : List UInt8) (n : Nat) (h : a.length = n) : takeO (a ++ r) 0 n = a ∧ takeL (a ++ r) 0 n = r ∧ takeE (a ++ r) 0 n = 0 := by
  subst h
  obtain ⟨h1, h2, h3⟩ := take_yes (l := a ++ r) (n := a.length) (by simp)
  exact ⟨by rw [h1]; simp, by rw [h2]; simp, h3⟩
theorem superL_parts (p t : Int) : ∃ r, superL p t = markS ++ (putL 2 1 ++ (putL 2 p ++ (putL 2 t ++ r))) := by
  refine ⟨List.replicate 242 0, ?_⟩
  unfold superL padL
  rw [superParts_len, List.take_of_length_le (by rw [superParts_len]; omega)]
  simp [superParts]
theorem getL_put2 (v : Int) (h0 : 0 ≤ v) (h1 : v < 65536) : (getL (putL 2 v) : Int) = v := by
  have e0 := byteI_val v 0
  have e1 := byteI_val v 1
  show ((byteI v 0).toNat + 256 * ((byteI v 1).toNat + 256 * 0) : Nat) = v
  simp at e0 e1
  omega
theorem sgeo_superL (p t : Int) (hp : 0 ≤ p ∧ p < 65536) (ht : 0 ≤ t ∧ t < 65536) : sGeo (superL p t) = (p, t) := by
  obtain ⟨r, hr⟩ := superL_parts p t
  obtain ⟨_, a2, a3⟩ := take_app markS (putL 2 1 ++ (putL 2 p ++ (putL 2 t ++ r))) 8 rfl
  obtain ⟨_, b2, b3⟩ := take_app (putL 2 1) (putL 2 p ++ (putL 2 t ++ r)) 2 (putL_len _ _)
  obtain ⟨c1, c2, c3⟩ := take_app (putL 2 p) (putL 2 t ++ r) 2 (putL_len _ _)
  obtain ⟨d1, _, _⟩ := take_app (putL 2 t) r 2 (putL_len _ _)
  have s1 : stepR (superL p t, 0) 8 = (putL 2 1 ++ (putL 2 p ++ (putL 2 t ++ r)), 0) := by
    rw [hr]; unfold stepR; exact Prod.ext a2 a3
  have s2 : stepR (putL 2 1 ++ (putL 2 p ++ (putL 2 t ++ r)), 0) 2 = (putL 2 p ++ (putL 2 t ++ r), 0) := Prod.ext b2 b3
  have s3 : stepR (putL 2 p ++ (putL 2 t ++ r), 0) 2 = (putL 2 t ++ r, 0) := Prod.ext c2 c3
  unfold sGeo
  simp only []
  rw [s1, s2, s3]
  simp only []
  have c1' : takeO (putL 2 p ++ (putL 2 t ++ r)) 0 2 = putL 2 p := c1
  have d1' : takeO (putL 2 t ++ r) 0 2 = putL 2 t := d1
  rw [c1', d1', getL_put2 p hp.1 hp.2, getL_put2 t ht.1 ht.2]
theorem sok_superL {p t : Int} (h : gmay p t = true) : sOK (superL p t) = true ∧ sGeo (superL p t) = (p, t) := by
  obtain ⟨h1, h2, h3, h4⟩ := gmay_true h
  have e := sgeo_superL p t (by omega) (by omega)
  refine ⟨?_, e⟩
  unfold sOK
  rw [e]
  simp [h]
theorem Rd.head {w : World} {A : Option Addr} {n : Nat} {l : List UInt8} (h : Rd w A n l) (k : Nat) (hk : k ≤ n) : Rd w A k (l.take k) := by
  have hcut := h.cut (k := 0) (m := k) (cap := k + 1) (by omega) hk (by omega)
  rw [if_neg (by omega)] at hcut
  cases A <;> simpa [Addr.add] using hcut

set_option maxRecDepth 100000 in
set_option maxHeartbeats 1000000 in
theorem sawake_any (w : World) :
    Calls Try.prog 33 #[] w fun e w' => e = .returned (.bool true) ∧ Below w.heap.size w w' := by
  go_enter Try.func33, Try.ntmps33
  go_wp2_with fail
  refine (sbytes_yes 20 4 _ (by decide)).mono ?_
  rintro e w1 ⟨v, rfl, hF, hb1⟩
  obtain ⟨A1, c1, rfl, hR, _, hc1, hc2⟩ := hF.rdn 256 (superL_len 20 4)
  have hs := conv c1 _ (hR.head 15 (by omega))
  rw [show str ((superL 20 4).take 15) = ⟨#[71, 65, 82, 68, 82, 79, 66, 69, 1, 0, 20, 0, 4, 0, 0]⟩ from by decide +kernel] at hs
  have q1 : 15 ≤ c1 := by omega
  unfold maxLen at hc2
  go_wp2_with fail
  go_ret
  exact ⟨rfl, (by (have q_hb1 := Below.size hb1; (try simp at q_hb1); repeat (first | exact Below.refl _ _ | (refine Below.trans ?_ (Below.mono hb1 (by first | omega | (simp; omega) | simp))) | (refine Below.setCell ?_ (by first | omega | (simp; omega) | simp) _) | (refine Below.alloc ?_ (by first | omega | (simp; omega) | simp) _) | apply Below.drew | apply below_drewN)))⟩

set_option maxRecDepth 100000 in
set_option maxHeartbeats 4000000 in
theorem law_sbytes (p t : Int) (w : World) :
    Calls Try.prog 6 #[.agg #[.int .i64 p, .int .i64 t]] w fun e w' => e = .returned (.bool true) ∧ Below w.heap.size w w' := by
  cases hm : gmay p t
  · go_enter Try.func6, Try.ntmps6
    go_wp2_with fail
    refine (sbytes_no p t _ hm).mono ?_
    rintro e w1 ⟨v, rfl, hF, hb1⟩
    obtain ⟨A1, c1, rfl, hR, _, hc1, hc2⟩ := hF.rdn 0 rfl
    have B1 := (Blk.new w _ _).on hb1
    have cB := B1.cell
    go_wp2_with fail
    refine (grmay_any p t _).mono ?_
    rintro e w2 ⟨rfl, hb2⟩
    rw [hm]
    go_wp2_with fail
    refine (sawake_any _).mono ?_
    rintro e w3 ⟨rfl, hb3⟩
    go_wp2_with fail
    go_ret
    exact ⟨rfl, (by (have q_hb3 := Below.size hb3; (try simp at q_hb3); have q_hb2 := Below.size hb2; (try simp at q_hb2); have q_hb1 := Below.size hb1; (try simp at q_hb1); repeat (first | exact Below.refl _ _ | (refine Below.trans ?_ (Below.mono hb3 (by first | omega | (simp; omega) | simp))) | (refine Below.trans ?_ (Below.mono hb2 (by first | omega | (simp; omega) | simp))) | (refine Below.trans ?_ (Below.mono hb1 (by first | omega | (simp; omega) | simp))) | (refine Below.setCell ?_ (by first | omega | (simp; omega) | simp) _) | (refine Below.alloc ?_ (by first | omega | (simp; omega) | simp) _) | apply Below.drew | apply below_drewN)))⟩
  · obtain ⟨hok, hgeo⟩ := sok_superL hm
    have HO := Lib.hid hok
    have HG := Lib.hid hgeo
    clear hok hgeo
    go_enter Try.func6, Try.ntmps6
    go_wp2_with fail
    refine (sbytes_yes p t _ hm).mono ?_
    rintro e w1 ⟨v, rfl, hF, hb1⟩
    obtain ⟨A1, c1, rfl, hR, _, hc1, hc2⟩ := hF.rdn 256 (superL_len p t)
    have B1 := (Blk.new w _ _).on hb1
    have cB := B1.cell
    have zB := B1.lt
    clear hF
    go_wp2_with fail
    refine (grmay_any p t _).mono ?_
    rintro e w2 ⟨rfl, hb2⟩
    rw [hm]
    have B2 := B1.on hb2
    have hR2 := hR.below hb2
    clear cB
    go_wp2_with fail
    refine (sparse_any A1 256 c1 (superL p t) _ hR2 (by omega)).mono ?_
    rintro e w3 ⟨rfl, hb3⟩
    rw [if_pos HO.out, HG.out]
    have B3 := B2.on hb3
    have hR3 := hR2.below hb3
    have z3 := B3.lt
    go_wp2_with fail
    have X3 : Blk (w3.alloc (.cells #[.int .i64 p, .int .i64 t] 23)) w3.heap.size 23 #[.int .i64 p, .int .i64 t] := Blk.new _ _ _
    have B4 := B3.alloc (.cells #[.int .i64 p, .int .i64 t] 23)
    have hR4 := hR3.alloc (.cells #[.int .i64 p, .int .i64 t] 23)
    clear B1 B2 B3 hR hR2 hR3 z3 zB
    refine wp_flows [(fun y_ _ => y_ = .int .i64 0), (fun y_ _ => y_ = .bool true), (fun y_ _ => y_ = .bool true), (fun y_ _ => y_ = .slice A1 256 c1), (fun y_ _ => y_ = .string (str (superL p t))), (fun y_ _ => y_ = .agg #[.int .i64 p, .int .i64 t]), (IsB (256) (superL p t)), (fun y_ _ => y_ = .string (str (superL p t))), (fun y_ _ => y_ = .bool true), (fun y_ _ => y_ = .bool true), (fun y_ _ => y_ = .bool true), (fun y_ _ => y_ = .int .i64 0), (fun y_ _ => y_ = .bool true), (fun y_ _ => y_ = .bool true), (fun y_ _ => y_ = .bool true), (fun y_ _ => y_ = .agg #[.int .i64 p, .int .i64 t]), (fun y_ _ => y_ = .agg #[.int .i64 p, .int .i64 t]), (fun y_ _ => y_ = .bool true), (fun y_ _ => y_ = .bool true), (fun y_ _ => y_ = .bool true), (fun y_ _ => y_ = .bool true), (fun y_ _ => y_ = .bool true), (fun y_ _ => y_ = .bool true)] (by kernel_rfl) ⟨Stab.eq _, Stab.eq _, Stab.eq _, Stab.eq _, Stab.eq _, Stab.eq _, Stab.b _ _, Stab.eq _, Stab.eq _, Stab.eq _, Stab.eq _, Stab.eq _, Stab.eq _, Stab.eq _, Stab.eq _, Stab.eq _, Stab.eq _, Stab.eq _, Stab.eq _, Stab.eq _, Stab.eq _, Stab.eq _, Stab.eq _, trivial⟩ (by kernel_rfl) (by rfl) ?_ ?_
    · intro kq hkq
      match kq, hkq with
      | 0, _ =>
        refine StepOk.plain _ 30 rfl rfl rfl [(4, none)] (by kernel_rfl) (fun af wf hbw hf Kf hKf => ?_)
        obtain ⟨g4, _⟩ := hf
        have h4 : af.tmps[4]?.getD undef = .int .i64 0 := g4
        clear g4
        go_simp
        exact hKf _ _ (Below.refl _ _) rfl
      | 1, _ =>
        refine StepOk.plain _ 31 rfl rfl rfl [(30, some 0)] (by kernel_rfl) (fun af wf hbw hf Kf hKf => ?_)
        obtain ⟨g30, _⟩ := hf
        have h30 : af.tmps[30]?.getD undef = .int .i64 0 := g30
        clear g30
        go_simp
        exact hKf _ _ (Below.refl _ _) rfl
      | 2, _ =>
        refine StepOk.plain _ 32 rfl rfl rfl [(31, some 1)] (by kernel_rfl) (fun af wf hbw hf Kf hKf => ?_)
        obtain ⟨g31, _⟩ := hf
        have h31 : af.tmps[31]?.getD undef = .bool true := g31
        clear g31
        go_simp
        exact hKf _ _ (Below.refl _ _) rfl
      | 3, _ =>
        refine StepOk.yes _ 33 rfl rfl rfl rfl (fun _ _ h => h) [(3, none)] (by kernel_rfl) (fun af wf hbw hf Kf hKf => ?_)
        obtain ⟨g3, _⟩ := hf
        have h3 : af.tmps[3]?.getD undef = .slice A1 256 c1 := g3
        clear g3
        go_simp
        exact hKf _ _ (Below.refl _ _) rfl
      | 4, _ =>
        refine StepOk.yes _ 34 rfl rfl rfl rfl (fun _ _ h => h) [(33, some 3)] (by kernel_rfl) (fun af wf hbw hf Kf hKf => ?_)
        obtain ⟨g33, _⟩ := hf
        have h33 : af.tmps[33]?.getD undef = .slice A1 256 c1 := g33
        clear g33
        have hcv := conv c1 _ (Rd.below (Rd.drew (hR4)) hbw)
        go_simp
        exact hKf _ _ (Below.refl _ _) rfl
      | 5, _ =>
        refine StepOk.yes _ 35 rfl rfl rfl rfl (fun _ _ h => h) [(1, none)] (by kernel_rfl) (fun af wf hbw hf Kf hKf => ?_)
        obtain ⟨g1, _⟩ := hf
        have h1 : af.tmps[1]?.getD undef = .pointer (some ⟨w.heap.size, 0, none⟩) := g1
        clear g1
        have cB0 := (Blk.on (Blk.drew (B4)) hbw).cell
        have cB1 := (Blk.on (Blk.drew (X3)) hbw).cell
        go_simp
        exact hKf _ _ (Below.refl _ _) rfl
      | 6, _ =>
        refine StepOk.yes _ 36 rfl rfl rfl rfl (fun _ _ h => h) [(35, some 5)] (by kernel_rfl) (fun af wf hbw hf Kf hKf => ?_)
        obtain ⟨g35, _⟩ := hf
        have h35 : af.tmps[35]?.getD undef = .agg #[.int .i64 p, .int .i64 t] := g35
        clear g35
        go_simp
        refine (srbytes_any p t _ hm).mono ?_
        rintro e wN ⟨r, rfl, hF, hb⟩
        exact hKf _ _ (hb) (IsB.of hF (superL_len p t))
      | 7, _ =>
        refine StepOk.yes _ 37 rfl rfl rfl rfl (fun _ _ h => h) [(36, some 6)] (by kernel_rfl) (fun af wf hbw hf Kf hKf => ?_)
        obtain ⟨g36, _⟩ := hf
        obtain ⟨A36, c36, h36, hR36, hn36, hm36⟩ : IsB (256) (superL p t) (af.tmps[36]?.getD undef) wf := g36
        have hcv := conv c36 _ hR36
        go_simp
        exact hKf _ _ (Below.refl _ _) rfl
      | 8, _ =>
        refine StepOk.yes _ 38 rfl rfl rfl rfl (fun _ _ h => h) [(34, some 4), (37, some 7)] (by kernel_rfl) (fun af wf hbw hf Kf hKf => ?_)
        obtain ⟨g34, g37, _⟩ := hf
        have h34 : af.tmps[34]?.getD undef = .string (str (superL p t)) := g34
        have h37 : af.tmps[37]?.getD undef = .string (str (superL p t)) := g37
        clear g34 g37
        go_simp
        exact hKf _ _ (Below.refl _ _) rfl
      | 9, _ =>
        refine StepOk.plain _ 39 rfl rfl rfl [(32, some 2), (38, some 8)] (by kernel_rfl) (fun af wf hbw hf Kf hKf => ?_)
        obtain ⟨g32, g38, _⟩ := hf
        have h32 : af.tmps[32]?.getD undef = .bool true := g32
        have h38 : af.tmps[38]?.getD undef = .bool true := g38
        clear g32 g38
        go_simp
        exact hKf _ _ (Below.refl _ _) rfl
      | 10, _ =>
        refine StepOk.plain _ 40 rfl rfl rfl [(39, some 9)] (by kernel_rfl) (fun af wf hbw hf Kf hKf => ?_)
        obtain ⟨g39, _⟩ := hf
        have h39 : af.tmps[39]?.getD undef = .bool true := g39
        clear g39
        go_simp
        exact hKf _ _ (Below.refl _ _) rfl
      | 11, _ =>
        refine StepOk.yes _ 41 rfl rfl rfl rfl (fun _ _ h => h) [(6, none)] (by kernel_rfl) (fun af wf hbw hf Kf hKf => ?_)
        obtain ⟨g6, _⟩ := hf
        have h6 : af.tmps[6]?.getD undef = .int .i64 0 := g6
        clear g6
        go_simp
        exact hKf _ _ (Below.refl _ _) rfl
      | 12, _ =>
        refine StepOk.yes _ 42 rfl rfl rfl rfl (fun _ _ h => h) [(41, some 11)] (by kernel_rfl) (fun af wf hbw hf Kf hKf => ?_)
        obtain ⟨g41, _⟩ := hf
        have h41 : af.tmps[41]?.getD undef = .int .i64 0 := g41
        clear g41
        go_simp
        exact hKf _ _ (Below.refl _ _) rfl
      | 13, _ =>
        refine StepOk.plain _ 43 rfl rfl rfl [(40, some 10), (42, some 12)] (by kernel_rfl) (fun af wf hbw hf Kf hKf => ?_)
        obtain ⟨g40, g42, _⟩ := hf
        have h40 : af.tmps[40]?.getD undef = .bool true := g40
        have h42 : af.tmps[42]?.getD undef = .bool true := g42
        clear g40 g42
        go_simp
        exact hKf _ _ (Below.refl _ _) rfl
      | 14, _ =>
        refine StepOk.plain _ 44 rfl rfl rfl [(43, some 13)] (by kernel_rfl) (fun af wf hbw hf Kf hKf => ?_)
        obtain ⟨g43, _⟩ := hf
        have h43 : af.tmps[43]?.getD undef = .bool true := g43
        clear g43
        go_simp
        exact hKf _ _ (Below.refl _ _) rfl
      | 15, _ =>
        refine StepOk.yes _ 45 rfl rfl rfl rfl (fun _ _ h => h) [(5, none)] (by kernel_rfl) (fun af wf hbw hf Kf hKf => ?_)
        obtain ⟨g5, _⟩ := hf
        have h5 : af.tmps[5]?.getD undef = .pointer (some ⟨w3.heap.size, 0, none⟩) := g5
        clear g5
        have cB0 := (Blk.on (Blk.drew (B4)) hbw).cell
        have cB1 := (Blk.on (Blk.drew (X3)) hbw).cell
        go_simp
        exact hKf _ _ (Below.refl _ _) rfl
      | 16, _ =>
        refine StepOk.yes _ 46 rfl rfl rfl rfl (fun _ _ h => h) [(1, none)] (by kernel_rfl) (fun af wf hbw hf Kf hKf => ?_)
        obtain ⟨g1, _⟩ := hf
        have h1 : af.tmps[1]?.getD undef = .pointer (some ⟨w.heap.size, 0, none⟩) := g1
        clear g1
        have cB0 := (Blk.on (Blk.drew (B4)) hbw).cell
        have cB1 := (Blk.on (Blk.drew (X3)) hbw).cell
        go_simp
        exact hKf _ _ (Below.refl _ _) rfl
      | 17, _ =>
        refine StepOk.yes _ 47 rfl rfl rfl rfl (fun _ _ h => h) [(45, some 15), (46, some 16)] (by kernel_rfl) (fun af wf hbw hf Kf hKf => ?_)
        obtain ⟨g45, g46, _⟩ := hf
        have h45 : af.tmps[45]?.getD undef = .agg #[.int .i64 p, .int .i64 t] := g45
        have h46 : af.tmps[46]?.getD undef = .agg #[.int .i64 p, .int .i64 t] := g46
        clear g45 g46
        go_simp
        exact hKf _ _ (Below.refl _ _) rfl
      | 18, _ =>
        refine StepOk.plain _ 48 rfl rfl rfl [(44, some 14), (47, some 17)] (by kernel_rfl) (fun af wf hbw hf Kf hKf => ?_)
        obtain ⟨g44, g47, _⟩ := hf
        have h44 : af.tmps[44]?.getD undef = .bool true := g44
        have h47 : af.tmps[47]?.getD undef = .bool true := g47
        clear g44 g47
        go_simp
        exact hKf _ _ (Below.refl _ _) rfl
      | 19, _ =>
        refine StepOk.plain _ 49 rfl rfl rfl [(48, some 18)] (by kernel_rfl) (fun af wf hbw hf Kf hKf => ?_)
        obtain ⟨g48, _⟩ := hf
        have h48 : af.tmps[48]?.getD undef = .bool true := g48
        clear g48
        go_simp
        exact hKf _ _ (Below.refl _ _) rfl
      | 20, _ =>
        refine StepOk.yes _ 50 rfl rfl rfl rfl (fun _ _ h => h) [] (by kernel_rfl) (fun af wf hbw hf Kf hKf => ?_)
        go_simp
        refine (sawake_any _).mono ?_
        rintro e wN ⟨rfl, hb⟩
        exact hKf _ _ (hb) (rfl)
      | 21, _ =>
        refine StepOk.plain _ 51 rfl rfl rfl [(49, some 19), (50, some 20)] (by kernel_rfl) (fun af wf hbw hf Kf hKf => ?_)
        obtain ⟨g49, g50, _⟩ := hf
        have h49 : af.tmps[49]?.getD undef = .bool true := g49
        have h50 : af.tmps[50]?.getD undef = .bool true := g50
        clear g49 g50
        go_simp
        exact hKf _ _ (Below.refl _ _) rfl
      | 22, _ =>
        refine StepOk.plain _ 2 rfl rfl rfl [(51, some 21)] (by kernel_rfl) (fun af wf hbw hf Kf hKf => ?_)
        obtain ⟨g51, _⟩ := hf
        have h51 : af.tmps[51]?.getD undef = .bool true := g51
        clear g51
        go_simp
        exact hKf _ _ (Below.refl _ _) rfl
      | i + 23, h => exact absurd h (by show ¬ (i + 23 < 23); omega)
    · intro af wF hbF hdF hsF hbaseF hfactF
      obtain ⟨T, dsF⟩ := af
      obtain rfl : dsF = _ := hdF
      have e0 := hbaseF 0 (not_dst (by kernel_rfl))
      simp only [List.getElem?_toArray, List.getElem?_cons_zero, Option.getD_some] at e0
      have e1 := hbaseF 1 (not_dst (by kernel_rfl))
      simp only [List.getElem?_toArray, List.getElem?_cons_zero, List.getElem?_cons_succ, Option.getD_some] at e1
      have e3 := hbaseF 3 (not_dst (by kernel_rfl))
      simp only [List.getElem?_toArray, List.getElem?_cons_zero, List.getElem?_cons_succ, Option.getD_some] at e3
      have e4 := hbaseF 4 (not_dst (by kernel_rfl))
      simp only [List.getElem?_toArray, List.getElem?_cons_zero, List.getElem?_cons_succ, Option.getD_some] at e4
      have e5 := hbaseF 5 (not_dst (by kernel_rfl))
      simp only [List.getElem?_toArray, List.getElem?_cons_zero, List.getElem?_cons_succ, Option.getD_some] at e5
      have e6 := hbaseF 6 (not_dst (by kernel_rfl))
      simp only [List.getElem?_toArray, List.getElem?_cons_zero, List.getElem?_cons_succ, Option.getD_some] at e6
      have e7 := hbaseF 7 (not_dst (by kernel_rfl))
      simp only [List.getElem?_toArray, List.getElem?_cons_zero, List.getElem?_cons_succ, Option.getD_some] at e7
      have e8 := hbaseF 8 (not_dst (by kernel_rfl))
      simp only [List.getElem?_toArray, List.getElem?_cons_zero, List.getElem?_cons_succ, Option.getD_some] at e8
      have e9 := hbaseF 9 (not_dst (by kernel_rfl))
      simp only [List.getElem?_toArray, List.getElem?_cons_zero, List.getElem?_cons_succ, Option.getD_some] at e9
      have e10 := hbaseF 10 (not_dst (by kernel_rfl))
      simp only [List.getElem?_toArray, List.getElem?_cons_zero, List.getElem?_cons_succ, Option.getD_some] at e10
      have e11 := hbaseF 11 (not_dst (by kernel_rfl))
      simp only [List.getElem?_toArray, List.getElem?_cons_zero, List.getElem?_cons_succ, Option.getD_some] at e11
      have e12 := hbaseF 12 (not_dst (by kernel_rfl))
      simp only [List.getElem?_toArray, List.getElem?_cons_zero, List.getElem?_cons_succ, Option.getD_some] at e12
      have e13 := hbaseF 13 (not_dst (by kernel_rfl))
      simp only [List.getElem?_toArray, List.getElem?_cons_zero, List.getElem?_cons_succ, Option.getD_some] at e13
      have e14 := hbaseF 14 (not_dst (by kernel_rfl))
      simp only [List.getElem?_toArray, List.getElem?_cons_zero, List.getElem?_cons_succ, Option.getD_some] at e14
      have e15 := hbaseF 15 (not_dst (by kernel_rfl))
      simp only [List.getElem?_toArray, List.getElem?_cons_zero, List.getElem?_cons_succ, Option.getD_some] at e15
      have e16 := hbaseF 16 (not_dst (by kernel_rfl))
      simp only [List.getElem?_toArray, List.getElem?_cons_zero, List.getElem?_cons_succ, Option.getD_some] at e16
      have e17 := hbaseF 17 (not_dst (by kernel_rfl))
      simp only [List.getElem?_toArray, List.getElem?_cons_zero, List.getElem?_cons_succ, Option.getD_some] at e17
      have e18 := hbaseF 18 (not_dst (by kernel_rfl))
      simp only [List.getElem?_toArray, List.getElem?_cons_zero, List.getElem?_cons_succ, Option.getD_some] at e18
      have e19 := hbaseF 19 (not_dst (by kernel_rfl))
      simp only [List.getElem?_toArray, List.getElem?_cons_zero, List.getElem?_cons_succ, Option.getD_some] at e19
      have e20 := hbaseF 20 (not_dst (by kernel_rfl))
      simp only [List.getElem?_toArray, List.getElem?_cons_zero, List.getElem?_cons_succ, Option.getD_some] at e20
      have e21 := hbaseF 21 (not_dst (by kernel_rfl))
      simp only [List.getElem?_toArray, List.getElem?_cons_zero, List.getElem?_cons_succ, Option.getD_some] at e21
      have e22 := hbaseF 22 (not_dst (by kernel_rfl))
      simp only [List.getElem?_toArray, List.getElem?_cons_zero, List.getElem?_cons_succ, Option.getD_some] at e22
      have e23 := hbaseF 23 (not_dst (by kernel_rfl))
      simp only [List.getElem?_toArray, List.getElem?_cons_zero, List.getElem?_cons_succ, Option.getD_some] at e23
      have e24 := hbaseF 24 (not_dst (by kernel_rfl))
      simp only [List.getElem?_toArray, List.getElem?_cons_zero, List.getElem?_cons_succ, Option.getD_some] at e24
      have e25 := hbaseF 25 (not_dst (by kernel_rfl))
      simp only [List.getElem?_toArray, List.getElem?_cons_zero, List.getElem?_cons_succ, Option.getD_some] at e25
      have e26 := hbaseF 26 (not_dst (by kernel_rfl))
      simp only [List.getElem?_toArray, List.getElem?_cons_zero, List.getElem?_cons_succ, Option.getD_some] at e26
      have e27 := hbaseF 27 (not_dst (by kernel_rfl))
      simp only [List.getElem?_toArray, List.getElem?_cons_zero, List.getElem?_cons_succ, Option.getD_some] at e27
      have e28 := hbaseF 28 (not_dst (by kernel_rfl))
      simp only [List.getElem?_toArray, List.getElem?_cons_zero, List.getElem?_cons_succ, Option.getD_some] at e28
      have e29 := hbaseF 29 (not_dst (by kernel_rfl))
      simp only [List.getElem?_toArray, List.getElem?_cons_zero, List.getElem?_cons_succ, Option.getD_some] at e29
      have e2 := hfactF 22 2 (by decide) rfl
      replace e2 : T[2]?.getD undef = .bool true := e2
      clear hbaseF hfactF
      have hT : T = #[T[0]?.getD undef, T[1]?.getD undef, T[2]?.getD undef, T[3]?.getD undef, T[4]?.getD undef, T[5]?.getD undef, T[6]?.getD undef, T[7]?.getD undef, T[8]?.getD undef, T[9]?.getD undef, T[10]?.getD undef, T[11]?.getD undef, T[12]?.getD undef, T[13]?.getD undef, T[14]?.getD undef, T[15]?.getD undef, T[16]?.getD undef, T[17]?.getD undef, T[18]?.getD undef, T[19]?.getD undef, T[20]?.getD undef, T[21]?.getD undef, T[22]?.getD undef, T[23]?.getD undef, T[24]?.getD undef, T[25]?.getD undef, T[26]?.getD undef, T[27]?.getD undef, T[28]?.getD undef, T[29]?.getD undef, T[30]?.getD undef, T[31]?.getD undef, T[32]?.getD undef, T[33]?.getD undef, T[34]?.getD undef, T[35]?.getD undef, T[36]?.getD undef, T[37]?.getD undef, T[38]?.getD undef, T[39]?.getD undef, T[40]?.getD undef, T[41]?.getD undef, T[42]?.getD undef, T[43]?.getD undef, T[44]?.getD undef, T[45]?.getD undef, T[46]?.getD undef, T[47]?.getD undef, T[48]?.getD undef, T[49]?.getD undef, T[50]?.getD undef, T[51]?.getD undef] := arr_eq T 52 hsF
      clear hsF
      rw [e0] at hT; clear e0
      rw [e1] at hT; clear e1
      rw [e2] at hT; clear e2
      rw [e3] at hT; clear e3
      rw [e4] at hT; clear e4
      rw [e5] at hT; clear e5
      rw [e6] at hT; clear e6
      rw [e7] at hT; clear e7
      rw [e8] at hT; clear e8
      rw [e9] at hT; clear e9
      rw [e10] at hT; clear e10
      rw [e11] at hT; clear e11
      rw [e12] at hT; clear e12
      rw [e13] at hT; clear e13
      rw [e14] at hT; clear e14
      rw [e15] at hT; clear e15
      rw [e16] at hT; clear e16
      rw [e17] at hT; clear e17
      rw [e18] at hT; clear e18
      rw [e19] at hT; clear e19
      rw [e20] at hT; clear e20
      rw [e21] at hT; clear e21
      rw [e22] at hT; clear e22
      rw [e23] at hT; clear e23
      rw [e24] at hT; clear e24
      rw [e25] at hT; clear e25
      rw [e26] at hT; clear e26
      rw [e27] at hT; clear e27
      rw [e28] at hT; clear e28
      rw [e29] at hT; clear e29
      generalize T[30]?.getD undef = u30 at hT
      generalize T[31]?.getD undef = u31 at hT
      generalize T[32]?.getD undef = u32 at hT
      generalize T[33]?.getD undef = u33 at hT
      generalize T[34]?.getD undef = u34 at hT
      generalize T[35]?.getD undef = u35 at hT
      generalize T[36]?.getD undef = u36 at hT
      generalize T[37]?.getD undef = u37 at hT
      generalize T[38]?.getD undef = u38 at hT
      generalize T[39]?.getD undef = u39 at hT
      generalize T[40]?.getD undef = u40 at hT
      generalize T[41]?.getD undef = u41 at hT
      generalize T[42]?.getD undef = u42 at hT
      generalize T[43]?.getD undef = u43 at hT
      generalize T[44]?.getD undef = u44 at hT
      generalize T[45]?.getD undef = u45 at hT
      generalize T[46]?.getD undef = u46 at hT
      generalize T[47]?.getD undef = u47 at hT
      generalize T[48]?.getD undef = u48 at hT
      generalize T[49]?.getD undef = u49 at hT
      generalize T[50]?.getD undef = u50 at hT
      generalize T[51]?.getD undef = u51 at hT
      subst hT
      go_wp2_with fail
      go_ret
      exact ⟨rfl, (by (have q_hbF := Below.size hbF; (try simp at q_hbF); have q_hb3 := Below.size hb3; (try simp at q_hb3); have q_hb2 := Below.size hb2; (try simp at q_hb2); have q_hb1 := Below.size hb1; (try simp at q_hb1); repeat (first | exact Below.refl _ _ | (refine Below.trans ?_ (Below.mono hbF (by first | omega | (simp; omega) | simp))) | (refine Below.trans ?_ (Below.mono hb3 (by first | omega | (simp; omega) | simp))) | (refine Below.trans ?_ (Below.mono hb2 (by first | omega | (simp; omega) | simp))) | (refine Below.trans ?_ (Below.mono hb1 (by first | omega | (simp; omega) | simp))) | (refine Below.setCell ?_ (by first | omega | (simp; omega) | simp) _) | (refine Below.alloc ?_ (by first | omega | (simp; omega) | simp) _) | apply Below.drew | apply below_drewN)))⟩
end Go.Proofs.Ythepgnankelmeaa
