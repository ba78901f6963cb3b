/- The walk of the statement WordXor. -/
import Derived.Test.YtdnjlhcmihmgdaaWord6
namespace Go.Proofs.Ytdnjlhcmihmgdaa
open Go.RowKit

theorem xorL_back : ∀ (a b : List UInt8), xorL (xorL a b) b = a.take (min a.length b.length)
  | [], b => by simp [xorL]
  | a, [] => by simp [xorL]
  | x :: a, y :: b => by
    have ih := xorL_back a b
    simp only [xorL, List.zipWith_cons_cons, List.length_cons] at ih ⊢
    rw [ih, show min (a.length + 1) (b.length + 1) = min a.length b.length + 1 from by omega, List.take_succ_cons, UInt8.xor_assoc, UInt8.xor_self, UInt8.xor_zero]
theorem xorL_len (a b : List UInt8) : (xorL a b).length = min a.length b.length := by simp [xorL]

set_option maxHeartbeats 1000000 in
theorem law_xor_t (A B : Option Addr) (s t c d : Nat) (a b : List UInt8) (w : World) (hA : Rd w A s a) (hB : Rd w B t b) (hsc : s ≤ c) (_htd : t ≤ d) (hs80 : s ≤ 80) (ht80 : t ≤ 80) (hc : c ≤ 9223372036854775807) (_hd : d ≤ 9223372036854775807)
    (hlt : t < s) (n m : Nat) (hn : min n 80 = s) (hm : min m 80 = t) (hnc : n ≤ c) (hmd : m ≤ d) :
    Calls Try.prog 7 #[.slice A n c, .slice B m d] w fun e w' => e = .returned (.bool true) ∧ Below w.heap.size w w' := by
  have hlx := Lib.hid (show (xorL a b).length = t by rw [xorL_len, hA.len, hB.len]; omega)
  have hbk := Lib.hid (show xorL (xorL a b) b = a.take t by rw [xorL_back, hA.len, hB.len, show min s t = t from by omega])
  have hlb := Lib.hid (show (xorL (xorL a b) b).length = t by rw [xorL_len, hlx.out, hB.len]; omega)
  have HS := Lib.hid hn
  have HT := Lib.hid hm
  clear hn hm
  have hMs : t ≤ s := by omega
  have hMt : t ≤ t := by omega
  have hcut := hA.cut (k := 0) (m := t) (cap := c + 1) (by omega) hMs (by omega)
  rw [if_neg (by omega)] at hcut
  have hcutR : Rd w A t (a.take t) := by cases A <;> simpa [Addr.add] using hcut
  clear hcut
  go_enter Try.func7, Try.ntmps7
  go_wp2_with fail
  refine (short_any _ _ _ _ hnc (by unfold maxLen; omega)).mono ?_
  rintro e w1 ⟨rfl, rfl⟩
  rw [HS.out]
  go_wp2_with fail
  refine (short_any _ _ _ _ hmd (by unfold maxLen; omega)).mono ?_
  rintro e w1 ⟨rfl, rfl⟩
  rw [HT.out]
  go_wp2_with fail
  refine (xor_any _ _ _ _ _ _ a b _ hA hB (by omega) (by omega)).mono ?_
  rintro e w1 ⟨r, rfl, hF1, hb1⟩
  obtain ⟨A1, c1, rfl, hR1, _, hn1, hm1⟩ := hF1.rdn _ hlx.out
  clear hF1
  have hA1 := hA.below hb1
  have hB1 := hB.below hb1
  have hC1 := hcutR.below hb1
  have hc1 : c1 ≤ 9223372036854775807 := by unfold maxLen at hm1; omega
  go_wp2_with fail
  go_loopw [29] (fun i wr => ∃ k : Nat, k ≤ t ∧ i = .int .i64 k ∧ Below w.heap.size w wr ∧ Below w1.heap.size w1 wr) (fun i _ => t - (intOf i).toNat)
  case atStart => exact ⟨0, by omega, rfl, hb1, Below.refl _ _⟩
  case round =>
    obtain ⟨k, hk, rfl, hbel, hbel1⟩ := hrel
    by_cases hkl : k < t
    · obtain ⟨ba, oa, x, rfl, _, hx, hcx⟩ := (hA1.below hbel1).at_ (show k < s by omega)
      obtain ⟨bb, ob, y, rfl, _, hy, hcy⟩ := (hB1.below hbel1).at_ (show k < t by omega)
      obtain ⟨bx, ox, z, rfl, _, hz, hcz⟩ := (hR1.below hbel1).at_ (show k < t by omega)
      have hzz : z = x ^^^ y := by rw [xorL_get hx hy] at hz; exact (Option.some.inj hz).symm
      subst hzz
      have hxy := u8_xor x y
      have q1 : (k : Int) < (s : Int) := by omega
      have q2 : (k : Int) < (t : Int) := by omega
      clear hx hy hz
      go_wp2_with fail
      go_quiet (fail)
      go_wp2_with fail
      go_roundw
      case rel => exact ⟨k + 1, by omega, by go_num, below_drewN hbel _, below_drewN hbel1 _⟩
      case measure => simp [intOf] <;> omega
    · have hkM : t ≤ k := by omega
      have hA2 := hA1.below hbel1
      have hB2 := hB1.below hbel1
      have hR2 := hR1.below hbel1
      have hC2 := hC1.below hbel1
      clear hA1 hB1 hR1 hC1 hcutR
      go_wp2_with fail
      refine wp_flows [(fun y_ _ => y_ = .slice A1 t c1), (fun y_ _ => y_ = .slice B t d), (IsB (t) (a.take t)), (fun y_ _ => y_ = .string (str (a.take t))), (fun y_ _ => y_ = .slice A s c), (fun y_ _ => y_ = .int .i64 t), (fun y_ _ => y_ = .slice A t c), (fun y_ _ => y_ = .string (str (a.take t))), (fun y_ _ => y_ = .bool true), (fun y_ _ => y_ = .bool true), (fun y_ _ => y_ = .bool true), (fun y_ _ => y_ = .bool true), (fun y_ _ => y_ = .bool true)] (by kernel_rfl) ⟨Stab.eq _, Stab.eq _, Stab.b _ _, Stab.eq _, Stab.eq _, Stab.eq _, Stab.eq _, Stab.eq _, Stab.eq _, Stab.eq _, Stab.eq _, Stab.eq _, Stab.eq _, trivial⟩ (by kernel_rfl) (by rfl) ?_ ?_
      · intro kq hkq
        match kq, hkq with
        | 0, _ =>
          refine StepOk.plain _ 47 rfl rfl rfl [(5, none)] (by kernel_rfl) (fun af wf hbw hf Kf hKf => ?_)
          obtain ⟨g5, _⟩ := hf
          have h5 : af.tmps[5]?.getD undef = .slice A1 t c1 := g5
          clear g5
          go_simp
          exact hKf _ _ (Below.refl _ _) rfl
        | 1, _ =>
          refine StepOk.plain _ 48 rfl rfl rfl [(1, none)] (by kernel_rfl) (fun af wf hbw hf Kf hKf => ?_)
          obtain ⟨g1, _⟩ := hf
          have h1 : af.tmps[1]?.getD undef = .slice B t d := g1
          clear g1
          go_simp
          exact hKf _ _ (Below.refl _ _) rfl
        | 2, _ =>
          refine StepOk.plain _ 49 rfl rfl rfl [(47, some 0), (48, some 1)] (by kernel_rfl) (fun af wf hbw hf Kf hKf => ?_)
          obtain ⟨g47, g48, _⟩ := hf
          have h47 : af.tmps[47]?.getD undef = .slice A1 t c1 := g47
          have h48 : af.tmps[48]?.getD undef = .slice B t d := g48
          clear g47 g48
          go_simp
          refine (xor_any A1 B t t c1 d (xorL a b) b _ (Rd.below (Rd.drew hR2) hbw) (Rd.below (Rd.drew hB2) hbw) (by omega) (by omega)).mono ?_
          rintro e wN ⟨r, rfl, hF, hb1⟩
          exact hKf _ _ (hb1) (IsB.of (by rw [hbk.out] at hF; exact hF) (by rw [← hbk.out]; exact hlb.out))
        | 3, _ =>
          refine StepOk.plain _ 50 rfl rfl rfl [(49, some 2)] (by kernel_rfl) (fun af wf hbw hf Kf hKf => ?_)
          obtain ⟨g49, _⟩ := hf
          obtain ⟨A49, c49, h49, hR49, hn49, hm49⟩ : IsB (t) (a.take t) (af.tmps[49]?.getD undef) wf := g49
          have hcv := conv c49 _ hR49
          go_simp
          exact hKf _ _ (Below.refl _ _) rfl
        | 4, _ =>
          refine StepOk.plain _ 51 rfl rfl rfl [(0, none)] (by kernel_rfl) (fun af wf hbw hf Kf hKf => ?_)
          obtain ⟨g0, _⟩ := hf
          have h0 : af.tmps[0]?.getD undef = .slice A s c := g0
          clear g0
          go_simp
          exact hKf _ _ (Below.refl _ _) rfl
        | 5, _ =>
          refine StepOk.plain _ 52 rfl rfl rfl [(6, none)] (by kernel_rfl) (fun af wf hbw hf Kf hKf => ?_)
          obtain ⟨g6, _⟩ := hf
          have h6 : af.tmps[6]?.getD undef = .int .i64 t := g6
          clear g6
          go_simp
          exact hKf _ _ (Below.refl _ _) rfl
        | 6, _ =>
          refine StepOk.plain _ 53 rfl rfl rfl [(51, some 4), (52, some 5)] (by kernel_rfl) (fun af wf hbw hf Kf hKf => ?_)
          obtain ⟨g51, g52, _⟩ := hf
          have h51 : af.tmps[51]?.getD undef = .slice A s c := g51
          have h52 : af.tmps[52]?.getD undef = .int .i64 t := g52
          clear g51 g52
          have hqc : t ≤ c := by omega
          go_simp
          exact hKf _ _ (Below.refl _ _) rfl
        | 7, _ =>
          refine StepOk.plain _ 54 rfl rfl rfl [(53, some 6)] (by kernel_rfl) (fun af wf hbw hf Kf hKf => ?_)
          obtain ⟨g53, _⟩ := hf
          have h53 : af.tmps[53]?.getD undef = .slice A t c := g53
          clear g53
          have hcv := conv c _ (Rd.below (Rd.drew hC2) hbw)
          go_simp
          exact hKf _ _ (Below.refl _ _) rfl
        | 8, _ =>
          refine StepOk.plain _ 55 rfl rfl rfl [(50, some 3), (54, some 7)] (by kernel_rfl) (fun af wf hbw hf Kf hKf => ?_)
          obtain ⟨g50, g54, _⟩ := hf
          have h50 : af.tmps[50]?.getD undef = .string (str (a.take t)) := g50
          have h54 : af.tmps[54]?.getD undef = .string (str (a.take t)) := g54
          clear g50 g54
          go_simp
          exact hKf _ _ (Below.refl _ _) rfl
        | 9, _ =>
          refine StepOk.plain _ 56 rfl rfl rfl [(55, some 8)] (by kernel_rfl) (fun af wf hbw hf Kf hKf => ?_)
          obtain ⟨g55, _⟩ := hf
          have h55 : af.tmps[55]?.getD undef = .bool true := g55
          clear g55
          go_simp
          exact hKf _ _ (Below.refl _ _) rfl
        | 10, _ =>
          refine StepOk.yes _ 57 rfl rfl rfl rfl (fun _ _ h => h) [] (by kernel_rfl) (fun af wf hbw hf Kf hKf => ?_)
          go_simp
          refine (wawake_any _).mono ?_
          rintro e wN ⟨rfl, hb1⟩
          exact hKf _ _ (hb1) (rfl)
        | 11, _ =>
          refine StepOk.plain _ 58 rfl rfl rfl [(56, some 9), (57, some 10)] (by kernel_rfl) (fun af wf hbw hf Kf hKf => ?_)
          obtain ⟨g56, g57, _⟩ := hf
          have h56 : af.tmps[56]?.getD undef = .bool true := g56
          have h57 : af.tmps[57]?.getD undef = .bool true := g57
          clear g56 g57
          go_simp
          exact hKf _ _ (Below.refl _ _) rfl
        | 12, _ =>
          refine StepOk.plain _ 4 rfl rfl rfl [(58, some 11)] (by kernel_rfl) (fun af wf hbw hf Kf hKf => ?_)
          obtain ⟨g58, _⟩ := hf
          have h58 : af.tmps[58]?.getD undef = .bool true := g58
          clear g58
          go_simp
          exact hKf _ _ (Below.refl _ _) rfl
        | i + 13, h => exact absurd h (by show ¬ (i + 13 < 13); omega)
      · intro af wF hbF hdF hsF hbaseF hfactF
        obtain ⟨T, dsF⟩ := af
        obtain rfl : dsF = _ := hdF
        have e0 := hbaseF 0 (not_dst (by kernel_rfl))
        simp only [List.getElem?_toArray, List.getElem?_cons_zero, Option.getD_some] at e0
        have e1 := hbaseF 1 (not_dst (by kernel_rfl))
        simp only [List.getElem?_toArray, List.getElem?_cons_zero, List.getElem?_cons_succ, Option.getD_some] at e1
        have e2 := hbaseF 2 (not_dst (by kernel_rfl))
        simp only [List.getElem?_toArray, List.getElem?_cons_zero, List.getElem?_cons_succ, Option.getD_some] at e2
        have e3 := hbaseF 3 (not_dst (by kernel_rfl))
        simp only [List.getElem?_toArray, List.getElem?_cons_zero, List.getElem?_cons_succ, Option.getD_some] at e3
        have e5 := hbaseF 5 (not_dst (by kernel_rfl))
        simp only [List.getElem?_toArray, List.getElem?_cons_zero, List.getElem?_cons_succ, Option.getD_some] at e5
        have e6 := hbaseF 6 (not_dst (by kernel_rfl))
        simp only [List.getElem?_toArray, List.getElem?_cons_zero, List.getElem?_cons_succ, Option.getD_some] at e6
        have e7 := hbaseF 7 (not_dst (by kernel_rfl))
        simp only [List.getElem?_toArray, List.getElem?_cons_zero, List.getElem?_cons_succ, Option.getD_some] at e7
        have e8 := hbaseF 8 (not_dst (by kernel_rfl))
        simp only [List.getElem?_toArray, List.getElem?_cons_zero, List.getElem?_cons_succ, Option.getD_some] at e8
        have e9 := hbaseF 9 (not_dst (by kernel_rfl))
        simp only [List.getElem?_toArray, List.getElem?_cons_zero, List.getElem?_cons_succ, Option.getD_some] at e9
        have e10 := hbaseF 10 (not_dst (by kernel_rfl))
        simp only [List.getElem?_toArray, List.getElem?_cons_zero, List.getElem?_cons_succ, Option.getD_some] at e10
        have e11 := hbaseF 11 (not_dst (by kernel_rfl))
        simp only [List.getElem?_toArray, List.getElem?_cons_zero, List.getElem?_cons_succ, Option.getD_some] at e11
        have e12 := hbaseF 12 (not_dst (by kernel_rfl))
        simp only [List.getElem?_toArray, List.getElem?_cons_zero, List.getElem?_cons_succ, Option.getD_some] at e12
        have e13 := hbaseF 13 (not_dst (by kernel_rfl))
        simp only [List.getElem?_toArray, List.getElem?_cons_zero, List.getElem?_cons_succ, Option.getD_some] at e13
        have e14 := hbaseF 14 (not_dst (by kernel_rfl))
        simp only [List.getElem?_toArray, List.getElem?_cons_zero, List.getElem?_cons_succ, Option.getD_some] at e14
        have e15 := hbaseF 15 (not_dst (by kernel_rfl))
        simp only [List.getElem?_toArray, List.getElem?_cons_zero, List.getElem?_cons_succ, Option.getD_some] at e15
        have e16 := hbaseF 16 (not_dst (by kernel_rfl))
        simp only [List.getElem?_toArray, List.getElem?_cons_zero, List.getElem?_cons_succ, Option.getD_some] at e16
        have e17 := hbaseF 17 (not_dst (by kernel_rfl))
        simp only [List.getElem?_toArray, List.getElem?_cons_zero, List.getElem?_cons_succ, Option.getD_some] at e17
        have e18 := hbaseF 18 (not_dst (by kernel_rfl))
        simp only [List.getElem?_toArray, List.getElem?_cons_zero, List.getElem?_cons_succ, Option.getD_some] at e18
        have e19 := hbaseF 19 (not_dst (by kernel_rfl))
        simp only [List.getElem?_toArray, List.getElem?_cons_zero, List.getElem?_cons_succ, Option.getD_some] at e19
        have e20 := hbaseF 20 (not_dst (by kernel_rfl))
        simp only [List.getElem?_toArray, List.getElem?_cons_zero, List.getElem?_cons_succ, Option.getD_some] at e20
        have e21 := hbaseF 21 (not_dst (by kernel_rfl))
        simp only [List.getElem?_toArray, List.getElem?_cons_zero, List.getElem?_cons_succ, Option.getD_some] at e21
        have e22 := hbaseF 22 (not_dst (by kernel_rfl))
        simp only [List.getElem?_toArray, List.getElem?_cons_zero, List.getElem?_cons_succ, Option.getD_some] at e22
        have e23 := hbaseF 23 (not_dst (by kernel_rfl))
        simp only [List.getElem?_toArray, List.getElem?_cons_zero, List.getElem?_cons_succ, Option.getD_some] at e23
        have e24 := hbaseF 24 (not_dst (by kernel_rfl))
        simp only [List.getElem?_toArray, List.getElem?_cons_zero, List.getElem?_cons_succ, Option.getD_some] at e24
        have e25 := hbaseF 25 (not_dst (by kernel_rfl))
        simp only [List.getElem?_toArray, List.getElem?_cons_zero, List.getElem?_cons_succ, Option.getD_some] at e25
        have e26 := hbaseF 26 (not_dst (by kernel_rfl))
        simp only [List.getElem?_toArray, List.getElem?_cons_zero, List.getElem?_cons_succ, Option.getD_some] at e26
        have e27 := hbaseF 27 (not_dst (by kernel_rfl))
        simp only [List.getElem?_toArray, List.getElem?_cons_zero, List.getElem?_cons_succ, Option.getD_some] at e27
        have e28 := hbaseF 28 (not_dst (by kernel_rfl))
        simp only [List.getElem?_toArray, List.getElem?_cons_zero, List.getElem?_cons_succ, Option.getD_some] at e28
        have e29 := hbaseF 29 (not_dst (by kernel_rfl))
        simp only [List.getElem?_toArray, List.getElem?_cons_zero, List.getElem?_cons_succ, Option.getD_some] at e29
        have e30 := hbaseF 30 (not_dst (by kernel_rfl))
        simp only [List.getElem?_toArray, List.getElem?_cons_zero, List.getElem?_cons_succ, Option.getD_some] at e30
        have e31 := hbaseF 31 (not_dst (by kernel_rfl))
        simp only [List.getElem?_toArray, List.getElem?_cons_zero, List.getElem?_cons_succ, Option.getD_some] at e31
        have e32 := hbaseF 32 (not_dst (by kernel_rfl))
        simp only [List.getElem?_toArray, List.getElem?_cons_zero, List.getElem?_cons_succ, Option.getD_some] at e32
        have e33 := hbaseF 33 (not_dst (by kernel_rfl))
        simp only [List.getElem?_toArray, List.getElem?_cons_zero, List.getElem?_cons_succ, Option.getD_some] at e33
        have e34 := hbaseF 34 (not_dst (by kernel_rfl))
        simp only [List.getElem?_toArray, List.getElem?_cons_zero, List.getElem?_cons_succ, Option.getD_some] at e34
        have e35 := hbaseF 35 (not_dst (by kernel_rfl))
        simp only [List.getElem?_toArray, List.getElem?_cons_zero, List.getElem?_cons_succ, Option.getD_some] at e35
        have e36 := hbaseF 36 (not_dst (by kernel_rfl))
        simp only [List.getElem?_toArray, List.getElem?_cons_zero, List.getElem?_cons_succ, Option.getD_some] at e36
        have e37 := hbaseF 37 (not_dst (by kernel_rfl))
        simp only [List.getElem?_toArray, List.getElem?_cons_zero, List.getElem?_cons_succ, Option.getD_some] at e37
        have e38 := hbaseF 38 (not_dst (by kernel_rfl))
        simp only [List.getElem?_toArray, List.getElem?_cons_zero, List.getElem?_cons_succ, Option.getD_some] at e38
        have e39 := hbaseF 39 (not_dst (by kernel_rfl))
        simp only [List.getElem?_toArray, List.getElem?_cons_zero, List.getElem?_cons_succ, Option.getD_some] at e39
        have e40 := hbaseF 40 (not_dst (by kernel_rfl))
        simp only [List.getElem?_toArray, List.getElem?_cons_zero, List.getElem?_cons_succ, Option.getD_some] at e40
        have e41 := hbaseF 41 (not_dst (by kernel_rfl))
        simp only [List.getElem?_toArray, List.getElem?_cons_zero, List.getElem?_cons_succ, Option.getD_some] at e41
        have e42 := hbaseF 42 (not_dst (by kernel_rfl))
        simp only [List.getElem?_toArray, List.getElem?_cons_zero, List.getElem?_cons_succ, Option.getD_some] at e42
        have e43 := hbaseF 43 (not_dst (by kernel_rfl))
        simp only [List.getElem?_toArray, List.getElem?_cons_zero, List.getElem?_cons_succ, Option.getD_some] at e43
        have e44 := hbaseF 44 (not_dst (by kernel_rfl))
        simp only [List.getElem?_toArray, List.getElem?_cons_zero, List.getElem?_cons_succ, Option.getD_some] at e44
        have e45 := hbaseF 45 (not_dst (by kernel_rfl))
        simp only [List.getElem?_toArray, List.getElem?_cons_zero, List.getElem?_cons_succ, Option.getD_some] at e45
        have e46 := hbaseF 46 (not_dst (by kernel_rfl))
        simp only [List.getElem?_toArray, List.getElem?_cons_zero, List.getElem?_cons_succ, Option.getD_some] at e46
        have e4 := hfactF 12 4 (by decide) rfl
        replace e4 : T[4]?.getD undef = .bool true := e4
        clear hbaseF hfactF
        have hT : T = #[T[0]?.getD undef, T[1]?.getD undef, T[2]?.getD undef, T[3]?.getD undef, T[4]?.getD undef, T[5]?.getD undef, T[6]?.getD undef, T[7]?.getD undef, T[8]?.getD undef, T[9]?.getD undef, T[10]?.getD undef, T[11]?.getD undef, T[12]?.getD undef, T[13]?.getD undef, T[14]?.getD undef, T[15]?.getD undef, T[16]?.getD undef, T[17]?.getD undef, T[18]?.getD undef, T[19]?.getD undef, T[20]?.getD undef, T[21]?.getD undef, T[22]?.getD undef, T[23]?.getD undef, T[24]?.getD undef, T[25]?.getD undef, T[26]?.getD undef, T[27]?.getD undef, T[28]?.getD undef, T[29]?.getD undef, T[30]?.getD undef, T[31]?.getD undef, T[32]?.getD undef, T[33]?.getD undef, T[34]?.getD undef, T[35]?.getD undef, T[36]?.getD undef, T[37]?.getD undef, T[38]?.getD undef, T[39]?.getD undef, T[40]?.getD undef, T[41]?.getD undef, T[42]?.getD undef, T[43]?.getD undef, T[44]?.getD undef, T[45]?.getD undef, T[46]?.getD undef, T[47]?.getD undef, T[48]?.getD undef, T[49]?.getD undef, T[50]?.getD undef, T[51]?.getD undef, T[52]?.getD undef, T[53]?.getD undef, T[54]?.getD undef, T[55]?.getD undef, T[56]?.getD undef, T[57]?.getD undef, T[58]?.getD undef] := arr_eq T 59 hsF
        clear hsF
        rw [e0] at hT; clear e0
        rw [e1] at hT; clear e1
        rw [e2] at hT; clear e2
        rw [e3] at hT; clear e3
        rw [e4] at hT; clear e4
        rw [e5] at hT; clear e5
        rw [e6] at hT; clear e6
        rw [e7] at hT; clear e7
        rw [e8] at hT; clear e8
        rw [e9] at hT; clear e9
        rw [e10] at hT; clear e10
        rw [e11] at hT; clear e11
        rw [e12] at hT; clear e12
        rw [e13] at hT; clear e13
        rw [e14] at hT; clear e14
        rw [e15] at hT; clear e15
        rw [e16] at hT; clear e16
        rw [e17] at hT; clear e17
        rw [e18] at hT; clear e18
        rw [e19] at hT; clear e19
        rw [e20] at hT; clear e20
        rw [e21] at hT; clear e21
        rw [e22] at hT; clear e22
        rw [e23] at hT; clear e23
        rw [e24] at hT; clear e24
        rw [e25] at hT; clear e25
        rw [e26] at hT; clear e26
        rw [e27] at hT; clear e27
        rw [e28] at hT; clear e28
        rw [e29] at hT; clear e29
        rw [e30] at hT; clear e30
        rw [e31] at hT; clear e31
        rw [e32] at hT; clear e32
        rw [e33] at hT; clear e33
        rw [e34] at hT; clear e34
        rw [e35] at hT; clear e35
        rw [e36] at hT; clear e36
        rw [e37] at hT; clear e37
        rw [e38] at hT; clear e38
        rw [e39] at hT; clear e39
        rw [e40] at hT; clear e40
        rw [e41] at hT; clear e41
        rw [e42] at hT; clear e42
        rw [e43] at hT; clear e43
        rw [e44] at hT; clear e44
        rw [e45] at hT; clear e45
        rw [e46] at hT; clear e46
        generalize T[47]?.getD undef = u47 at hT
        generalize T[48]?.getD undef = u48 at hT
        generalize T[49]?.getD undef = u49 at hT
        generalize T[50]?.getD undef = u50 at hT
        generalize T[51]?.getD undef = u51 at hT
        generalize T[52]?.getD undef = u52 at hT
        generalize T[53]?.getD undef = u53 at hT
        generalize T[54]?.getD undef = u54 at hT
        generalize T[55]?.getD undef = u55 at hT
        generalize T[56]?.getD undef = u56 at hT
        generalize T[57]?.getD undef = u57 at hT
        generalize T[58]?.getD undef = u58 at hT
        subst hT
        go_wp2_with fail
        go_ret
        exact ⟨rfl, (by (have q_hbF := Below.size hbF; (try simp at q_hbF); have q_hbel := Below.size hbel; (try simp at q_hbel); repeat (first | exact Below.refl _ _ | (refine Below.trans ?_ (Below.mono hbF (by first | omega | (simp; omega) | simp))) | (refine Below.trans ?_ (Below.mono hbel (by first | omega | (simp; omega) | simp))) | (refine Below.setCell ?_ (by first | omega | (simp; omega) | simp) _) | (refine Below.alloc ?_ (by first | omega | (simp; omega) | simp) _) | apply Below.drew | apply below_drewN)))⟩

set_option maxHeartbeats 1000000 in
theorem law_xor_s (A B : Option Addr) (s t c d : Nat) (a b : List UInt8) (w : World) (hA : Rd w A s a) (hB : Rd w B t b) (hsc : s ≤ c) (_htd : t ≤ d) (hs80 : s ≤ 80) (ht80 : t ≤ 80) (hc : c ≤ 9223372036854775807) (_hd : d ≤ 9223372036854775807)
    (hlt : ¬ t < s) (n m : Nat) (hn : min n 80 = s) (hm : min m 80 = t) (hnc : n ≤ c) (hmd : m ≤ d) :
    Calls Try.prog 7 #[.slice A n c, .slice B m d] w fun e w' => e = .returned (.bool true) ∧ Below w.heap.size w w' := by
  have hlx := Lib.hid (show (xorL a b).length = s by rw [xorL_len, hA.len, hB.len]; omega)
  have hbk := Lib.hid (show xorL (xorL a b) b = a.take s by rw [xorL_back, hA.len, hB.len, show min s t = s from by omega])
  have hlb := Lib.hid (show (xorL (xorL a b) b).length = s by rw [xorL_len, hlx.out, hB.len]; omega)
  have HS := Lib.hid hn
  have HT := Lib.hid hm
  clear hn hm
  have hMs : s ≤ s := by omega
  have hMt : s ≤ t := by omega
  have hcut := hA.cut (k := 0) (m := s) (cap := c + 1) (by omega) hMs (by omega)
  rw [if_neg (by omega)] at hcut
  have hcutR : Rd w A s (a.take s) := by cases A <;> simpa [Addr.add] using hcut
  clear hcut
  go_enter Try.func7, Try.ntmps7
  go_wp2_with fail
  refine (short_any _ _ _ _ hnc (by unfold maxLen; omega)).mono ?_
  rintro e w1 ⟨rfl, rfl⟩
  rw [HS.out]
  go_wp2_with fail
  refine (short_any _ _ _ _ hmd (by unfold maxLen; omega)).mono ?_
  rintro e w1 ⟨rfl, rfl⟩
  rw [HT.out]
  go_wp2_with fail
  refine (xor_any _ _ _ _ _ _ a b _ hA hB (by omega) (by omega)).mono ?_
  rintro e w1 ⟨r, rfl, hF1, hb1⟩
  obtain ⟨A1, c1, rfl, hR1, _, hn1, hm1⟩ := hF1.rdn _ hlx.out
  clear hF1
  have hA1 := hA.below hb1
  have hB1 := hB.below hb1
  have hC1 := hcutR.below hb1
  have hc1 : c1 ≤ 9223372036854775807 := by unfold maxLen at hm1; omega
  go_wp2_with fail
  go_loopw [29] (fun i wr => ∃ k : Nat, k ≤ s ∧ i = .int .i64 k ∧ Below w.heap.size w wr ∧ Below w1.heap.size w1 wr) (fun i _ => s - (intOf i).toNat)
  case atStart => exact ⟨0, by omega, rfl, hb1, Below.refl _ _⟩
  case round =>
    obtain ⟨k, hk, rfl, hbel, hbel1⟩ := hrel
    by_cases hkl : k < s
    · obtain ⟨ba, oa, x, rfl, _, hx, hcx⟩ := (hA1.below hbel1).at_ (show k < s by omega)
      obtain ⟨bb, ob, y, rfl, _, hy, hcy⟩ := (hB1.below hbel1).at_ (show k < t by omega)
      obtain ⟨bx, ox, z, rfl, _, hz, hcz⟩ := (hR1.below hbel1).at_ (show k < s by omega)
      have hzz : z = x ^^^ y := by rw [xorL_get hx hy] at hz; exact (Option.some.inj hz).symm
      subst hzz
      have hxy := u8_xor x y
      have q1 : (k : Int) < (s : Int) := by omega
      have q2 : (k : Int) < (t : Int) := by omega
      clear hx hy hz
      go_wp2_with fail
      go_quiet (fail)
      go_wp2_with fail
      go_roundw
      case rel => exact ⟨k + 1, by omega, by go_num, below_drewN hbel _, below_drewN hbel1 _⟩
      case measure => simp [intOf] <;> omega
    · have hkM : s ≤ k := by omega
      have hA2 := hA1.below hbel1
      have hB2 := hB1.below hbel1
      have hR2 := hR1.below hbel1
      have hC2 := hC1.below hbel1
      clear hA1 hB1 hR1 hC1 hcutR
      go_wp2_with fail
      refine wp_flows [(fun y_ _ => y_ = .slice A1 s c1), (fun y_ _ => y_ = .slice B t d), (IsB (s) (a.take s)), (fun y_ _ => y_ = .string (str (a.take s))), (fun y_ _ => y_ = .slice A s c), (fun y_ _ => y_ = .int .i64 s), (fun y_ _ => y_ = .slice A s c), (fun y_ _ => y_ = .string (str (a.take s))), (fun y_ _ => y_ = .bool true), (fun y_ _ => y_ = .bool true), (fun y_ _ => y_ = .bool true), (fun y_ _ => y_ = .bool true), (fun y_ _ => y_ = .bool true)] (by kernel_rfl) ⟨Stab.eq _, Stab.eq _, Stab.b _ _, Stab.eq _, Stab.eq _, Stab.eq _, Stab.eq _, Stab.eq _, Stab.eq _, Stab.eq _, Stab.eq _, Stab.eq _, Stab.eq _, trivial⟩ (by kernel_rfl) (by rfl) ?_ ?_
      · intro kq hkq
        match kq, hkq with
        | 0, _ =>
          refine StepOk.plain _ 47 rfl rfl rfl [(5, none)] (by kernel_rfl) (fun af wf hbw hf Kf hKf => ?_)
          obtain ⟨g5, _⟩ := hf
          have h5 : af.tmps[5]?.getD undef = .slice A1 s c1 := g5
          clear g5
          go_simp
          exact hKf _ _ (Below.refl _ _) rfl
        | 1, _ =>
          refine StepOk.plain _ 48 rfl rfl rfl [(1, none)] (by kernel_rfl) (fun af wf hbw hf Kf hKf => ?_)
          obtain ⟨g1, _⟩ := hf
          have h1 : af.tmps[1]?.getD undef = .slice B t d := g1
          clear g1
          go_simp
          exact hKf _ _ (Below.refl _ _) rfl
        | 2, _ =>
          refine StepOk.plain _ 49 rfl rfl rfl [(47, some 0), (48, some 1)] (by kernel_rfl) (fun af wf hbw hf Kf hKf => ?_)
          obtain ⟨g47, g48, _⟩ := hf
          have h47 : af.tmps[47]?.getD undef = .slice A1 s c1 := g47
          have h48 : af.tmps[48]?.getD undef = .slice B t d := g48
          clear g47 g48
          go_simp
          refine (xor_any A1 B s t c1 d (xorL a b) b _ (Rd.below (Rd.drew hR2) hbw) (Rd.below (Rd.drew hB2) hbw) (by omega) (by omega)).mono ?_
          rintro e wN ⟨r, rfl, hF, hb1⟩
          exact hKf _ _ (hb1) (IsB.of (by rw [hbk.out] at hF; exact hF) (by rw [← hbk.out]; exact hlb.out))
        | 3, _ =>
          refine StepOk.plain _ 50 rfl rfl rfl [(49, some 2)] (by kernel_rfl) (fun af wf hbw hf Kf hKf => ?_)
          obtain ⟨g49, _⟩ := hf
          obtain ⟨A49, c49, h49, hR49, hn49, hm49⟩ : IsB (s) (a.take s) (af.tmps[49]?.getD undef) wf := g49
          have hcv := conv c49 _ hR49
          go_simp
          exact hKf _ _ (Below.refl _ _) rfl
        | 4, _ =>
          refine StepOk.plain _ 51 rfl rfl rfl [(0, none)] (by kernel_rfl) (fun af wf hbw hf Kf hKf => ?_)
          obtain ⟨g0, _⟩ := hf
          have h0 : af.tmps[0]?.getD undef = .slice A s c := g0
          clear g0
          go_simp
          exact hKf _ _ (Below.refl _ _) rfl
        | 5, _ =>
          refine StepOk.plain _ 52 rfl rfl rfl [(6, none)] (by kernel_rfl) (fun af wf hbw hf Kf hKf => ?_)
          obtain ⟨g6, _⟩ := hf
          have h6 : af.tmps[6]?.getD undef = .int .i64 s := g6
          clear g6
          go_simp
          exact hKf _ _ (Below.refl _ _) rfl
        | 6, _ =>
          refine StepOk.plain _ 53 rfl rfl rfl [(51, some 4), (52, some 5)] (by kernel_rfl) (fun af wf hbw hf Kf hKf => ?_)
          obtain ⟨g51, g52, _⟩ := hf
          have h51 : af.tmps[51]?.getD undef = .slice A s c := g51
          have h52 : af.tmps[52]?.getD undef = .int .i64 s := g52
          clear g51 g52
          go_simp
          exact hKf _ _ (Below.refl _ _) rfl
        | 7, _ =>
          refine StepOk.plain _ 54 rfl rfl rfl [(53, some 6)] (by kernel_rfl) (fun af wf hbw hf Kf hKf => ?_)
          obtain ⟨g53, _⟩ := hf
          have h53 : af.tmps[53]?.getD undef = .slice A s c := g53
          clear g53
          have hcv := conv c _ (Rd.below (Rd.drew hC2) hbw)
          go_simp
          exact hKf _ _ (Below.refl _ _) rfl
        | 8, _ =>
          refine StepOk.plain _ 55 rfl rfl rfl [(50, some 3), (54, some 7)] (by kernel_rfl) (fun af wf hbw hf Kf hKf => ?_)
          obtain ⟨g50, g54, _⟩ := hf
          have h50 : af.tmps[50]?.getD undef = .string (str (a.take s)) := g50
          have h54 : af.tmps[54]?.getD undef = .string (str (a.take s)) := g54
          clear g50 g54
          go_simp
          exact hKf _ _ (Below.refl _ _) rfl
        | 9, _ =>
          refine StepOk.plain _ 56 rfl rfl rfl [(55, some 8)] (by kernel_rfl) (fun af wf hbw hf Kf hKf => ?_)
          obtain ⟨g55, _⟩ := hf
          have h55 : af.tmps[55]?.getD undef = .bool true := g55
          clear g55
          go_simp
          exact hKf _ _ (Below.refl _ _) rfl
        | 10, _ =>
          refine StepOk.yes _ 57 rfl rfl rfl rfl (fun _ _ h => h) [] (by kernel_rfl) (fun af wf hbw hf Kf hKf => ?_)
          go_simp
          refine (wawake_any _).mono ?_
          rintro e wN ⟨rfl, hb1⟩
          exact hKf _ _ (hb1) (rfl)
        | 11, _ =>
          refine StepOk.plain _ 58 rfl rfl rfl [(56, some 9), (57, some 10)] (by kernel_rfl) (fun af wf hbw hf Kf hKf => ?_)
          obtain ⟨g56, g57, _⟩ := hf
          have h56 : af.tmps[56]?.getD undef = .bool true := g56
          have h57 : af.tmps[57]?.getD undef = .bool true := g57
          clear g56 g57
          go_simp
          exact hKf _ _ (Below.refl _ _) rfl
        | 12, _ =>
          refine StepOk.plain _ 4 rfl rfl rfl [(58, some 11)] (by kernel_rfl) (fun af wf hbw hf Kf hKf => ?_)
          obtain ⟨g58, _⟩ := hf
          have h58 : af.tmps[58]?.getD undef = .bool true := g58
          clear g58
          go_simp
          exact hKf _ _ (Below.refl _ _) rfl
        | i + 13, h => exact absurd h (by show ¬ (i + 13 < 13); omega)
      · intro af wF hbF hdF hsF hbaseF hfactF
        obtain ⟨T, dsF⟩ := af
        obtain rfl : dsF = _ := hdF
        have e0 := hbaseF 0 (not_dst (by kernel_rfl))
        simp only [List.getElem?_toArray, List.getElem?_cons_zero, Option.getD_some] at e0
        have e1 := hbaseF 1 (not_dst (by kernel_rfl))
        simp only [List.getElem?_toArray, List.getElem?_cons_zero, List.getElem?_cons_succ, Option.getD_some] at e1
        have e2 := hbaseF 2 (not_dst (by kernel_rfl))
        simp only [List.getElem?_toArray, List.getElem?_cons_zero, List.getElem?_cons_succ, Option.getD_some] at e2
        have e3 := hbaseF 3 (not_dst (by kernel_rfl))
        simp only [List.getElem?_toArray, List.getElem?_cons_zero, List.getElem?_cons_succ, Option.getD_some] at e3
        have e5 := hbaseF 5 (not_dst (by kernel_rfl))
        simp only [List.getElem?_toArray, List.getElem?_cons_zero, List.getElem?_cons_succ, Option.getD_some] at e5
        have e6 := hbaseF 6 (not_dst (by kernel_rfl))
        simp only [List.getElem?_toArray, List.getElem?_cons_zero, List.getElem?_cons_succ, Option.getD_some] at e6
        have e7 := hbaseF 7 (not_dst (by kernel_rfl))
        simp only [List.getElem?_toArray, List.getElem?_cons_zero, List.getElem?_cons_succ, Option.getD_some] at e7
        have e8 := hbaseF 8 (not_dst (by kernel_rfl))
        simp only [List.getElem?_toArray, List.getElem?_cons_zero, List.getElem?_cons_succ, Option.getD_some] at e8
        have e9 := hbaseF 9 (not_dst (by kernel_rfl))
        simp only [List.getElem?_toArray, List.getElem?_cons_zero, List.getElem?_cons_succ, Option.getD_some] at e9
        have e10 := hbaseF 10 (not_dst (by kernel_rfl))
        simp only [List.getElem?_toArray, List.getElem?_cons_zero, List.getElem?_cons_succ, Option.getD_some] at e10
        have e11 := hbaseF 11 (not_dst (by kernel_rfl))
        simp only [List.getElem?_toArray, List.getElem?_cons_zero, List.getElem?_cons_succ, Option.getD_some] at e11
        have e12 := hbaseF 12 (not_dst (by kernel_rfl))
        simp only [List.getElem?_toArray, List.getElem?_cons_zero, List.getElem?_cons_succ, Option.getD_some] at e12
        have e13 := hbaseF 13 (not_dst (by kernel_rfl))
        simp only [List.getElem?_toArray, List.getElem?_cons_zero, List.getElem?_cons_succ, Option.getD_some] at e13
        have e14 := hbaseF 14 (not_dst (by kernel_rfl))
        simp only [List.getElem?_toArray, List.getElem?_cons_zero, List.getElem?_cons_succ, Option.getD_some] at e14
        have e15 := hbaseF 15 (not_dst (by kernel_rfl))
        simp only [List.getElem?_toArray, List.getElem?_cons_zero, List.getElem?_cons_succ, Option.getD_some] at e15
        have e16 := hbaseF 16 (not_dst (by kernel_rfl))
        simp only [List.getElem?_toArray, List.getElem?_cons_zero, List.getElem?_cons_succ, Option.getD_some] at e16
        have e17 := hbaseF 17 (not_dst (by kernel_rfl))
        simp only [List.getElem?_toArray, List.getElem?_cons_zero, List.getElem?_cons_succ, Option.getD_some] at e17
        have e18 := hbaseF 18 (not_dst (by kernel_rfl))
        simp only [List.getElem?_toArray, List.getElem?_cons_zero, List.getElem?_cons_succ, Option.getD_some] at e18
        have e19 := hbaseF 19 (not_dst (by kernel_rfl))
        simp only [List.getElem?_toArray, List.getElem?_cons_zero, List.getElem?_cons_succ, Option.getD_some] at e19
        have e20 := hbaseF 20 (not_dst (by kernel_rfl))
        simp only [List.getElem?_toArray, List.getElem?_cons_zero, List.getElem?_cons_succ, Option.getD_some] at e20
        have e21 := hbaseF 21 (not_dst (by kernel_rfl))
        simp only [List.getElem?_toArray, List.getElem?_cons_zero, List.getElem?_cons_succ, Option.getD_some] at e21
        have e22 := hbaseF 22 (not_dst (by kernel_rfl))
        simp only [List.getElem?_toArray, List.getElem?_cons_zero, List.getElem?_cons_succ, Option.getD_some] at e22
        have e23 := hbaseF 23 (not_dst (by kernel_rfl))
        simp only [List.getElem?_toArray, List.getElem?_cons_zero, List.getElem?_cons_succ, Option.getD_some] at e23
        have e24 := hbaseF 24 (not_dst (by kernel_rfl))
        simp only [List.getElem?_toArray, List.getElem?_cons_zero, List.getElem?_cons_succ, Option.getD_some] at e24
        have e25 := hbaseF 25 (not_dst (by kernel_rfl))
        simp only [List.getElem?_toArray, List.getElem?_cons_zero, List.getElem?_cons_succ, Option.getD_some] at e25
        have e26 := hbaseF 26 (not_dst (by kernel_rfl))
        simp only [List.getElem?_toArray, List.getElem?_cons_zero, List.getElem?_cons_succ, Option.getD_some] at e26
        have e27 := hbaseF 27 (not_dst (by kernel_rfl))
        simp only [List.getElem?_toArray, List.getElem?_cons_zero, List.getElem?_cons_succ, Option.getD_some] at e27
        have e28 := hbaseF 28 (not_dst (by kernel_rfl))
        simp only [List.getElem?_toArray, List.getElem?_cons_zero, List.getElem?_cons_succ, Option.getD_some] at e28
        have e29 := hbaseF 29 (not_dst (by kernel_rfl))
        simp only [List.getElem?_toArray, List.getElem?_cons_zero, List.getElem?_cons_succ, Option.getD_some] at e29
        have e30 := hbaseF 30 (not_dst (by kernel_rfl))
        simp only [List.getElem?_toArray, List.getElem?_cons_zero, List.getElem?_cons_succ, Option.getD_some] at e30
        have e31 := hbaseF 31 (not_dst (by kernel_rfl))
        simp only [List.getElem?_toArray, List.getElem?_cons_zero, List.getElem?_cons_succ, Option.getD_some] at e31
        have e32 := hbaseF 32 (not_dst (by kernel_rfl))
        simp only [List.getElem?_toArray, List.getElem?_cons_zero, List.getElem?_cons_succ, Option.getD_some] at e32
        have e33 := hbaseF 33 (not_dst (by kernel_rfl))
        simp only [List.getElem?_toArray, List.getElem?_cons_zero, List.getElem?_cons_succ, Option.getD_some] at e33
        have e34 := hbaseF 34 (not_dst (by kernel_rfl))
        simp only [List.getElem?_toArray, List.getElem?_cons_zero, List.getElem?_cons_succ, Option.getD_some] at e34
        have e35 := hbaseF 35 (not_dst (by kernel_rfl))
        simp only [List.getElem?_toArray, List.getElem?_cons_zero, List.getElem?_cons_succ, Option.getD_some] at e35
        have e36 := hbaseF 36 (not_dst (by kernel_rfl))
        simp only [List.getElem?_toArray, List.getElem?_cons_zero, List.getElem?_cons_succ, Option.getD_some] at e36
        have e37 := hbaseF 37 (not_dst (by kernel_rfl))
        simp only [List.getElem?_toArray, List.getElem?_cons_zero, List.getElem?_cons_succ, Option.getD_some] at e37
        have e38 := hbaseF 38 (not_dst (by kernel_rfl))
        simp only [List.getElem?_toArray, List.getElem?_cons_zero, List.getElem?_cons_succ, Option.getD_some] at e38
        have e39 := hbaseF 39 (not_dst (by kernel_rfl))
        simp only [List.getElem?_toArray, List.getElem?_cons_zero, List.getElem?_cons_succ, Option.getD_some] at e39
        have e40 := hbaseF 40 (not_dst (by kernel_rfl))
        simp only [List.getElem?_toArray, List.getElem?_cons_zero, List.getElem?_cons_succ, Option.getD_some] at e40
        have e41 := hbaseF 41 (not_dst (by kernel_rfl))
        simp only [List.getElem?_toArray, List.getElem?_cons_zero, List.getElem?_cons_succ, Option.getD_some] at e41
        have e42 := hbaseF 42 (not_dst (by kernel_rfl))
        simp only [List.getElem?_toArray, List.getElem?_cons_zero, List.getElem?_cons_succ, Option.getD_some] at e42
        have e43 := hbaseF 43 (not_dst (by kernel_rfl))
        simp only [List.getElem?_toArray, List.getElem?_cons_zero, List.getElem?_cons_succ, Option.getD_some] at e43
        have e44 := hbaseF 44 (not_dst (by kernel_rfl))
        simp only [List.getElem?_toArray, List.getElem?_cons_zero, List.getElem?_cons_succ, Option.getD_some] at e44
        have e45 := hbaseF 45 (not_dst (by kernel_rfl))
        simp only [List.getElem?_toArray, List.getElem?_cons_zero, List.getElem?_cons_succ, Option.getD_some] at e45
        have e46 := hbaseF 46 (not_dst (by kernel_rfl))
        simp only [List.getElem?_toArray, List.getElem?_cons_zero, List.getElem?_cons_succ, Option.getD_some] at e46
        have e4 := hfactF 12 4 (by decide) rfl
        replace e4 : T[4]?.getD undef = .bool true := e4
        clear hbaseF hfactF
        have hT : T = #[T[0]?.getD undef, T[1]?.getD undef, T[2]?.getD undef, T[3]?.getD undef, T[4]?.getD undef, T[5]?.getD undef, T[6]?.getD undef, T[7]?.getD undef, T[8]?.getD undef, T[9]?.getD undef, T[10]?.getD undef, T[11]?.getD undef, T[12]?.getD undef, T[13]?.getD undef, T[14]?.getD undef, T[15]?.getD undef, T[16]?.getD undef, T[17]?.getD undef, T[18]?.getD undef, T[19]?.getD undef, T[20]?.getD undef, T[21]?.getD undef, T[22]?.getD undef, T[23]?.getD undef, T[24]?.getD undef, T[25]?.getD undef, T[26]?.getD undef, T[27]?.getD undef, T[28]?.getD undef, T[29]?.getD undef, T[30]?.getD undef, T[31]?.getD undef, T[32]?.getD undef, T[33]?.getD undef, T[34]?.getD undef, T[35]?.getD undef, T[36]?.getD undef, T[37]?.getD undef, T[38]?.getD undef, T[39]?.getD undef, T[40]?.getD undef, T[41]?.getD undef, T[42]?.getD undef, T[43]?.getD undef, T[44]?.getD undef, T[45]?.getD undef, T[46]?.getD undef, T[47]?.getD undef, T[48]?.getD undef, T[49]?.getD undef, T[50]?.getD undef, T[51]?.getD undef, T[52]?.getD undef, T[53]?.getD undef, T[54]?.getD undef, T[55]?.getD undef, T[56]?.getD undef, T[57]?.getD undef, T[58]?.getD undef] := arr_eq T 59 hsF
        clear hsF
        rw [e0] at hT; clear e0
        rw [e1] at hT; clear e1
        rw [e2] at hT; clear e2
        rw [e3] at hT; clear e3
        rw [e4] at hT; clear e4
        rw [e5] at hT; clear e5
        rw [e6] at hT; clear e6
        rw [e7] at hT; clear e7
        rw [e8] at hT; clear e8
        rw [e9] at hT; clear e9
        rw [e10] at hT; clear e10
        rw [e11] at hT; clear e11
        rw [e12] at hT; clear e12
        rw [e13] at hT; clear e13
        rw [e14] at hT; clear e14
        rw [e15] at hT; clear e15
        rw [e16] at hT; clear e16
        rw [e17] at hT; clear e17
        rw [e18] at hT; clear e18
        rw [e19] at hT; clear e19
        rw [e20] at hT; clear e20
        rw [e21] at hT; clear e21
        rw [e22] at hT; clear e22
        rw [e23] at hT; clear e23
        rw [e24] at hT; clear e24
        rw [e25] at hT; clear e25
        rw [e26] at hT; clear e26
        rw [e27] at hT; clear e27
        rw [e28] at hT; clear e28
        rw [e29] at hT; clear e29
        rw [e30] at hT; clear e30
        rw [e31] at hT; clear e31
        rw [e32] at hT; clear e32
        rw [e33] at hT; clear e33
        rw [e34] at hT; clear e34
        rw [e35] at hT; clear e35
        rw [e36] at hT; clear e36
        rw [e37] at hT; clear e37
        rw [e38] at hT; clear e38
        rw [e39] at hT; clear e39
        rw [e40] at hT; clear e40
        rw [e41] at hT; clear e41
        rw [e42] at hT; clear e42
        rw [e43] at hT; clear e43
        rw [e44] at hT; clear e44
        rw [e45] at hT; clear e45
        rw [e46] at hT; clear e46
        generalize T[47]?.getD undef = u47 at hT
        generalize T[48]?.getD undef = u48 at hT
        generalize T[49]?.getD undef = u49 at hT
        generalize T[50]?.getD undef = u50 at hT
        generalize T[51]?.getD undef = u51 at hT
        generalize T[52]?.getD undef = u52 at hT
        generalize T[53]?.getD undef = u53 at hT
        generalize T[54]?.getD undef = u54 at hT
        generalize T[55]?.getD undef = u55 at hT
        generalize T[56]?.getD undef = u56 at hT
        generalize T[57]?.getD undef = u57 at hT
        generalize T[58]?.getD undef = u58 at hT
        subst hT
        go_wp2_with fail
        go_ret
        exact ⟨rfl, (by (have q_hbF := Below.size hbF; (try simp at q_hbF); have q_hbel := Below.size hbel; (try simp at q_hbel); repeat (first | exact Below.refl _ _ | (refine Below.trans ?_ (Below.mono hbF (by first | omega | (simp; omega) | simp))) | (refine Below.trans ?_ (Below.mono hbel (by first | omega | (simp; omega) | simp))) | (refine Below.setCell ?_ (by first | omega | (simp; omega) | simp) _) | (refine Below.alloc ?_ (by first | omega | (simp; omega) | simp) _) | apply Below.drew | apply below_drewN)))⟩

theorem law_xor (A B : Option Addr) (n m c d : Nat) (a b : List UInt8) (w : World) (ha : Rd w A n a) (hb : Rd w B m b) (hnc : n ≤ c) (hc : c ≤ maxLen) (hmd : m ≤ d) (hd : d ≤ maxLen) :
    Calls Try.prog 7 #[.slice A n c, .slice B m d] w fun e w' => e = .returned (.bool true) ∧ Below w.heap.size w w' := by
  unfold maxLen at hc hd
  by_cases h : min m 80 < min n 80
  · exact law_xor_t A B _ _ c d _ _ w ha.short hb.short (by omega) (by omega) (by omega) (by omega) (by omega) (by omega) h n m rfl rfl hnc hmd
  · exact law_xor_s A B _ _ c d _ _ w ha.short hb.short (by omega) (by omega) (by omega) (by omega) (by omega) (by omega) h n m rfl rfl hnc hmd
end Go.Proofs.Ytdnjlhcmihmgdaa
