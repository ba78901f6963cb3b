/- The walks of the statements on words and bytes: WordPut, WordBack, WordPad, WordSame, WordXor. -/
import Derived.Test.YtdnjlhcmihmgdaaWord5
import Derived.Test.YtdnjlhcmihmgdaaFlow
namespace Go.Proofs.Ytdnjlhcmihmgdaa
open Go.RowKit

theorem putL_rev (n : Nat) (v : Int) : (putL n v).reverse = highL n v := by
  apply List.ext_getElem?
  intro i
  rcases Nat.lt_or_ge i n with h | h
  · rw [List.getElem?_reverse (by rw [putL_len]; exact h), putL_len, putL_get _ _ _ (by omega), highL_get _ _ _ h]
  · rw [List.getElem?_eq_none (by rw [List.length_reverse, putL_len]; exact h), List.getElem?_eq_none (by rw [highL_len]; exact h)]

set_option maxHeartbeats 1000000 in
theorem law_put_of (n v : Int) (w : World) (l : List UInt8) (m : Nat) (hl : l.length = m) (hm : m ≤ 8)
    (cp : ∀ W, Calls Try.prog 22 #[.int .i64 n, .int .u64 v] W (Gives 5 W l)) (ch : ∀ W, Calls Try.prog 23 #[.int .i64 n, .int .u64 v] W (Gives 5 W l.reverse))
    (cr : ∀ W, Calls Try.prog 21 #[.int .i64 n, .int .u64 v] W (Gives 5 W l)) :
    Calls Try.prog 6 #[.int .i64 n, .int .u64 v] w fun e w' => e = .returned (.bool true) ∧ Below w.heap.size w w' := by
  have hp := Lib.hid cp
  have hh := Lib.hid ch
  have hr := Lib.hid cr
  have hL := Lib.hid hl
  clear cp ch cr hl
  go_enter Try.func6, Try.ntmps6
  go_wp2_with fail
  refine (hr.out _).mono ?_
  rintro e w1 ⟨r, rfl, hF1, hb1⟩
  obtain ⟨A1, c1, rfl, hR1, _, hn1, hm1⟩ := hF1.rdn m hL.out
  clear hF1
  go_wp2_with fail
  refine wp_flows [(fun y_ _ => y_ = .int .i64 n), (fun y_ _ => y_ = .int .u64 v), (IsB (m) (l)), (fun y_ _ => y_ = .string (str (l))), (fun y_ _ => y_ = .slice A1 m c1), (fun y_ _ => y_ = .string (str l)), (fun y_ _ => y_ = .bool true), (fun y_ _ => y_ = .bool true), (fun y_ _ => y_ = .int .i64 n), (fun y_ _ => y_ = .int .u64 v), (IsB (m) (l.reverse)), (fun y_ _ => y_ = .string (str (l.reverse))), (fun y_ _ => y_ = .slice A1 m c1), (IsB (m) (l.reverse)), (fun y_ _ => y_ = .string (str (l.reverse))), (fun y_ _ => y_ = .bool true), (fun y_ _ => y_ = .bool true), (fun y_ _ => y_ = .bool true), (fun y_ _ => y_ = .bool true), (fun y_ _ => y_ = .bool true), (fun y_ _ => y_ = .bool true)] (by kernel_rfl) ⟨Stab.eq _, Stab.eq _, Stab.b _ _, Stab.eq _, Stab.eq _, Stab.eq _, Stab.eq _, Stab.eq _, Stab.eq _, Stab.eq _, Stab.b _ _, Stab.eq _, Stab.eq _, Stab.b _ _, Stab.eq _, Stab.eq _, Stab.eq _, Stab.eq _, Stab.eq _, Stab.eq _, Stab.eq _, trivial⟩ (by kernel_rfl) (by rfl) ?_ ?_
  · intro kq hkq
    match kq, hkq with
    | 0, _ =>
      refine StepOk.plain _ 9 rfl rfl rfl [(0, none)] (by kernel_rfl) (fun af wf hbw hf Kf hKf => ?_)
      obtain ⟨g0, _⟩ := hf
      have h0 : af.tmps[0]?.getD undef = .int .i64 n := g0
      clear g0
      go_simp
      exact hKf _ _ (Below.refl _ _) rfl
    | 1, _ =>
      refine StepOk.plain _ 10 rfl rfl rfl [(1, none)] (by kernel_rfl) (fun af wf hbw hf Kf hKf => ?_)
      obtain ⟨g1, _⟩ := hf
      have h1 : af.tmps[1]?.getD undef = .int .u64 v := g1
      clear g1
      go_simp
      exact hKf _ _ (Below.refl _ _) rfl
    | 2, _ =>
      refine StepOk.plain _ 11 rfl rfl rfl [(9, some 0), (10, some 1)] (by kernel_rfl) (fun af wf hbw hf Kf hKf => ?_)
      obtain ⟨g9, g10, _⟩ := hf
      have h9 : af.tmps[9]?.getD undef = .int .i64 n := g9
      have h10 : af.tmps[10]?.getD undef = .int .u64 v := g10
      clear g9 g10
      go_simp
      refine (hp.out _).mono ?_
      rintro e wN ⟨r, rfl, hF, hb1⟩
      exact hKf _ _ (hb1) (IsB.of hF hL.out)
    | 3, _ =>
      refine StepOk.plain _ 12 rfl rfl rfl [(11, some 2)] (by kernel_rfl) (fun af wf hbw hf Kf hKf => ?_)
      obtain ⟨g11, _⟩ := hf
      obtain ⟨A11, c11, h11, hR11, hn11, hm11⟩ : IsB (m) (l) (af.tmps[11]?.getD undef) wf := g11
      have hcv := conv c11 _ hR11
      go_simp
      exact hKf _ _ (Below.refl _ _) rfl
    | 4, _ =>
      refine StepOk.plain _ 13 rfl rfl rfl [(5, none)] (by kernel_rfl) (fun af wf hbw hf Kf hKf => ?_)
      obtain ⟨g5, _⟩ := hf
      have h5 : af.tmps[5]?.getD undef = .slice A1 m c1 := g5
      clear g5
      go_simp
      exact hKf _ _ (Below.refl _ _) rfl
    | 5, _ =>
      refine StepOk.plain _ 14 rfl rfl rfl [(13, some 4)] (by kernel_rfl) (fun af wf hbw hf Kf hKf => ?_)
      obtain ⟨g13, _⟩ := hf
      have h13 : af.tmps[13]?.getD undef = .slice A1 m c1 := g13
      clear g13
      have hcv := conv c1 _ (Rd.below (Rd.drew (hR1)) hbw)
      go_simp
      exact hKf _ _ (Below.refl _ _) rfl
    | 6, _ =>
      refine StepOk.plain _ 15 rfl rfl rfl [(12, some 3), (14, some 5)] (by kernel_rfl) (fun af wf hbw hf Kf hKf => ?_)
      obtain ⟨g12, g14, _⟩ := hf
      have h12 : af.tmps[12]?.getD undef = .string (str (l)) := g12
      have h14 : af.tmps[14]?.getD undef = .string (str l) := g14
      clear g12 g14
      go_simp
      exact hKf _ _ (Below.refl _ _) rfl
    | 7, _ =>
      refine StepOk.plain _ 16 rfl rfl rfl [(15, some 6)] (by kernel_rfl) (fun af wf hbw hf Kf hKf => ?_)
      obtain ⟨g15, _⟩ := hf
      have h15 : af.tmps[15]?.getD undef = .bool true := g15
      clear g15
      go_simp
      exact hKf _ _ (Below.refl _ _) rfl
    | 8, _ =>
      refine StepOk.yes _ 17 rfl rfl rfl rfl (fun _ _ h => h) [(0, none)] (by kernel_rfl) (fun af wf hbw hf Kf hKf => ?_)
      obtain ⟨g0, _⟩ := hf
      have h0 : af.tmps[0]?.getD undef = .int .i64 n := g0
      clear g0
      go_simp
      exact hKf _ _ (Below.refl _ _) rfl
    | 9, _ =>
      refine StepOk.yes _ 18 rfl rfl rfl rfl (fun _ _ h => h) [(1, none)] (by kernel_rfl) (fun af wf hbw hf Kf hKf => ?_)
      obtain ⟨g1, _⟩ := hf
      have h1 : af.tmps[1]?.getD undef = .int .u64 v := g1
      clear g1
      go_simp
      exact hKf _ _ (Below.refl _ _) rfl
    | 10, _ =>
      refine StepOk.yes _ 19 rfl rfl rfl rfl (fun _ _ h => h) [(17, some 8), (18, some 9)] (by kernel_rfl) (fun af wf hbw hf Kf hKf => ?_)
      obtain ⟨g17, g18, _⟩ := hf
      have h17 : af.tmps[17]?.getD undef = .int .i64 n := g17
      have h18 : af.tmps[18]?.getD undef = .int .u64 v := g18
      clear g17 g18
      go_simp
      refine (hh.out _).mono ?_
      rintro e wN ⟨r, rfl, hF, hb1⟩
      exact hKf _ _ (hb1) (IsB.of hF (by rw [List.length_reverse]; exact hL.out))
    | 11, _ =>
      refine StepOk.yes _ 20 rfl rfl rfl rfl (fun _ _ h => h) [(19, some 10)] (by kernel_rfl) (fun af wf hbw hf Kf hKf => ?_)
      obtain ⟨g19, _⟩ := hf
      obtain ⟨A19, c19, h19, hR19, hn19, hm19⟩ : IsB (m) (l.reverse) (af.tmps[19]?.getD undef) wf := g19
      have hcv := conv c19 _ hR19
      go_simp
      exact hKf _ _ (Below.refl _ _) rfl
    | 12, _ =>
      refine StepOk.yes _ 21 rfl rfl rfl rfl (fun _ _ h => h) [(5, none)] (by kernel_rfl) (fun af wf hbw hf Kf hKf => ?_)
      obtain ⟨g5, _⟩ := hf
      have h5 : af.tmps[5]?.getD undef = .slice A1 m c1 := g5
      clear g5
      go_simp
      exact hKf _ _ (Below.refl _ _) rfl
    | 13, _ =>
      refine StepOk.yes _ 22 rfl rfl rfl rfl (fun _ _ h => h) [(21, some 12)] (by kernel_rfl) (fun af wf hbw hf Kf hKf => ?_)
      obtain ⟨g21, _⟩ := hf
      have h21 : af.tmps[21]?.getD undef = .slice A1 m c1 := g21
      clear g21
      go_simp
      refine (turned_any _ _ _ l _ (Rd.below (Rd.drew hR1) hbw) (by omega)).mono ?_
      rintro e wN ⟨r, rfl, hF, hb1⟩
      exact hKf _ _ (hb1) (IsB.of hF (by rw [List.length_reverse]; exact hL.out))
    | 14, _ =>
      refine StepOk.yes _ 23 rfl rfl rfl rfl (fun _ _ h => h) [(22, some 13)] (by kernel_rfl) (fun af wf hbw hf Kf hKf => ?_)
      obtain ⟨g22, _⟩ := hf
      obtain ⟨A22, c22, h22, hR22, hn22, hm22⟩ : IsB (m) (l.reverse) (af.tmps[22]?.getD undef) wf := g22
      have hcv := conv c22 _ hR22
      go_simp
      exact hKf _ _ (Below.refl _ _) rfl
    | 15, _ =>
      refine StepOk.yes _ 24 rfl rfl rfl rfl (fun _ _ h => h) [(20, some 11), (23, some 14)] (by kernel_rfl) (fun af wf hbw hf Kf hKf => ?_)
      obtain ⟨g20, g23, _⟩ := hf
      have h20 : af.tmps[20]?.getD undef = .string (str (l.reverse)) := g20
      have h23 : af.tmps[23]?.getD undef = .string (str (l.reverse)) := g23
      clear g20 g23
      go_simp
      exact hKf _ _ (Below.refl _ _) rfl
    | 16, _ =>
      refine StepOk.plain _ 25 rfl rfl rfl [(16, some 7), (24, some 15)] (by kernel_rfl) (fun af wf hbw hf Kf hKf => ?_)
      obtain ⟨g16, g24, _⟩ := hf
      have h16 : af.tmps[16]?.getD undef = .bool true := g16
      have h24 : af.tmps[24]?.getD undef = .bool true := g24
      clear g16 g24
      go_simp
      exact hKf _ _ (Below.refl _ _) rfl
    | 17, _ =>
      refine StepOk.plain _ 26 rfl rfl rfl [(25, some 16)] (by kernel_rfl) (fun af wf hbw hf Kf hKf => ?_)
      obtain ⟨g25, _⟩ := hf
      have h25 : af.tmps[25]?.getD undef = .bool true := g25
      clear g25
      go_simp
      exact hKf _ _ (Below.refl _ _) rfl
    | 18, _ =>
      refine StepOk.yes _ 27 rfl rfl rfl rfl (fun _ _ h => h) [] (by kernel_rfl) (fun af wf hbw hf Kf hKf => ?_)
      go_simp
      refine (wawake_any _).mono ?_
      rintro e wN ⟨rfl, hb1⟩
      exact hKf _ _ (hb1) (rfl)
    | 19, _ =>
      refine StepOk.plain _ 28 rfl rfl rfl [(26, some 17), (27, some 18)] (by kernel_rfl) (fun af wf hbw hf Kf hKf => ?_)
      obtain ⟨g26, g27, _⟩ := hf
      have h26 : af.tmps[26]?.getD undef = .bool true := g26
      have h27 : af.tmps[27]?.getD undef = .bool true := g27
      clear g26 g27
      go_simp
      exact hKf _ _ (Below.refl _ _) rfl
    | 20, _ =>
      refine StepOk.plain _ 4 rfl rfl rfl [(28, some 19)] (by kernel_rfl) (fun af wf hbw hf Kf hKf => ?_)
      obtain ⟨g28, _⟩ := hf
      have h28 : af.tmps[28]?.getD undef = .bool true := g28
      clear g28
      go_simp
      exact hKf _ _ (Below.refl _ _) rfl
    | i + 21, h => exact absurd h (by show ¬ (i + 21 < 21); omega)
  · intro af wF hbF hdF hsF hbaseF hfactF
    obtain ⟨T, dsF⟩ := af
    obtain rfl : dsF = _ := hdF
    have e0 := hbaseF 0 (not_dst (by kernel_rfl))
    simp only [List.getElem?_toArray, List.getElem?_cons_zero, Option.getD_some] at e0
    have e1 := hbaseF 1 (not_dst (by kernel_rfl))
    simp only [List.getElem?_toArray, List.getElem?_cons_zero, List.getElem?_cons_succ, Option.getD_some] at e1
    have e2 := hbaseF 2 (not_dst (by kernel_rfl))
    simp only [List.getElem?_toArray, List.getElem?_cons_zero, List.getElem?_cons_succ, Option.getD_some] at e2
    have e3 := hbaseF 3 (not_dst (by kernel_rfl))
    simp only [List.getElem?_toArray, List.getElem?_cons_zero, List.getElem?_cons_succ, Option.getD_some] at e3
    have e5 := hbaseF 5 (not_dst (by kernel_rfl))
    simp only [List.getElem?_toArray, List.getElem?_cons_zero, List.getElem?_cons_succ, Option.getD_some] at e5
    have e6 := hbaseF 6 (not_dst (by kernel_rfl))
    simp only [List.getElem?_toArray, List.getElem?_cons_zero, List.getElem?_cons_succ, Option.getD_some] at e6
    have e7 := hbaseF 7 (not_dst (by kernel_rfl))
    simp only [List.getElem?_toArray, List.getElem?_cons_zero, List.getElem?_cons_succ, Option.getD_some] at e7
    have e8 := hbaseF 8 (not_dst (by kernel_rfl))
    simp only [List.getElem?_toArray, List.getElem?_cons_zero, List.getElem?_cons_succ, Option.getD_some] at e8
    have e4 := hfactF 20 4 (by decide) rfl
    replace e4 : T[4]?.getD undef = .bool true := e4
    clear hbaseF hfactF
    have hT : T = #[T[0]?.getD undef, T[1]?.getD undef, T[2]?.getD undef, T[3]?.getD undef, T[4]?.getD undef, T[5]?.getD undef, T[6]?.getD undef, T[7]?.getD undef, T[8]?.getD undef, T[9]?.getD undef, T[10]?.getD undef, T[11]?.getD undef, T[12]?.getD undef, T[13]?.getD undef, T[14]?.getD undef, T[15]?.getD undef, T[16]?.getD undef, T[17]?.getD undef, T[18]?.getD undef, T[19]?.getD undef, T[20]?.getD undef, T[21]?.getD undef, T[22]?.getD undef, T[23]?.getD undef, T[24]?.getD undef, T[25]?.getD undef, T[26]?.getD undef, T[27]?.getD undef, T[28]?.getD undef] := arr_eq T 29 hsF
    clear hsF
    rw [e0] at hT; clear e0
    rw [e1] at hT; clear e1
    rw [e2] at hT; clear e2
    rw [e3] at hT; clear e3
    rw [e4] at hT; clear e4
    rw [e5] at hT; clear e5
    rw [e6] at hT; clear e6
    rw [e7] at hT; clear e7
    rw [e8] at hT; clear e8
    generalize T[9]?.getD undef = u9 at hT
    generalize T[10]?.getD undef = u10 at hT
    generalize T[11]?.getD undef = u11 at hT
    generalize T[12]?.getD undef = u12 at hT
    generalize T[13]?.getD undef = u13 at hT
    generalize T[14]?.getD undef = u14 at hT
    generalize T[15]?.getD undef = u15 at hT
    generalize T[16]?.getD undef = u16 at hT
    generalize T[17]?.getD undef = u17 at hT
    generalize T[18]?.getD undef = u18 at hT
    generalize T[19]?.getD undef = u19 at hT
    generalize T[20]?.getD undef = u20 at hT
    generalize T[21]?.getD undef = u21 at hT
    generalize T[22]?.getD undef = u22 at hT
    generalize T[23]?.getD undef = u23 at hT
    generalize T[24]?.getD undef = u24 at hT
    generalize T[25]?.getD undef = u25 at hT
    generalize T[26]?.getD undef = u26 at hT
    generalize T[27]?.getD undef = u27 at hT
    generalize T[28]?.getD undef = u28 at hT
    subst hT
    go_wp2_with fail
    go_ret
    exact ⟨rfl, (by (have q_hbF := Below.size hbF; (try simp at q_hbF); have q_hb1 := Below.size hb1; (try simp at q_hb1); repeat (first | exact Below.refl _ _ | (refine Below.trans ?_ (Below.mono hbF (by first | omega | (simp; omega) | simp))) | (refine Below.trans ?_ (Below.mono hb1 (by first | omega | (simp; omega) | simp))) | (refine Below.setCell ?_ (by first | omega | (simp; omega) | simp) _) | (refine Below.alloc ?_ (by first | omega | (simp; omega) | simp) _) | apply Below.drew | apply below_drewN)))⟩

theorem law_put (n v : Int) (w : World) (v0 : 0 ≤ v) (v1 : v ≤ 18446744073709551615) :
    Calls Try.prog 6 #[.int .i64 n, .int .u64 v] w fun e w' => e = .returned (.bool true) ∧ Below w.heap.size w w' := by
  by_cases h : 1 ≤ n ∧ n ≤ 8
  · obtain ⟨k, rfl⟩ := Int.eq_ofNat_of_zero_le (show 0 ≤ n by omega)
    exact law_put_of k v w (putL k v) k (putL_len _ _) (by omega) (fun W => put_any k v W (by omega) (by omega) v0 v1) (fun W => by rw [putL_rev]; exact high_any k v W (by omega) (by omega) v0 v1) (fun W => rput_any k v W (by omega) v0 v1)
  · exact law_put_of n v w [] 0 rfl (by omega) (fun W => put_none n v W (by omega)) (fun W => high_none n v W (by omega)) (fun W => rput_none n v W (by omega))

theorem getL_putL : ∀ (n : Nat) (v : Int), 0 ≤ v → (getL (putL n v) : Int) = v % 256 ^ n := by
  intro n
  induction n with
  | zero => intro v _; simp [putL, getL]
  | succ n ih =>
    intro v h0
    have e : putL (n + 1) v = byteI v 0 :: putL n (v / 256) := by
      unfold putL
      rw [List.range_succ_eq_map, List.map_cons, List.map_map]
      congr 1
      apply List.map_congr_left
      intro k _
      exact (byteI_next v k).symm
    rw [e, getL]
    have h1 := ih (v / 256) (Int.ediv_nonneg h0 (by omega))
    have h2 := byteI_val v 0
    rw [Int.natCast_add, Int.natCast_mul, h1, h2]
    simp only [Int.pow_zero, Int.ediv_one]
    have h3 := Int.emod_def (v / 256) (256 ^ n)
    rw [Int.emod_def v (256 ^ (n + 1)), h3, Int.pow_succ, Int.mul_comm (256 ^ n) 256, ← Int.ediv_ediv_of_nonneg (by omega)]
    generalize v / 256 / 256 ^ n = q
    rw [Int.mul_assoc]
    generalize (256 : Int) ^ n * q = r
    omega

set_option maxHeartbeats 1000000 in
theorem law_back_no (n v : Int) (w : World) (hn : n < 1 ∨ 8 < n) :
    Calls Try.prog 10 #[.int .i64 n, .int .u64 v] w fun e w' => e = .returned (.bool true) ∧ Below w.heap.size w w' := by
  rcases hn with hn | hn
  all_goals
    go_enter Try.func10, Try.ntmps10
    go_wp2_with fail
    refine (put_none n v _ (by omega)).mono ?_
    rintro e w1 ⟨r, rfl, hF1, hb1⟩
    obtain ⟨A1, c1, rfl, hR1, _, hn1, hm1⟩ := hF1.rdn 0 rfl
    clear hF1
    go_wp2_with fail
    refine (wawake_any _).mono ?_
    rintro e w5 ⟨rfl, hb5⟩
    go_wp2_with fail
    go_ret
    exact ⟨rfl, (by (have q_hb5 := Below.size hb5; (try simp at q_hb5); have q_hb1 := Below.size hb1; (try simp at q_hb1); repeat (first | exact Below.refl _ _ | (refine Below.trans ?_ (Below.mono hb5 (by first | omega | (simp; omega) | simp))) | (refine Below.trans ?_ (Below.mono hb1 (by first | omega | (simp; omega) | simp))) | (refine Below.setCell ?_ (by first | omega | (simp; omega) | simp) _) | (refine Below.alloc ?_ (by first | omega | (simp; omega) | simp) _) | apply Below.drew | apply below_drewN)))⟩

theorem two_shift (n : Nat) : (2 : Int) ^ (8 * n) = 256 ^ n := by rw [Int.pow_mul]; rfl
theorem pow_small (n : Nat) (h : n ≤ 7) : (256 : Int) ^ n ≤ 72057594037927936 := by
  have : n = 0 ∨ n = 1 ∨ n = 2 ∨ n = 3 ∨ n = 4 ∨ n = 5 ∨ n = 6 ∨ n = 7 := by omega
  rcases this with h | h | h | h | h | h | h | h <;> subst h <;> decide

set_option maxHeartbeats 1000000 in
theorem law_back_yes (n : Nat) (v : Int) (w : World) (n0 : 1 ≤ n) (n1 : n ≤ 8) (v0 : 0 ≤ v) (v1 : v ≤ 18446744073709551615) :
    Calls Try.prog 10 #[.int .i64 n, .int .u64 v] w fun e w' => e = .returned (.bool true) ∧ Below w.heap.size w w' := by
  have hg := getL_putL n v v0
  have ht : (putL n v).take 8 = putL n v := List.take_of_length_le (by rw [putL_len]; omega)
  by_cases h8 : n = 8
  · subst h8
    have hv : v % 256 ^ 8 = v := by omega
    rw [hv] at hg
    have HG := Lib.hid hg
    clear hg hv
    go_enter Try.func10, Try.ntmps10
    go_wp2_with fail
    refine (put_any 8 v _ n0 n1 v0 v1).mono ?_
    rintro e w1 ⟨r, rfl, hF1, hb1⟩
    obtain ⟨A1, c1, rfl, hR1, _, hn1, hm1⟩ := hF1.rdn 8 (putL_len _ _)
    clear hF1
    go_wp2_with fail
    refine (get_any _ _ _ _ _ hR1 (by unfold maxLen; omega)).mono ?_
    rintro e w2 ⟨rfl, rfl⟩
    rw [ht, HG.out]
    go_wp2_with fail
    refine (wawake_any _).mono ?_
    rintro e w5 ⟨rfl, hb5⟩
    go_wp2_with fail
    go_ret
    exact ⟨rfl, (by (have q_hb5 := Below.size hb5; (try simp at q_hb5); have q_hb1 := Below.size hb1; (try simp at q_hb1); repeat (first | exact Below.refl _ _ | (refine Below.trans ?_ (Below.mono hb5 (by first | omega | (simp; omega) | simp))) | (refine Below.trans ?_ (Below.mono hb1 (by first | omega | (simp; omega) | simp))) | (refine Below.setCell ?_ (by first | omega | (simp; omega) | simp) _) | (refine Below.alloc ?_ (by first | omega | (simp; omega) | simp) _) | apply Below.drew | apply below_drewN)))⟩
  · have hlt : n < 8 := by omega
    have hsm := pow_small n (by omega)
    have hpos : (0 : Int) < 256 ^ n := Int.pow_pos (by omega)
    obtain ⟨q, hq⟩ : ∃ q : Int, q = 256 ^ n := ⟨_, rfl⟩
    rw [← hq] at hg hsm hpos
    have hwr : IntKind.u64.wrap (2 ^ (8 * n)) = q := by rw [IntKind.wrap_u64, two_shift, ← hq]; omega
    have HG := Lib.hid hg
    have HT := Lib.hid ht
    clear hg ht hq
    go_enter Try.func10, Try.ntmps10
    go_wp2_with fail
    refine (put_any n v _ n0 n1 v0 v1).mono ?_
    rintro e w1 ⟨r, rfl, hF1, hb1⟩
    obtain ⟨A1, c1, rfl, hR1, _, hn1, hm1⟩ := hF1.rdn n (putL_len _ _)
    clear hF1
    go_wp2_with fail
    refine (get_any _ _ _ _ _ hR1 (by unfold maxLen; omega)).mono ?_
    rintro e w2 ⟨rfl, rfl⟩
    rw [HT.out, HG.out]
    go_wp2_with fail
    refine (wawake_any _).mono ?_
    rintro e w5 ⟨rfl, hb5⟩
    go_wp2_with fail
    go_ret
    exact ⟨rfl, (by (have q_hb5 := Below.size hb5; (try simp at q_hb5); have q_hb1 := Below.size hb1; (try simp at q_hb1); repeat (first | exact Below.refl _ _ | (refine Below.trans ?_ (Below.mono hb5 (by first | omega | (simp; omega) | simp))) | (refine Below.trans ?_ (Below.mono hb1 (by first | omega | (simp; omega) | simp))) | (refine Below.setCell ?_ (by first | omega | (simp; omega) | simp) _) | (refine Below.alloc ?_ (by first | omega | (simp; omega) | simp) _) | apply Below.drew | apply below_drewN)))⟩

theorem law_back (n v : Int) (w : World) (v0 : 0 ≤ v) (v1 : v ≤ 18446744073709551615) :
    Calls Try.prog 10 #[.int .i64 n, .int .u64 v] w fun e w' => e = .returned (.bool true) ∧ Below w.heap.size w w' := by
  by_cases h : 1 ≤ n ∧ n ≤ 8
  · obtain ⟨k, rfl⟩ := Int.eq_ofNat_of_zero_le (show 0 ≤ n by omega)
    exact law_back_yes k v w (by omega) (by omega) v0 v1
  · exact law_back_no n v w (by omega)
end Go.Proofs.Ytdnjlhcmihmgdaa
