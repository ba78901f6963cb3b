/- The plain law of LogfApart, and its walk. -/
import Derived.Test.YthepgnankelmeaaLog9
namespace Go.Proofs.Ythepgnankelmeaa
open Go.RowKit

theorem put8_inj {v u : Int} (h0 : 0 ≤ v) (h1 : v ≤ 18446744073709551615) (g0 : 0 ≤ u) (g1 : u ≤ 18446744073709551615) (h : putL 8 v = putL 8 u) : v = u := by
  have e1 := getL_put8 8 v h0
  have e2 := getL_put8 8 u g0
  rw [h, e2, show (256 : Int) ^ 8 = 18446744073709551616 from by decide] at e1
  omega
theorem put2_inj {v u : Int} (h0 : 0 ≤ v) (h1 : v ≤ 65535) (g0 : 0 ≤ u) (g1 : u ≤ 65535) (h : putL 2 v = putL 2 u) : v = u := by
  have e1 := getL_put8 2 v h0
  have e2 := getL_put8 2 u g0
  rw [h, e2, show (256 : Int) ^ 2 = 65536 from by decide] at e1
  omega
theorem nums_inj : ∀ (a b : List Ent), a.length = b.length → (∀ e ∈ a, 0 ≤ e.1 ∧ e.1 ≤ 65535) → (∀ e ∈ b, 0 ≤ e.1 ∧ e.1 ≤ 65535) → numsE a = numsE b → a.map (·.1) = b.map (·.1)
  | [], [], _, _, _, _ => rfl
  | [], _ :: _, h, _, _, _ => by simp at h
  | _ :: _, [], h, _, _, _ => by simp at h
  | x :: a, y :: b, hl, ha, hb, h => by
    unfold numsE at h
    rw [List.flatMap_cons, List.flatMap_cons] at h
    obtain ⟨h1, h2⟩ := List.append_inj h (by rw [putL_len, putL_len])
    have hx := ha x (by simp)
    have hy := hb y (by simp)
    rw [List.map_cons, List.map_cons, put2_inj hx.1 hx.2 hy.1 hy.2 h1, nums_inj a b (by simpa using hl) (fun e he => ha e (by simp [he])) (fun e he => hb e (by simp [he])) h2]
theorem ents_maps : ∀ (a b : List Ent), a.map (·.1) = b.map (·.1) → a.map (·.2) = b.map (·.2) → a = b
  | [], [], _, _ => rfl
  | [], _ :: _, h, _ => by simp at h
  | _ :: _, [], h, _ => by simp at h
  | (x1, x2) :: a, (y1, y2) :: b, h1, h2 => by
    simp only [List.map_cons, List.cons.injEq] at h1 h2
    rw [h1.1, h2.1, ents_maps a b h1.2 h2.2]
theorem pad_inj {u v : List UInt8} (hl : u.length = v.length) (h1 : u.length ≤ 256) (h : padL 256 u = padL 256 v) : u = v := by
  unfold padL at h
  rw [List.take_of_length_le h1, List.take_of_length_le (by omega)] at h
  exact (List.append_inj h hl).1
theorem enc_inj {x y : Int} {a b : List Ent} (hx0 : 0 ≤ x) (hx1 : x ≤ 18446744073709551615) (hy0 : 0 ≤ y) (hy1 : y ≤ 18446744073709551615) (ha : a.length ≤ 100) (hka : ∀ e ∈ a, 0 ≤ e.1 ∧ e.1 ≤ 65535) (hkb : ∀ e ∈ b, 0 ≤ e.1 ∧ e.1 ≤ 65535) :
    decide (encL x a = encL y b) = sameLog x y a b := by
  unfold sameLog
  rw [Bool.eq_iff_iff]
  simp only [decide_eq_true_eq, Bool.and_eq_true]
  constructor
  · intro h
    unfold encL at h
    injection h with h1 h2
    have hl : a.length = b.length := by have := congrArg List.length h2; simpa using this
    have hlen : ∀ (z : Int) (c : List Ent), ((headParts z c.length).flatten ++ numsE c).length = 18 + 2 * c.length := fun z c => by rw [List.length_append, headParts_len, numsE_len]
    have h3 := pad_inj (by rw [hlen, hlen, hl]) (by rw [hlen]; omega) h1
    obtain ⟨h4, h5⟩ := List.append_inj h3 (by rw [headParts_len, headParts_len])
    have h6 : markR ++ (putL 8 x ++ (putL 2 (a.length : Int) ++ [])) = markR ++ (putL 8 y ++ (putL 2 (b.length : Int) ++ [])) := h4
    have h7 := List.append_cancel_left h6
    have h8 := (List.append_inj h7 (by rw [putL_len, putL_len])).1
    exact ⟨put8_inj hx0 hx1 hy0 hy1 h8, ents_maps a b (nums_inj a b hl hka hkb h5) h2⟩
  · rintro ⟨rfl, rfl⟩
    rfl

/-- Encode's two values. -/
def IsEn (n : Nat) (ls : List (List UInt8)) (X : Int) (y : Value) (W : World) : Prop := ∃ A c, y = .tuple #[.slice A n c, .int .i64 X] ∧ RdSS W A n ls ∧ n ≤ c ∧ c ≤ maxLen
theorem IsEn.stab (n : Nat) (ls : List (List UInt8)) (X : Int) : Stab (IsEn n ls X) := fun _ _ _ hb ⟨A, c, e, h, h1, h2⟩ => ⟨A, c, e, h.below hb, h1, h2⟩
theorem IsEn.of {T1 T2 : TypeId} {B n : Nat} {ls : List (List UInt8)} {X : Int} {v : Value} {W : World} (h : OwnSS T1 T2 B W v ls) (hn : ls.length = n) : IsEn n ls X (.tuple #[v, .int .i64 X]) W := by
  obtain ⟨A, c, rfl, hR, h1, h2⟩ := h.rd n hn
  exact ⟨A, c, rfl, hR, h1, h2⟩
theorem encR_len (p t x : Int) (a : List Ent) : (encR p t x a).length ≤ 1 + a.length := by
  unfold encR
  split
  · rw [encL_len]; omega
  · simp
theorem blks_step {a b : List (List UInt8)} {k : Nat} {x : List UInt8} (h : a.take k = b.take k) (ha : a[k]? = some x) (hb : b[k]? = some x) : a.take (k + 1) = b.take (k + 1) := by rw [take_step ha, take_step hb, h]
theorem blks_ne {a b : List (List UInt8)} {k : Nat} {x y : List UInt8} (ha : a[k]? = some x) (hb : b[k]? = some y) (h : x ≠ y) : a ≠ b := by
  intro e
  rw [e, hb] at ha
  injection ha with ha
  exact h ha.symm

set_option maxRecDepth 100000 in
set_option maxHeartbeats 16000000 in
theorem law_logfapart (p t x y : Int) (Aa Ab : Option Addr) (na ca nb cb : Nat) (a b : List Ent) (w : World) (ha : RdR entK w.heap.size 5 w Aa na a) (hb : RdR entK w.heap.size 5 w Ab nb b) (hx0 : 0 ≤ x) (hx1 : x ≤ 18446744073709551615) (hy0 : 0 ≤ y) (hy1 : y ≤ 18446744073709551615) :
    Calls Try.prog 8 #[.agg #[.int .i64 p, .int .i64 t], .agg #[.int .u64 x, .slice Aa na ca], .agg #[.int .u64 y, .slice Ab nb cb]] w fun e w' => e = .returned (.bool true) ∧ Below w.heap.size w w' := by
  obtain ⟨wg, hwg⟩ : ∃ wg, wg = w.alloc (.cells #[.int .i64 p, .int .i64 t] 23) := ⟨_, rfl⟩
  have hgs : wg.heap.size = w.heap.size + 1 := by rw [hwg]; simp
  obtain ⟨w1, hw1⟩ : ∃ w1, w1 = (wg.alloc (.cells #[.int .u64 x, .slice Aa na ca] 49)).alloc (.cells #[.int .u64 y, .slice Ab nb cb] 49) := ⟨_, rfl⟩
  have G0 : Blk w1 w.heap.size 23 #[.int .i64 p, .int .i64 t] := by rw [hw1, hwg]; exact ((Blk.new _ _ _).alloc _).alloc _
  have P0 : Blk w1 (w.heap.size + 1) 49 #[.int .u64 x, .slice Aa na ca] := by rw [hw1, ← hgs]; exact (Blk.new _ _ _).alloc _
  have Q0 : Blk w1 (w.heap.size + 1 + 1) 49 #[.int .u64 y, .slice Ab nb cb] := by
    rw [hw1, ← hgs]
    simpa using Blk.new (wg.alloc (.cells #[.int .u64 x, .slice Aa na ca] 49)) 49 #[.int .u64 y, .slice Ab nb cb]
  have b1 : Below w.heap.size w w1 := by rw [hw1, hwg]; exact (by (repeat (first | exact Below.refl _ _ | (refine Below.setCell ?_ (by first | omega | (simp; omega) | simp) _) | (refine Below.alloc ?_ (by first | omega | (simp; omega) | simp) _) | apply Below.drew | apply below_drewN)))
  have haN : RdRN entK [w.heap.size + 1, w.heap.size + 1 + 1] w.heap.size 5 w1 Aa na a := RdRN.old ha (by simp; omega) b1
  have hbN : RdRN entK [w.heap.size + 1, w.heap.size + 1 + 1] w.heap.size 5 w1 Ab nb b := RdRN.old hb (by simp; omega) b1
  have hgz : w1.heap.size = w.heap.size + 1 + 1 + 1 := by rw [hw1]; simp [hgs]
  obtain ⟨a', ha'⟩ : ∃ a', a' = cutL true a := ⟨_, rfl⟩
  obtain ⟨b', hb'⟩ : ∃ b', b' = cutL true b := ⟨_, rfl⟩
  have HA := Lib.hid ha'
  have HB := Lib.hid hb'
  obtain ⟨ma, hma⟩ : ∃ ma, a'.length = ma := ⟨_, rfl⟩
  obtain ⟨mb, hmb⟩ : ∃ mb, b'.length = mb := ⟨_, rfl⟩
  have hma30 : ma ≤ 30 := by rw [← hma, ha', cutL_len]; omega
  have hmb30 : mb ≤ 30 := by rw [← hmb, hb', cutL_len]; omega
  have HLa := Lib.hid (show ∀ e ∈ a', e.2.length ≤ 1000000 by intro e he; rw [ha'] at he; have := cutL_le e he; omega)
  have HLb := Lib.hid (show ∀ e ∈ b', e.2.length ≤ 1000000 by intro e he; rw [hb'] at he; have := cutL_le e he; omega)
  clear ha hb ha' hb' hgs
  go_enter Try.func8, Try.ntmps8
  go_wp2_with fail
  rw [← hwg, ← hw1]
  clear hw1 hwg
  refine wp_flv [(fun y_ _ => y_ = .agg #[.int .u64 x, .slice Aa na ca]), IsLog entK [w.heap.size + 1, w.heap.size + 1 + 1] w.heap.size 5 (fun s => .agg #[.int .u64 x, s]) ma a', (fun y_ _ => y_ = .agg #[.int .u64 y, .slice Ab nb cb]), IsLog entK [w.heap.size + 1, w.heap.size + 1 + 1] w.heap.size 5 (fun s => .agg #[.int .u64 y, s]) mb b', (fun _ _ => True), (fun _ _ => True)] [w.heap.size + 1, w.heap.size + 1 + 1] (CutInv 49 (w.heap.size + 1) (w.heap.size + 1 + 1) w.heap.size 5 x y #[.int .u64 x, .slice Aa na ca] #[.int .u64 y, .slice Ab nb cb] ma mb a' b') [4, 5] (by kernel_rfl) ⟨StabW.eq _ _, IsLog.stabW _ _ _ _ _ _ _, StabW.eq _ _, IsLog.stabW _ _ _ _ _ _ _, StabW.any _, StabW.any _, trivial⟩ (CutInv.stab) (⟨P0, Q0⟩) (by kernel_rfl) (by kernel_rfl) (by kernel_rfl) (by rfl) ?_ ?_
  · intro kq hkq
    match kq, hkq with
    | 0, _ =>
      refine StepV.plain _ rfl rfl rfl [(4, none)] (by kernel_rfl) (fun af wf hbw hz hf Kf hKf => ?_)
      obtain ⟨g4, _⟩ := hf
      have h4 : af.tmps[4]?.getD undef = .pointer (some ⟨w.heap.size + 1, 0, none⟩) := g4
      clear g4
      obtain ⟨_, hz0, hz1⟩ := hz 4 rfl (by kernel_rfl)
      have cB9 := hz0.cell
      go_simp
      exact hKf _ _ (Below.refl _ _) rfl
    | 1, _ =>
      refine StepV.plain _ rfl rfl rfl [(13, some 0)] (by kernel_rfl) (fun af wf hbw hz hf Kf hKf => ?_)
      obtain ⟨g13, _⟩ := hf
      have h13 : af.tmps[13]?.getD undef = .agg #[.int .u64 x, .slice Aa na ca] := g13
      clear g13
      obtain ⟨_, hz0, hz1⟩ := hz 4 rfl (by kernel_rfl)
      have hzs := hbw.size
      go_simp
      refine (lcut_any x Aa na ca w.heap.size a true _ ((haN.kept ((Kept.refl _ _).drew.trans hbw)).rd) (by simp at hzs; omega)).mono ?_
      rintro e wN ⟨v6, rfl, hO6, hb6⟩
      exact hKf _ _ (hb6) (IsLog.of (mk := fun s => .agg #[.int .u64 x, s]) (by rw [HA.out]; exact hO6) hma (by intro z hz_; simp at hz_ hzs; omega) (gs_typed (hz0.on hb6) (hz1.on hb6) (by decide)))
    | 2, _ =>
      refine StepV.plain _ rfl rfl rfl [(5, none)] (by kernel_rfl) (fun af wf hbw hz hf Kf hKf => ?_)
      obtain ⟨g5, _⟩ := hf
      have h5 : af.tmps[5]?.getD undef = .pointer (some ⟨w.heap.size + 1 + 1, 0, none⟩) := g5
      clear g5
      obtain ⟨_, hz0, hz1⟩ := hz 4 rfl (by kernel_rfl)
      have cB9 := hz1.cell
      go_simp
      exact hKf _ _ (Below.refl _ _) rfl
    | 3, _ =>
      refine StepV.plain _ rfl rfl rfl [(15, some 2)] (by kernel_rfl) (fun af wf hbw hz hf Kf hKf => ?_)
      obtain ⟨g15, _⟩ := hf
      have h15 : af.tmps[15]?.getD undef = .agg #[.int .u64 y, .slice Ab nb cb] := g15
      clear g15
      obtain ⟨_, hz0, hz1⟩ := hz 4 rfl (by kernel_rfl)
      have hzs := hbw.size
      go_simp
      refine (lcut_any y Ab nb cb w.heap.size b true _ ((hbN.kept ((Kept.refl _ _).drew.trans hbw)).rd) (by simp at hzs; omega)).mono ?_
      rintro e wN ⟨v8, rfl, hO8, hb8⟩
      exact hKf _ _ (hb8) (IsLog.of (mk := fun s => .agg #[.int .u64 y, s]) (by rw [HB.out]; exact hO8) hmb (by intro z hz_; simp at hz_ hzs; omega) (gs_typed (hz0.on hb8) (hz1.on hb8) (by decide)))
    | 4, _ =>
      refine StepV.chain 0 _ rfl rfl rfl (by decide) [(4, none), (14, some 1)] (by kernel_rfl) (fun af wf hbw hiv hf Kf hKf => ?_)
      obtain ⟨uv, hiv, hlast⟩ := hiv
      obtain ⟨g4, g14, _⟩ := hf
      have h4 : af.tmps[4]?.getD undef = .pointer (some ⟨w.heap.size + 1, 0, none⟩) := g4
      have g14 : IsLog entK [w.heap.size + 1, w.heap.size + 1 + 1] w.heap.size 5 (fun s => .agg #[.int .u64 x, s]) ma a' (af.tmps[14]?.getD undef) wf := g14
      obtain ⟨A14, c14, h14, hL14, hn14, hm14⟩ := g14
      clear g4
      have cB9 := hiv.1.cell
      have fB9 := hiv.1.frozen
      have hk1 : Kept [w.heap.size + 1, w.heap.size + 1 + 1] wf ((wf.setCell ⟨w.heap.size + 1, 0, none⟩ (.int .u64 x)).setCell ⟨w.heap.size + 1, 1, none⟩ (.slice A14 ma c14)) := Kept.setCell (Kept.setCell (.refl _ _) (by simp) _) (by simp) _
      go_simp
      exact hKf undef _ (hk1) (⟨⟨A14, c14, by simpa using (hiv.1.set_ 0 (.int .u64 x)).set_ 1 (.slice A14 ma c14), hL14.kept hk1, hn14, hm14⟩, (hiv.2.far (by simp) _).far (by simp) _⟩) (trivial)
    | 5, _ =>
      refine StepV.chain 1 _ rfl rfl rfl (by decide) [(5, none), (16, some 3)] (by kernel_rfl) (fun af wf hbw hiv hf Kf hKf => ?_)
      obtain ⟨uv, hiv, hlast⟩ := hiv
      obtain ⟨g5, g16, _⟩ := hf
      have h5 : af.tmps[5]?.getD undef = .pointer (some ⟨w.heap.size + 1 + 1, 0, none⟩) := g5
      have g16 : IsLog entK [w.heap.size + 1, w.heap.size + 1 + 1] w.heap.size 5 (fun s => .agg #[.int .u64 y, s]) mb b' (af.tmps[16]?.getD undef) wf := g16
      obtain ⟨A16, c16, h16, hL16, hn16, hm16⟩ := g16
      clear g5
      have cB9 := hiv.2.cell
      have fB9 := hiv.2.frozen
      have hk1 : Kept [w.heap.size + 1, w.heap.size + 1 + 1] wf ((wf.setCell ⟨w.heap.size + 1 + 1, 0, none⟩ (.int .u64 y)).setCell ⟨w.heap.size + 1 + 1, 1, none⟩ (.slice A16 mb c16)) := Kept.setCell (Kept.setCell (.refl _ _) (by simp) _) (by simp) _
      obtain ⟨⟨A7, c7, hB7, hR7, hn7, hm7⟩, hB8⟩ := hiv
      go_simp
      exact hKf undef _ (hk1) (⟨⟨A7, c7, (hB7.far (by simp) _).far (by simp) _, hR7.kept hk1, hn7, hm7⟩, ⟨A16, c16, by simpa using (hB8.set_ 0 (.int .u64 y)).set_ 1 (.slice A16 mb c16), hL16.kept hk1, hn16, hm16⟩⟩) (trivial)
    | i + 6, h => exact absurd h (by show ¬ (i + 6 < 6); omega)
  · intro af wF hbF hiF hdF hsF hbaseF hfactF
    obtain ⟨T, dsF⟩ := af
    obtain rfl : dsF = _ := hdF
    have e0 := hbaseF 0 (not_dst (by kernel_rfl))
    simp only [List.getElem?_toArray, List.getElem?_cons_zero, Option.getD_some] at e0
    have e1 := hbaseF 1 (not_dst (by kernel_rfl))
    simp only [List.getElem?_toArray, List.getElem?_cons_zero, List.getElem?_cons_succ, Option.getD_some] at e1
    have e2 := hbaseF 2 (not_dst (by kernel_rfl))
    simp only [List.getElem?_toArray, List.getElem?_cons_zero, List.getElem?_cons_succ, Option.getD_some] at e2
    have e3 := hbaseF 3 (not_dst (by kernel_rfl))
    simp only [List.getElem?_toArray, List.getElem?_cons_zero, List.getElem?_cons_succ, Option.getD_some] at e3
    have e4 := hbaseF 4 (not_dst (by kernel_rfl))
    simp only [List.getElem?_toArray, List.getElem?_cons_zero, List.getElem?_cons_succ, Option.getD_some] at e4
    have e5 := hbaseF 5 (not_dst (by kernel_rfl))
    simp only [List.getElem?_toArray, List.getElem?_cons_zero, List.getElem?_cons_succ, Option.getD_some] at e5
    have e6 := hbaseF 6 (not_dst (by kernel_rfl))
    simp only [List.getElem?_toArray, List.getElem?_cons_zero, List.getElem?_cons_succ, Option.getD_some] at e6
    have e7 := hbaseF 7 (not_dst (by kernel_rfl))
    simp only [List.getElem?_toArray, List.getElem?_cons_zero, List.getElem?_cons_succ, Option.getD_some] at e7
    have e8 := hbaseF 8 (not_dst (by kernel_rfl))
    simp only [List.getElem?_toArray, List.getElem?_cons_zero, List.getElem?_cons_succ, Option.getD_some] at e8
    have e9 := hbaseF 9 (not_dst (by kernel_rfl))
    simp only [List.getElem?_toArray, List.getElem?_cons_zero, List.getElem?_cons_succ, Option.getD_some] at e9
    have e10 := hbaseF 10 (not_dst (by kernel_rfl))
    simp only [List.getElem?_toArray, List.getElem?_cons_zero, List.getElem?_cons_succ, Option.getD_some] at e10
    have e11 := hbaseF 11 (not_dst (by kernel_rfl))
    simp only [List.getElem?_toArray, List.getElem?_cons_zero, List.getElem?_cons_succ, Option.getD_some] at e11
    have e12 := hbaseF 12 (not_dst (by kernel_rfl))
    simp only [List.getElem?_toArray, List.getElem?_cons_zero, List.getElem?_cons_succ, Option.getD_some] at e12
    have e17 := hbaseF 17 (not_dst (by kernel_rfl))
    simp only [List.getElem?_toArray, List.getElem?_cons_zero, List.getElem?_cons_succ, Option.getD_some] at e17
    have e18 := hbaseF 18 (not_dst (by kernel_rfl))
    simp only [List.getElem?_toArray, List.getElem?_cons_zero, List.getElem?_cons_succ, Option.getD_some] at e18
    have e19 := hbaseF 19 (not_dst (by kernel_rfl))
    simp only [List.getElem?_toArray, List.getElem?_cons_zero, List.getElem?_cons_succ, Option.getD_some] at e19
    have e20 := hbaseF 20 (not_dst (by kernel_rfl))
    simp only [List.getElem?_toArray, List.getElem?_cons_zero, List.getElem?_cons_succ, Option.getD_some] at e20
    have e21 := hbaseF 21 (not_dst (by kernel_rfl))
    simp only [List.getElem?_toArray, List.getElem?_cons_zero, List.getElem?_cons_succ, Option.getD_some] at e21
    have e22 := hbaseF 22 (not_dst (by kernel_rfl))
    simp only [List.getElem?_toArray, List.getElem?_cons_zero, List.getElem?_cons_succ, Option.getD_some] at e22
    have e23 := hbaseF 23 (not_dst (by kernel_rfl))
    simp only [List.getElem?_toArray, List.getElem?_cons_zero, List.getElem?_cons_succ, Option.getD_some] at e23
    have e24 := hbaseF 24 (not_dst (by kernel_rfl))
    simp only [List.getElem?_toArray, List.getElem?_cons_zero, List.getElem?_cons_succ, Option.getD_some] at e24
    have e25 := hbaseF 25 (not_dst (by kernel_rfl))
    simp only [List.getElem?_toArray, List.getElem?_cons_zero, List.getElem?_cons_succ, Option.getD_some] at e25
    have e26 := hbaseF 26 (not_dst (by kernel_rfl))
    simp only [List.getElem?_toArray, List.getElem?_cons_zero, List.getElem?_cons_succ, Option.getD_some] at e26
    have e27 := hbaseF 27 (not_dst (by kernel_rfl))
    simp only [List.getElem?_toArray, List.getElem?_cons_zero, List.getElem?_cons_succ, Option.getD_some] at e27
    have e28 := hbaseF 28 (not_dst (by kernel_rfl))
    simp only [List.getElem?_toArray, List.getElem?_cons_zero, List.getElem?_cons_succ, Option.getD_some] at e28
    have e29 := hbaseF 29 (not_dst (by kernel_rfl))
    simp only [List.getElem?_toArray, List.getElem?_cons_zero, List.getElem?_cons_succ, Option.getD_some] at e29
    have e30 := hbaseF 30 (not_dst (by kernel_rfl))
    simp only [List.getElem?_toArray, List.getElem?_cons_zero, List.getElem?_cons_succ, Option.getD_some] at e30
    have e31 := hbaseF 31 (not_dst (by kernel_rfl))
    simp only [List.getElem?_toArray, List.getElem?_cons_zero, List.getElem?_cons_succ, Option.getD_some] at e31
    have e32 := hbaseF 32 (not_dst (by kernel_rfl))
    simp only [List.getElem?_toArray, List.getElem?_cons_zero, List.getElem?_cons_succ, Option.getD_some] at e32
    have e33 := hbaseF 33 (not_dst (by kernel_rfl))
    simp only [List.getElem?_toArray, List.getElem?_cons_zero, List.getElem?_cons_succ, Option.getD_some] at e33
    have e34 := hbaseF 34 (not_dst (by kernel_rfl))
    simp only [List.getElem?_toArray, List.getElem?_cons_zero, List.getElem?_cons_succ, Option.getD_some] at e34
    have e35 := hbaseF 35 (not_dst (by kernel_rfl))
    simp only [List.getElem?_toArray, List.getElem?_cons_zero, List.getElem?_cons_succ, Option.getD_some] at e35
    have e36 := hbaseF 36 (not_dst (by kernel_rfl))
    simp only [List.getElem?_toArray, List.getElem?_cons_zero, List.getElem?_cons_succ, Option.getD_some] at e36
    have e37 := hbaseF 37 (not_dst (by kernel_rfl))
    simp only [List.getElem?_toArray, List.getElem?_cons_zero, List.getElem?_cons_succ, Option.getD_some] at e37
    have e38 := hbaseF 38 (not_dst (by kernel_rfl))
    simp only [List.getElem?_toArray, List.getElem?_cons_zero, List.getElem?_cons_succ, Option.getD_some] at e38
    have e39 := hbaseF 39 (not_dst (by kernel_rfl))
    simp only [List.getElem?_toArray, List.getElem?_cons_zero, List.getElem?_cons_succ, Option.getD_some] at e39
    have e40 := hbaseF 40 (not_dst (by kernel_rfl))
    simp only [List.getElem?_toArray, List.getElem?_cons_zero, List.getElem?_cons_succ, Option.getD_some] at e40
    have e41 := hbaseF 41 (not_dst (by kernel_rfl))
    simp only [List.getElem?_toArray, List.getElem?_cons_zero, List.getElem?_cons_succ, Option.getD_some] at e41
    have e42 := hbaseF 42 (not_dst (by kernel_rfl))
    simp only [List.getElem?_toArray, List.getElem?_cons_zero, List.getElem?_cons_succ, Option.getD_some] at e42
    have e43 := hbaseF 43 (not_dst (by kernel_rfl))
    simp only [List.getElem?_toArray, List.getElem?_cons_zero, List.getElem?_cons_succ, Option.getD_some] at e43
    have e44 := hbaseF 44 (not_dst (by kernel_rfl))
    simp only [List.getElem?_toArray, List.getElem?_cons_zero, List.getElem?_cons_succ, Option.getD_some] at e44
    have e45 := hbaseF 45 (not_dst (by kernel_rfl))
    simp only [List.getElem?_toArray, List.getElem?_cons_zero, List.getElem?_cons_succ, Option.getD_some] at e45
    have e46 := hbaseF 46 (not_dst (by kernel_rfl))
    simp only [List.getElem?_toArray, List.getElem?_cons_zero, List.getElem?_cons_succ, Option.getD_some] at e46
    have e47 := hbaseF 47 (not_dst (by kernel_rfl))
    simp only [List.getElem?_toArray, List.getElem?_cons_zero, List.getElem?_cons_succ, Option.getD_some] at e47
    have e48 := hbaseF 48 (not_dst (by kernel_rfl))
    simp only [List.getElem?_toArray, List.getElem?_cons_zero, List.getElem?_cons_succ, Option.getD_some] at e48
    have e49 := hbaseF 49 (not_dst (by kernel_rfl))
    simp only [List.getElem?_toArray, List.getElem?_cons_zero, List.getElem?_cons_succ, Option.getD_some] at e49
    have e50 := hbaseF 50 (not_dst (by kernel_rfl))
    simp only [List.getElem?_toArray, List.getElem?_cons_zero, List.getElem?_cons_succ, Option.getD_some] at e50
    have e51 := hbaseF 51 (not_dst (by kernel_rfl))
    simp only [List.getElem?_toArray, List.getElem?_cons_zero, List.getElem?_cons_succ, Option.getD_some] at e51
    have e52 := hbaseF 52 (not_dst (by kernel_rfl))
    simp only [List.getElem?_toArray, List.getElem?_cons_zero, List.getElem?_cons_succ, Option.getD_some] at e52
    have e53 := hbaseF 53 (not_dst (by kernel_rfl))
    simp only [List.getElem?_toArray, List.getElem?_cons_zero, List.getElem?_cons_succ, Option.getD_some] at e53
    have e54 := hbaseF 54 (not_dst (by kernel_rfl))
    simp only [List.getElem?_toArray, List.getElem?_cons_zero, List.getElem?_cons_succ, Option.getD_some] at e54
    have e55 := hbaseF 55 (not_dst (by kernel_rfl))
    simp only [List.getElem?_toArray, List.getElem?_cons_zero, List.getElem?_cons_succ, Option.getD_some] at e55
    have e56 := hbaseF 56 (not_dst (by kernel_rfl))
    simp only [List.getElem?_toArray, List.getElem?_cons_zero, List.getElem?_cons_succ, Option.getD_some] at e56
    have e57 := hbaseF 57 (not_dst (by kernel_rfl))
    simp only [List.getElem?_toArray, List.getElem?_cons_zero, List.getElem?_cons_succ, Option.getD_some] at e57
    have e58 := hbaseF 58 (not_dst (by kernel_rfl))
    simp only [List.getElem?_toArray, List.getElem?_cons_zero, List.getElem?_cons_succ, Option.getD_some] at e58
    have e59 := hbaseF 59 (not_dst (by kernel_rfl))
    simp only [List.getElem?_toArray, List.getElem?_cons_zero, List.getElem?_cons_succ, Option.getD_some] at e59
    have e60 := hbaseF 60 (not_dst (by kernel_rfl))
    simp only [List.getElem?_toArray, List.getElem?_cons_zero, List.getElem?_cons_succ, Option.getD_some] at e60
    have e61 := hbaseF 61 (not_dst (by kernel_rfl))
    simp only [List.getElem?_toArray, List.getElem?_cons_zero, List.getElem?_cons_succ, Option.getD_some] at e61
    have e62 := hbaseF 62 (not_dst (by kernel_rfl))
    simp only [List.getElem?_toArray, List.getElem?_cons_zero, List.getElem?_cons_succ, Option.getD_some] at e62
    have e63 := hbaseF 63 (not_dst (by kernel_rfl))
    simp only [List.getElem?_toArray, List.getElem?_cons_zero, List.getElem?_cons_succ, Option.getD_some] at e63
    have e64 := hbaseF 64 (not_dst (by kernel_rfl))
    simp only [List.getElem?_toArray, List.getElem?_cons_zero, List.getElem?_cons_succ, Option.getD_some] at e64
    have e65 := hbaseF 65 (not_dst (by kernel_rfl))
    simp only [List.getElem?_toArray, List.getElem?_cons_zero, List.getElem?_cons_succ, Option.getD_some] at e65
    have e66 := hbaseF 66 (not_dst (by kernel_rfl))
    simp only [List.getElem?_toArray, List.getElem?_cons_zero, List.getElem?_cons_succ, Option.getD_some] at e66
    have e67 := hbaseF 67 (not_dst (by kernel_rfl))
    simp only [List.getElem?_toArray, List.getElem?_cons_zero, List.getElem?_cons_succ, Option.getD_some] at e67
    have e68 := hbaseF 68 (not_dst (by kernel_rfl))
    simp only [List.getElem?_toArray, List.getElem?_cons_zero, List.getElem?_cons_succ, Option.getD_some] at e68
    have e69 := hbaseF 69 (not_dst (by kernel_rfl))
    simp only [List.getElem?_toArray, List.getElem?_cons_zero, List.getElem?_cons_succ, Option.getD_some] at e69
    have e70 := hbaseF 70 (not_dst (by kernel_rfl))
    simp only [List.getElem?_toArray, List.getElem?_cons_zero, List.getElem?_cons_succ, Option.getD_some] at e70
    have e71 := hbaseF 71 (not_dst (by kernel_rfl))
    simp only [List.getElem?_toArray, List.getElem?_cons_zero, List.getElem?_cons_succ, Option.getD_some] at e71
    have e72 := hbaseF 72 (not_dst (by kernel_rfl))
    simp only [List.getElem?_toArray, List.getElem?_cons_zero, List.getElem?_cons_succ, Option.getD_some] at e72
    have e73 := hbaseF 73 (not_dst (by kernel_rfl))
    simp only [List.getElem?_toArray, List.getElem?_cons_zero, List.getElem?_cons_succ, Option.getD_some] at e73
    have e74 := hbaseF 74 (not_dst (by kernel_rfl))
    simp only [List.getElem?_toArray, List.getElem?_cons_zero, List.getElem?_cons_succ, Option.getD_some] at e74
    have e75 := hbaseF 75 (not_dst (by kernel_rfl))
    simp only [List.getElem?_toArray, List.getElem?_cons_zero, List.getElem?_cons_succ, Option.getD_some] at e75
    have e76 := hbaseF 76 (not_dst (by kernel_rfl))
    simp only [List.getElem?_toArray, List.getElem?_cons_zero, List.getElem?_cons_succ, Option.getD_some] at e76
    have e77 := hbaseF 77 (not_dst (by kernel_rfl))
    simp only [List.getElem?_toArray, List.getElem?_cons_zero, List.getElem?_cons_succ, Option.getD_some] at e77
    have e78 := hbaseF 78 (not_dst (by kernel_rfl))
    simp only [List.getElem?_toArray, List.getElem?_cons_zero, List.getElem?_cons_succ, Option.getD_some] at e78
    have e79 := hbaseF 79 (not_dst (by kernel_rfl))
    simp only [List.getElem?_toArray, List.getElem?_cons_zero, List.getElem?_cons_succ, Option.getD_some] at e79
    have e80 := hbaseF 80 (not_dst (by kernel_rfl))
    simp only [List.getElem?_toArray, List.getElem?_cons_zero, List.getElem?_cons_succ, Option.getD_some] at e80
    have e81 := hbaseF 81 (not_dst (by kernel_rfl))
    simp only [List.getElem?_toArray, List.getElem?_cons_zero, List.getElem?_cons_succ, Option.getD_some] at e81
    have e82 := hbaseF 82 (not_dst (by kernel_rfl))
    simp only [List.getElem?_toArray, List.getElem?_cons_zero, List.getElem?_cons_succ, Option.getD_some] at e82
    clear hbaseF hfactF
    have hT : T = #[T[0]?.getD undef, T[1]?.getD undef, T[2]?.getD undef, T[3]?.getD undef, T[4]?.getD undef, T[5]?.getD undef, T[6]?.getD undef, T[7]?.getD undef, T[8]?.getD undef, T[9]?.getD undef, T[10]?.getD undef, T[11]?.getD undef, T[12]?.getD undef, T[13]?.getD undef, T[14]?.getD undef, T[15]?.getD undef, T[16]?.getD undef, T[17]?.getD undef, T[18]?.getD undef, T[19]?.getD undef, T[20]?.getD undef, T[21]?.getD undef, T[22]?.getD undef, T[23]?.getD undef, T[24]?.getD undef, T[25]?.getD undef, T[26]?.getD undef, T[27]?.getD undef, T[28]?.getD undef, T[29]?.getD undef, T[30]?.getD undef, T[31]?.getD undef, T[32]?.getD undef, T[33]?.getD undef, T[34]?.getD undef, T[35]?.getD undef, T[36]?.getD undef, T[37]?.getD undef, T[38]?.getD undef, T[39]?.getD undef, T[40]?.getD undef, T[41]?.getD undef, T[42]?.getD undef, T[43]?.getD undef, T[44]?.getD undef, T[45]?.getD undef, T[46]?.getD undef, T[47]?.getD undef, T[48]?.getD undef, T[49]?.getD undef, T[50]?.getD undef, T[51]?.getD undef, T[52]?.getD undef, T[53]?.getD undef, T[54]?.getD undef, T[55]?.getD undef, T[56]?.getD undef, T[57]?.getD undef, T[58]?.getD undef, T[59]?.getD undef, T[60]?.getD undef, T[61]?.getD undef, T[62]?.getD undef, T[63]?.getD undef, T[64]?.getD undef, T[65]?.getD undef, T[66]?.getD undef, T[67]?.getD undef, T[68]?.getD undef, T[69]?.getD undef, T[70]?.getD undef, T[71]?.getD undef, T[72]?.getD undef, T[73]?.getD undef, T[74]?.getD undef, T[75]?.getD undef, T[76]?.getD undef, T[77]?.getD undef, T[78]?.getD undef, T[79]?.getD undef, T[80]?.getD undef, T[81]?.getD undef, T[82]?.getD undef] := arr_eq T 83 hsF
    clear hsF
    rw [e0] at hT; clear e0
    rw [e1] at hT; clear e1
    rw [e2] at hT; clear e2
    rw [e3] at hT; clear e3
    rw [e4] at hT; clear e4
    rw [e5] at hT; clear e5
    rw [e6] at hT; clear e6
    rw [e7] at hT; clear e7
    rw [e8] at hT; clear e8
    rw [e9] at hT; clear e9
    rw [e10] at hT; clear e10
    rw [e11] at hT; clear e11
    rw [e12] at hT; clear e12
    generalize T[13]?.getD undef = u13 at hT
    generalize T[14]?.getD undef = u14 at hT
    generalize T[15]?.getD undef = u15 at hT
    generalize T[16]?.getD undef = u16 at hT
    rw [e17] at hT; clear e17
    rw [e18] at hT; clear e18
    rw [e19] at hT; clear e19
    rw [e20] at hT; clear e20
    rw [e21] at hT; clear e21
    rw [e22] at hT; clear e22
    rw [e23] at hT; clear e23
    rw [e24] at hT; clear e24
    rw [e25] at hT; clear e25
    rw [e26] at hT; clear e26
    rw [e27] at hT; clear e27
    rw [e28] at hT; clear e28
    rw [e29] at hT; clear e29
    rw [e30] at hT; clear e30
    rw [e31] at hT; clear e31
    rw [e32] at hT; clear e32
    rw [e33] at hT; clear e33
    rw [e34] at hT; clear e34
    rw [e35] at hT; clear e35
    rw [e36] at hT; clear e36
    rw [e37] at hT; clear e37
    rw [e38] at hT; clear e38
    rw [e39] at hT; clear e39
    rw [e40] at hT; clear e40
    rw [e41] at hT; clear e41
    rw [e42] at hT; clear e42
    rw [e43] at hT; clear e43
    rw [e44] at hT; clear e44
    rw [e45] at hT; clear e45
    rw [e46] at hT; clear e46
    rw [e47] at hT; clear e47
    rw [e48] at hT; clear e48
    rw [e49] at hT; clear e49
    rw [e50] at hT; clear e50
    rw [e51] at hT; clear e51
    rw [e52] at hT; clear e52
    rw [e53] at hT; clear e53
    rw [e54] at hT; clear e54
    rw [e55] at hT; clear e55
    rw [e56] at hT; clear e56
    rw [e57] at hT; clear e57
    rw [e58] at hT; clear e58
    rw [e59] at hT; clear e59
    rw [e60] at hT; clear e60
    rw [e61] at hT; clear e61
    rw [e62] at hT; clear e62
    rw [e63] at hT; clear e63
    rw [e64] at hT; clear e64
    rw [e65] at hT; clear e65
    rw [e66] at hT; clear e66
    rw [e67] at hT; clear e67
    rw [e68] at hT; clear e68
    rw [e69] at hT; clear e69
    rw [e70] at hT; clear e70
    rw [e71] at hT; clear e71
    rw [e72] at hT; clear e72
    rw [e73] at hT; clear e73
    rw [e74] at hT; clear e74
    rw [e75] at hT; clear e75
    rw [e76] at hT; clear e76
    rw [e77] at hT; clear e77
    rw [e78] at hT; clear e78
    rw [e79] at hT; clear e79
    rw [e80] at hT; clear e80
    rw [e81] at hT; clear e81
    rw [e82] at hT; clear e82
    subst hT
    obtain ⟨_, ⟨Ax, cx, BX, RX, hcx1, hcx2⟩, ⟨Ay, cy, BY, RY, hcy1, hcy2⟩⟩ := hiF
    have Rxr := RX.rd
    have Ryr := RY.rd
    have BG := G0.kept hbF (by intro h_; simp at h_; omega)
    have bF : Below w.heap.size w wF := b1.trans (hbF.below (by omega) (by simp; omega))
    have hzF := hbF.size
    have hnla := encR_len p t x a'
    have hnlb := encR_len p t y b'
    clear RX RY haN hbN P0 Q0 G0 hbF b1
    go_wp2_with fail
    refine wp_flows [(fun y_ _ => y_ = .agg #[.int .i64 p, .int .i64 t]), (fun y_ _ => y_ = .agg #[.int .u64 x, .slice Ax ma cx]), IsLg 5 x ma a', IsEn (encR p t x a').length (encR p t x a') (encX p t a'), IsEn (encR p t x a').length (encR p t x a') (encX p t a'), IsSS (encR p t x a').length (encR p t x a'), (fun y_ _ => y_ = .int .i64 (encX p t a')), IsSS (encR p t x a').length (encR p t x a'), (fun y_ _ => y_ = .int .i64 (encX p t a'))] (by kernel_rfl) ⟨Stab.eq _, Stab.eq _, IsLg.stab _ _ _ _, IsEn.stab _ _ _, IsEn.stab _ _ _, Stab.ss _ _, Stab.eq _, Stab.ss _ _, Stab.eq _, trivial⟩ (by kernel_rfl) (by rfl) ?_ ?_
    · intro kq hkq
      match kq, hkq with
      | 0, _ =>
        refine StepOk.plain _ 18 rfl rfl rfl [(3, none)] (by kernel_rfl) (fun af wf hbw hf Kf hKf => ?_)
        obtain ⟨g3, _⟩ := hf
        have h3 : af.tmps[3]?.getD undef = .pointer (some ⟨w.heap.size, 0, none⟩) := g3
        clear g3
        have cB0 := (Blk.on (Blk.drew (BG)) hbw).cell
        have cB1 := (Blk.on (Blk.drew (BX)) hbw).cell
        have cB2 := (Blk.on (Blk.drew (BY)) hbw).cell
        go_simp
        exact hKf _ _ (Below.refl _ _) rfl
      | 1, _ =>
        refine StepOk.plain _ 19 rfl rfl rfl [(4, none)] (by kernel_rfl) (fun af wf hbw hf Kf hKf => ?_)
        obtain ⟨g4, _⟩ := hf
        have h4 : af.tmps[4]?.getD undef = .pointer (some ⟨w.heap.size + 1, 0, none⟩) := g4
        clear g4
        have cB0 := (Blk.on (Blk.drew (BG)) hbw).cell
        have cB1 := (Blk.on (Blk.drew (BX)) hbw).cell
        have cB2 := (Blk.on (Blk.drew (BY)) hbw).cell
        go_simp
        exact hKf _ _ (Below.refl _ _) rfl
      | 2, _ =>
        refine StepOk.plain _ 20 rfl rfl rfl [(19, some 1)] (by kernel_rfl) (fun af wf hbw hf Kf hKf => ?_)
        obtain ⟨g19, _⟩ := hf
        have h19 : af.tmps[19]?.getD undef = .agg #[.int .u64 x, .slice Ax ma cx] := g19
        clear g19
        go_simp
        refine (lours_any x Ax ma cx w.heap.size a' _ (RdR.below Rxr.drew hbw) (by have := hbw.size; simp at this; omega) (by omega) HLa.out).mono ?_
        rintro e wN ⟨v, rfl, hO, hb⟩
        exact hKf _ _ (hb) (IsLg.of hO hma)
      | 3, _ =>
        refine StepOk.plain _ 21 rfl rfl rfl [(18, some 0), (20, some 2)] (by kernel_rfl) (fun af wf hbw hf Kf hKf => ?_)
        obtain ⟨g18, g20, _⟩ := hf
        have h18 : af.tmps[18]?.getD undef = .agg #[.int .i64 p, .int .i64 t] := g18
        have g20 : IsLg 5 x ma a' (af.tmps[20]?.getD undef) wf := g20
        obtain ⟨A20, c20, B20, h20, hR20, hn20, hm20⟩ := g20
        clear g18
        go_simp
        refine (lenc_any p t x _ ma _ _ _ a' _ hR20 (by omega) hx0 hx1).mono ?_
        rintro e wN ⟨v, rfl, hO, hb⟩
        exact hKf _ _ (hb) (IsEn.of hO rfl)
      | 4, _ =>
        refine StepOk.plain _ 17 rfl rfl rfl [(21, some 3)] (by kernel_rfl) (fun af wf hbw hf Kf hKf => ?_)
        obtain ⟨g21, _⟩ := hf
        have g21 : IsEn (encR p t x a').length (encR p t x a') (encX p t a') (af.tmps[21]?.getD undef) wf := g21
        obtain ⟨A21, c21, h21, hS21, hn21, hm21⟩ := g21
        go_simp
        exact hKf _ _ (Below.refl _ _) (⟨A21, c21, rfl, hS21, hn21, hm21⟩)
      | 5, _ =>
        refine StepOk.plain _ 22 rfl rfl rfl [(17, some 4)] (by kernel_rfl) (fun af wf hbw hf Kf hKf => ?_)
        obtain ⟨g17, _⟩ := hf
        have g17 : IsEn (encR p t x a').length (encR p t x a') (encX p t a') (af.tmps[17]?.getD undef) wf := g17
        obtain ⟨A17, c17, h17, hS17, hn17, hm17⟩ := g17
        go_simp
        exact hKf _ _ (Below.refl _ _) (⟨A17, c17, rfl, hS17, hn17, hm17⟩)
      | 6, _ =>
        refine StepOk.plain _ 23 rfl rfl rfl [(17, some 4)] (by kernel_rfl) (fun af wf hbw hf Kf hKf => ?_)
        obtain ⟨g17, _⟩ := hf
        have g17 : IsEn (encR p t x a').length (encR p t x a') (encX p t a') (af.tmps[17]?.getD undef) wf := g17
        obtain ⟨A17, c17, h17, hS17, hn17, hm17⟩ := g17
        go_simp
        exact hKf _ _ (Below.refl _ _) rfl
      | 7, _ =>
        refine StepOk.plain _ 7 rfl rfl rfl [(22, some 5)] (by kernel_rfl) (fun af wf hbw hf Kf hKf => ?_)
        obtain ⟨g22, _⟩ := hf
        have g22 : IsSS (encR p t x a').length (encR p t x a') (af.tmps[22]?.getD undef) wf := g22
        obtain ⟨A22, c22, h22, hS22, hn22, hm22⟩ := g22
        go_simp
        exact hKf _ _ (Below.refl _ _) (⟨A22, c22, rfl, hS22, hn22, hm22⟩)
      | 8, _ =>
        refine StepOk.plain _ 8 rfl rfl rfl [(23, some 6)] (by kernel_rfl) (fun af wf hbw hf Kf hKf => ?_)
        obtain ⟨g23, _⟩ := hf
        have h23 : af.tmps[23]?.getD undef = .int .i64 (encX p t a') := g23
        clear g23
        go_simp
        exact hKf _ _ (Below.refl _ _) rfl
      | i + 9, h => exact absurd h (by show ¬ (i + 9 < 9); omega)
    · intro af wF hbF hdF hsF hbaseF hfactF
      obtain ⟨T, dsF⟩ := af
      obtain rfl : dsF = _ := hdF
      have e0 := hbaseF 0 (not_dst (by kernel_rfl))
      simp only [List.getElem?_toArray, List.getElem?_cons_zero, Option.getD_some] at e0
      have e1 := hbaseF 1 (not_dst (by kernel_rfl))
      simp only [List.getElem?_toArray, List.getElem?_cons_zero, List.getElem?_cons_succ, Option.getD_some] at e1
      have e2 := hbaseF 2 (not_dst (by kernel_rfl))
      simp only [List.getElem?_toArray, List.getElem?_cons_zero, List.getElem?_cons_succ, Option.getD_some] at e2
      have e3 := hbaseF 3 (not_dst (by kernel_rfl))
      simp only [List.getElem?_toArray, List.getElem?_cons_zero, List.getElem?_cons_succ, Option.getD_some] at e3
      have e4 := hbaseF 4 (not_dst (by kernel_rfl))
      simp only [List.getElem?_toArray, List.getElem?_cons_zero, List.getElem?_cons_succ, Option.getD_some] at e4
      have e5 := hbaseF 5 (not_dst (by kernel_rfl))
      simp only [List.getElem?_toArray, List.getElem?_cons_zero, List.getElem?_cons_succ, Option.getD_some] at e5
      have e6 := hbaseF 6 (not_dst (by kernel_rfl))
      simp only [List.getElem?_toArray, List.getElem?_cons_zero, List.getElem?_cons_succ, Option.getD_some] at e6
      have e9 := hbaseF 9 (not_dst (by kernel_rfl))
      simp only [List.getElem?_toArray, List.getElem?_cons_zero, List.getElem?_cons_succ, Option.getD_some] at e9
      have e10 := hbaseF 10 (not_dst (by kernel_rfl))
      simp only [List.getElem?_toArray, List.getElem?_cons_zero, List.getElem?_cons_succ, Option.getD_some] at e10
      have e11 := hbaseF 11 (not_dst (by kernel_rfl))
      simp only [List.getElem?_toArray, List.getElem?_cons_zero, List.getElem?_cons_succ, Option.getD_some] at e11
      have e12 := hbaseF 12 (not_dst (by kernel_rfl))
      simp only [List.getElem?_toArray, List.getElem?_cons_zero, List.getElem?_cons_succ, Option.getD_some] at e12
      have e13 := hbaseF 13 (not_dst (by kernel_rfl))
      simp only [List.getElem?_toArray, List.getElem?_cons_zero, List.getElem?_cons_succ, Option.getD_some] at e13
      have e14 := hbaseF 14 (not_dst (by kernel_rfl))
      simp only [List.getElem?_toArray, List.getElem?_cons_zero, List.getElem?_cons_succ, Option.getD_some] at e14
      have e15 := hbaseF 15 (not_dst (by kernel_rfl))
      simp only [List.getElem?_toArray, List.getElem?_cons_zero, List.getElem?_cons_succ, Option.getD_some] at e15
      have e16 := hbaseF 16 (not_dst (by kernel_rfl))
      simp only [List.getElem?_toArray, List.getElem?_cons_zero, List.getElem?_cons_succ, Option.getD_some] at e16
      have e24 := hbaseF 24 (not_dst (by kernel_rfl))
      simp only [List.getElem?_toArray, List.getElem?_cons_zero, List.getElem?_cons_succ, Option.getD_some] at e24
      have e25 := hbaseF 25 (not_dst (by kernel_rfl))
      simp only [List.getElem?_toArray, List.getElem?_cons_zero, List.getElem?_cons_succ, Option.getD_some] at e25
      have e26 := hbaseF 26 (not_dst (by kernel_rfl))
      simp only [List.getElem?_toArray, List.getElem?_cons_zero, List.getElem?_cons_succ, Option.getD_some] at e26
      have e27 := hbaseF 27 (not_dst (by kernel_rfl))
      simp only [List.getElem?_toArray, List.getElem?_cons_zero, List.getElem?_cons_succ, Option.getD_some] at e27
      have e28 := hbaseF 28 (not_dst (by kernel_rfl))
      simp only [List.getElem?_toArray, List.getElem?_cons_zero, List.getElem?_cons_succ, Option.getD_some] at e28
      have e29 := hbaseF 29 (not_dst (by kernel_rfl))
      simp only [List.getElem?_toArray, List.getElem?_cons_zero, List.getElem?_cons_succ, Option.getD_some] at e29
      have e30 := hbaseF 30 (not_dst (by kernel_rfl))
      simp only [List.getElem?_toArray, List.getElem?_cons_zero, List.getElem?_cons_succ, Option.getD_some] at e30
      have e31 := hbaseF 31 (not_dst (by kernel_rfl))
      simp only [List.getElem?_toArray, List.getElem?_cons_zero, List.getElem?_cons_succ, Option.getD_some] at e31
      have e32 := hbaseF 32 (not_dst (by kernel_rfl))
      simp only [List.getElem?_toArray, List.getElem?_cons_zero, List.getElem?_cons_succ, Option.getD_some] at e32
      have e33 := hbaseF 33 (not_dst (by kernel_rfl))
      simp only [List.getElem?_toArray, List.getElem?_cons_zero, List.getElem?_cons_succ, Option.getD_some] at e33
      have e34 := hbaseF 34 (not_dst (by kernel_rfl))
      simp only [List.getElem?_toArray, List.getElem?_cons_zero, List.getElem?_cons_succ, Option.getD_some] at e34
      have e35 := hbaseF 35 (not_dst (by kernel_rfl))
      simp only [List.getElem?_toArray, List.getElem?_cons_zero, List.getElem?_cons_succ, Option.getD_some] at e35
      have e36 := hbaseF 36 (not_dst (by kernel_rfl))
      simp only [List.getElem?_toArray, List.getElem?_cons_zero, List.getElem?_cons_succ, Option.getD_some] at e36
      have e37 := hbaseF 37 (not_dst (by kernel_rfl))
      simp only [List.getElem?_toArray, List.getElem?_cons_zero, List.getElem?_cons_succ, Option.getD_some] at e37
      have e38 := hbaseF 38 (not_dst (by kernel_rfl))
      simp only [List.getElem?_toArray, List.getElem?_cons_zero, List.getElem?_cons_succ, Option.getD_some] at e38
      have e39 := hbaseF 39 (not_dst (by kernel_rfl))
      simp only [List.getElem?_toArray, List.getElem?_cons_zero, List.getElem?_cons_succ, Option.getD_some] at e39
      have e40 := hbaseF 40 (not_dst (by kernel_rfl))
      simp only [List.getElem?_toArray, List.getElem?_cons_zero, List.getElem?_cons_succ, Option.getD_some] at e40
      have e41 := hbaseF 41 (not_dst (by kernel_rfl))
      simp only [List.getElem?_toArray, List.getElem?_cons_zero, List.getElem?_cons_succ, Option.getD_some] at e41
      have e42 := hbaseF 42 (not_dst (by kernel_rfl))
      simp only [List.getElem?_toArray, List.getElem?_cons_zero, List.getElem?_cons_succ, Option.getD_some] at e42
      have e43 := hbaseF 43 (not_dst (by kernel_rfl))
      simp only [List.getElem?_toArray, List.getElem?_cons_zero, List.getElem?_cons_succ, Option.getD_some] at e43
      have e44 := hbaseF 44 (not_dst (by kernel_rfl))
      simp only [List.getElem?_toArray, List.getElem?_cons_zero, List.getElem?_cons_succ, Option.getD_some] at e44
      have e45 := hbaseF 45 (not_dst (by kernel_rfl))
      simp only [List.getElem?_toArray, List.getElem?_cons_zero, List.getElem?_cons_succ, Option.getD_some] at e45
      have e46 := hbaseF 46 (not_dst (by kernel_rfl))
      simp only [List.getElem?_toArray, List.getElem?_cons_zero, List.getElem?_cons_succ, Option.getD_some] at e46
      have e47 := hbaseF 47 (not_dst (by kernel_rfl))
      simp only [List.getElem?_toArray, List.getElem?_cons_zero, List.getElem?_cons_succ, Option.getD_some] at e47
      have e48 := hbaseF 48 (not_dst (by kernel_rfl))
      simp only [List.getElem?_toArray, List.getElem?_cons_zero, List.getElem?_cons_succ, Option.getD_some] at e48
      have e49 := hbaseF 49 (not_dst (by kernel_rfl))
      simp only [List.getElem?_toArray, List.getElem?_cons_zero, List.getElem?_cons_succ, Option.getD_some] at e49
      have e50 := hbaseF 50 (not_dst (by kernel_rfl))
      simp only [List.getElem?_toArray, List.getElem?_cons_zero, List.getElem?_cons_succ, Option.getD_some] at e50
      have e51 := hbaseF 51 (not_dst (by kernel_rfl))
      simp only [List.getElem?_toArray, List.getElem?_cons_zero, List.getElem?_cons_succ, Option.getD_some] at e51
      have e52 := hbaseF 52 (not_dst (by kernel_rfl))
      simp only [List.getElem?_toArray, List.getElem?_cons_zero, List.getElem?_cons_succ, Option.getD_some] at e52
      have e53 := hbaseF 53 (not_dst (by kernel_rfl))
      simp only [List.getElem?_toArray, List.getElem?_cons_zero, List.getElem?_cons_succ, Option.getD_some] at e53
      have e54 := hbaseF 54 (not_dst (by kernel_rfl))
      simp only [List.getElem?_toArray, List.getElem?_cons_zero, List.getElem?_cons_succ, Option.getD_some] at e54
      have e55 := hbaseF 55 (not_dst (by kernel_rfl))
      simp only [List.getElem?_toArray, List.getElem?_cons_zero, List.getElem?_cons_succ, Option.getD_some] at e55
      have e56 := hbaseF 56 (not_dst (by kernel_rfl))
      simp only [List.getElem?_toArray, List.getElem?_cons_zero, List.getElem?_cons_succ, Option.getD_some] at e56
      have e57 := hbaseF 57 (not_dst (by kernel_rfl))
      simp only [List.getElem?_toArray, List.getElem?_cons_zero, List.getElem?_cons_succ, Option.getD_some] at e57
      have e58 := hbaseF 58 (not_dst (by kernel_rfl))
      simp only [List.getElem?_toArray, List.getElem?_cons_zero, List.getElem?_cons_succ, Option.getD_some] at e58
      have e59 := hbaseF 59 (not_dst (by kernel_rfl))
      simp only [List.getElem?_toArray, List.getElem?_cons_zero, List.getElem?_cons_succ, Option.getD_some] at e59
      have e60 := hbaseF 60 (not_dst (by kernel_rfl))
      simp only [List.getElem?_toArray, List.getElem?_cons_zero, List.getElem?_cons_succ, Option.getD_some] at e60
      have e61 := hbaseF 61 (not_dst (by kernel_rfl))
      simp only [List.getElem?_toArray, List.getElem?_cons_zero, List.getElem?_cons_succ, Option.getD_some] at e61
      have e62 := hbaseF 62 (not_dst (by kernel_rfl))
      simp only [List.getElem?_toArray, List.getElem?_cons_zero, List.getElem?_cons_succ, Option.getD_some] at e62
      have e63 := hbaseF 63 (not_dst (by kernel_rfl))
      simp only [List.getElem?_toArray, List.getElem?_cons_zero, List.getElem?_cons_succ, Option.getD_some] at e63
      have e64 := hbaseF 64 (not_dst (by kernel_rfl))
      simp only [List.getElem?_toArray, List.getElem?_cons_zero, List.getElem?_cons_succ, Option.getD_some] at e64
      have e65 := hbaseF 65 (not_dst (by kernel_rfl))
      simp only [List.getElem?_toArray, List.getElem?_cons_zero, List.getElem?_cons_succ, Option.getD_some] at e65
      have e66 := hbaseF 66 (not_dst (by kernel_rfl))
      simp only [List.getElem?_toArray, List.getElem?_cons_zero, List.getElem?_cons_succ, Option.getD_some] at e66
      have e67 := hbaseF 67 (not_dst (by kernel_rfl))
      simp only [List.getElem?_toArray, List.getElem?_cons_zero, List.getElem?_cons_succ, Option.getD_some] at e67
      have e68 := hbaseF 68 (not_dst (by kernel_rfl))
      simp only [List.getElem?_toArray, List.getElem?_cons_zero, List.getElem?_cons_succ, Option.getD_some] at e68
      have e69 := hbaseF 69 (not_dst (by kernel_rfl))
      simp only [List.getElem?_toArray, List.getElem?_cons_zero, List.getElem?_cons_succ, Option.getD_some] at e69
      have e70 := hbaseF 70 (not_dst (by kernel_rfl))
      simp only [List.getElem?_toArray, List.getElem?_cons_zero, List.getElem?_cons_succ, Option.getD_some] at e70
      have e71 := hbaseF 71 (not_dst (by kernel_rfl))
      simp only [List.getElem?_toArray, List.getElem?_cons_zero, List.getElem?_cons_succ, Option.getD_some] at e71
      have e72 := hbaseF 72 (not_dst (by kernel_rfl))
      simp only [List.getElem?_toArray, List.getElem?_cons_zero, List.getElem?_cons_succ, Option.getD_some] at e72
      have e73 := hbaseF 73 (not_dst (by kernel_rfl))
      simp only [List.getElem?_toArray, List.getElem?_cons_zero, List.getElem?_cons_succ, Option.getD_some] at e73
      have e74 := hbaseF 74 (not_dst (by kernel_rfl))
      simp only [List.getElem?_toArray, List.getElem?_cons_zero, List.getElem?_cons_succ, Option.getD_some] at e74
      have e75 := hbaseF 75 (not_dst (by kernel_rfl))
      simp only [List.getElem?_toArray, List.getElem?_cons_zero, List.getElem?_cons_succ, Option.getD_some] at e75
      have e76 := hbaseF 76 (not_dst (by kernel_rfl))
      simp only [List.getElem?_toArray, List.getElem?_cons_zero, List.getElem?_cons_succ, Option.getD_some] at e76
      have e77 := hbaseF 77 (not_dst (by kernel_rfl))
      simp only [List.getElem?_toArray, List.getElem?_cons_zero, List.getElem?_cons_succ, Option.getD_some] at e77
      have e78 := hbaseF 78 (not_dst (by kernel_rfl))
      simp only [List.getElem?_toArray, List.getElem?_cons_zero, List.getElem?_cons_succ, Option.getD_some] at e78
      have e79 := hbaseF 79 (not_dst (by kernel_rfl))
      simp only [List.getElem?_toArray, List.getElem?_cons_zero, List.getElem?_cons_succ, Option.getD_some] at e79
      have e80 := hbaseF 80 (not_dst (by kernel_rfl))
      simp only [List.getElem?_toArray, List.getElem?_cons_zero, List.getElem?_cons_succ, Option.getD_some] at e80
      have e81 := hbaseF 81 (not_dst (by kernel_rfl))
      simp only [List.getElem?_toArray, List.getElem?_cons_zero, List.getElem?_cons_succ, Option.getD_some] at e81
      have e82 := hbaseF 82 (not_dst (by kernel_rfl))
      simp only [List.getElem?_toArray, List.getElem?_cons_zero, List.getElem?_cons_succ, Option.getD_some] at e82
      have e7 := hfactF 7 7 (by decide) rfl
      replace e7 : IsSS (encR p t x a').length (encR p t x a') (T[7]?.getD undef) wF := e7
      have e8 := hfactF 8 8 (by decide) rfl
      replace e8 : T[8]?.getD undef = .int .i64 (encX p t a') := e8
      clear hbaseF hfactF
      have hT : T = #[T[0]?.getD undef, T[1]?.getD undef, T[2]?.getD undef, T[3]?.getD undef, T[4]?.getD undef, T[5]?.getD undef, T[6]?.getD undef, T[7]?.getD undef, T[8]?.getD undef, T[9]?.getD undef, T[10]?.getD undef, T[11]?.getD undef, T[12]?.getD undef, T[13]?.getD undef, T[14]?.getD undef, T[15]?.getD undef, T[16]?.getD undef, T[17]?.getD undef, T[18]?.getD undef, T[19]?.getD undef, T[20]?.getD undef, T[21]?.getD undef, T[22]?.getD undef, T[23]?.getD undef, T[24]?.getD undef, T[25]?.getD undef, T[26]?.getD undef, T[27]?.getD undef, T[28]?.getD undef, T[29]?.getD undef, T[30]?.getD undef, T[31]?.getD undef, T[32]?.getD undef, T[33]?.getD undef, T[34]?.getD undef, T[35]?.getD undef, T[36]?.getD undef, T[37]?.getD undef, T[38]?.getD undef, T[39]?.getD undef, T[40]?.getD undef, T[41]?.getD undef, T[42]?.getD undef, T[43]?.getD undef, T[44]?.getD undef, T[45]?.getD undef, T[46]?.getD undef, T[47]?.getD undef, T[48]?.getD undef, T[49]?.getD undef, T[50]?.getD undef, T[51]?.getD undef, T[52]?.getD undef, T[53]?.getD undef, T[54]?.getD undef, T[55]?.getD undef, T[56]?.getD undef, T[57]?.getD undef, T[58]?.getD undef, T[59]?.getD undef, T[60]?.getD undef, T[61]?.getD undef, T[62]?.getD undef, T[63]?.getD undef, T[64]?.getD undef, T[65]?.getD undef, T[66]?.getD undef, T[67]?.getD undef, T[68]?.getD undef, T[69]?.getD undef, T[70]?.getD undef, T[71]?.getD undef, T[72]?.getD undef, T[73]?.getD undef, T[74]?.getD undef, T[75]?.getD undef, T[76]?.getD undef, T[77]?.getD undef, T[78]?.getD undef, T[79]?.getD undef, T[80]?.getD undef, T[81]?.getD undef, T[82]?.getD undef] := arr_eq T 83 hsF
      clear hsF
      rw [e0] at hT; clear e0
      rw [e1] at hT; clear e1
      rw [e2] at hT; clear e2
      rw [e3] at hT; clear e3
      rw [e4] at hT; clear e4
      rw [e5] at hT; clear e5
      rw [e6] at hT; clear e6
      generalize T[7]?.getD undef = u7 at hT e7
      rw [e8] at hT; clear e8
      rw [e9] at hT; clear e9
      rw [e10] at hT; clear e10
      rw [e11] at hT; clear e11
      rw [e12] at hT; clear e12
      rw [e13] at hT; clear e13
      rw [e14] at hT; clear e14
      rw [e15] at hT; clear e15
      rw [e16] at hT; clear e16
      generalize T[17]?.getD undef = u17 at hT
      generalize T[18]?.getD undef = u18 at hT
      generalize T[19]?.getD undef = u19 at hT
      generalize T[20]?.getD undef = u20 at hT
      generalize T[21]?.getD undef = u21 at hT
      generalize T[22]?.getD undef = u22 at hT
      generalize T[23]?.getD undef = u23 at hT
      rw [e24] at hT; clear e24
      rw [e25] at hT; clear e25
      rw [e26] at hT; clear e26
      rw [e27] at hT; clear e27
      rw [e28] at hT; clear e28
      rw [e29] at hT; clear e29
      rw [e30] at hT; clear e30
      rw [e31] at hT; clear e31
      rw [e32] at hT; clear e32
      rw [e33] at hT; clear e33
      rw [e34] at hT; clear e34
      rw [e35] at hT; clear e35
      rw [e36] at hT; clear e36
      rw [e37] at hT; clear e37
      rw [e38] at hT; clear e38
      rw [e39] at hT; clear e39
      rw [e40] at hT; clear e40
      rw [e41] at hT; clear e41
      rw [e42] at hT; clear e42
      rw [e43] at hT; clear e43
      rw [e44] at hT; clear e44
      rw [e45] at hT; clear e45
      rw [e46] at hT; clear e46
      rw [e47] at hT; clear e47
      rw [e48] at hT; clear e48
      rw [e49] at hT; clear e49
      rw [e50] at hT; clear e50
      rw [e51] at hT; clear e51
      rw [e52] at hT; clear e52
      rw [e53] at hT; clear e53
      rw [e54] at hT; clear e54
      rw [e55] at hT; clear e55
      rw [e56] at hT; clear e56
      rw [e57] at hT; clear e57
      rw [e58] at hT; clear e58
      rw [e59] at hT; clear e59
      rw [e60] at hT; clear e60
      rw [e61] at hT; clear e61
      rw [e62] at hT; clear e62
      rw [e63] at hT; clear e63
      rw [e64] at hT; clear e64
      rw [e65] at hT; clear e65
      rw [e66] at hT; clear e66
      rw [e67] at hT; clear e67
      rw [e68] at hT; clear e68
      rw [e69] at hT; clear e69
      rw [e70] at hT; clear e70
      rw [e71] at hT; clear e71
      rw [e72] at hT; clear e72
      rw [e73] at hT; clear e73
      rw [e74] at hT; clear e74
      rw [e75] at hT; clear e75
      rw [e76] at hT; clear e76
      rw [e77] at hT; clear e77
      rw [e78] at hT; clear e78
      rw [e79] at hT; clear e79
      rw [e80] at hT; clear e80
      rw [e81] at hT; clear e81
      rw [e82] at hT; clear e82
      subst hT
      obtain ⟨AX, cX, rfl, hSX, hnX, hmX⟩ := e7
      replace BG := BG.on hbF
      replace BX := BX.on hbF
      replace BY := BY.on hbF
      replace Rxr := Rxr.below hbF
      replace Ryr := Ryr.below hbF
      have bF2 := bF.trans (hbF.mono bF.size)
      have hzF2 := hbF.size
      obtain ⟨wH, hwH⟩ : ∃ wH, wH = wF := ⟨_, rfl⟩
      subst hwH
      clear hbF bF
      go_wp2_with fail
      refine wp_flows [(fun y_ _ => y_ = .agg #[.int .i64 p, .int .i64 t]), (fun y_ _ => y_ = .agg #[.int .u64 y, .slice Ay mb cy]), IsLg 5 y mb b', IsEn (encR p t y b').length (encR p t y b') (encX p t b'), IsEn (encR p t y b').length (encR p t y b') (encX p t b'), IsSS (encR p t y b').length (encR p t y b'), (fun y_ _ => y_ = .int .i64 (encX p t b')), IsSS (encR p t y b').length (encR p t y b'), (fun y_ _ => y_ = .int .i64 (encX p t b'))] (by kernel_rfl) ⟨Stab.eq _, Stab.eq _, IsLg.stab _ _ _ _, IsEn.stab _ _ _, IsEn.stab _ _ _, Stab.ss _ _, Stab.eq _, Stab.ss _ _, Stab.eq _, trivial⟩ (by kernel_rfl) (by rfl) ?_ ?_
      · intro kq hkq
        match kq, hkq with
        | 0, _ =>
          refine StepOk.plain _ 25 rfl rfl rfl [(3, none)] (by kernel_rfl) (fun af wf hbw hf Kf hKf => ?_)
          obtain ⟨g3, _⟩ := hf
          have h3 : af.tmps[3]?.getD undef = .pointer (some ⟨w.heap.size, 0, none⟩) := g3
          clear g3
          have cB0 := (Blk.on (Blk.drew (BG)) hbw).cell
          have cB1 := (Blk.on (Blk.drew (BX)) hbw).cell
          have cB2 := (Blk.on (Blk.drew (BY)) hbw).cell
          go_simp
          exact hKf _ _ (Below.refl _ _) rfl
        | 1, _ =>
          refine StepOk.plain _ 26 rfl rfl rfl [(5, none)] (by kernel_rfl) (fun af wf hbw hf Kf hKf => ?_)
          obtain ⟨g5, _⟩ := hf
          have h5 : af.tmps[5]?.getD undef = .pointer (some ⟨w.heap.size + 1 + 1, 0, none⟩) := g5
          clear g5
          have cB0 := (Blk.on (Blk.drew (BG)) hbw).cell
          have cB1 := (Blk.on (Blk.drew (BX)) hbw).cell
          have cB2 := (Blk.on (Blk.drew (BY)) hbw).cell
          go_simp
          exact hKf _ _ (Below.refl _ _) rfl
        | 2, _ =>
          refine StepOk.plain _ 27 rfl rfl rfl [(26, some 1)] (by kernel_rfl) (fun af wf hbw hf Kf hKf => ?_)
          obtain ⟨g26, _⟩ := hf
          have h26 : af.tmps[26]?.getD undef = .agg #[.int .u64 y, .slice Ay mb cy] := g26
          clear g26
          go_simp
          refine (lours_any y Ay mb cy w.heap.size b' _ (RdR.below Ryr.drew hbw) (by have := hbw.size; simp at this; omega) (by omega) HLb.out).mono ?_
          rintro e wN ⟨v, rfl, hO, hb⟩
          exact hKf _ _ (hb) (IsLg.of hO hmb)
        | 3, _ =>
          refine StepOk.plain _ 28 rfl rfl rfl [(25, some 0), (27, some 2)] (by kernel_rfl) (fun af wf hbw hf Kf hKf => ?_)
          obtain ⟨g25, g27, _⟩ := hf
          have h25 : af.tmps[25]?.getD undef = .agg #[.int .i64 p, .int .i64 t] := g25
          have g27 : IsLg 5 y mb b' (af.tmps[27]?.getD undef) wf := g27
          obtain ⟨A27, c27, B27, h27, hR27, hn27, hm27⟩ := g27
          clear g25
          go_simp
          refine (lenc_any p t y _ mb _ _ _ b' _ hR27 (by omega) hy0 hy1).mono ?_
          rintro e wN ⟨v, rfl, hO, hb⟩
          exact hKf _ _ (hb) (IsEn.of hO rfl)
        | 4, _ =>
          refine StepOk.plain _ 24 rfl rfl rfl [(28, some 3)] (by kernel_rfl) (fun af wf hbw hf Kf hKf => ?_)
          obtain ⟨g28, _⟩ := hf
          have g28 : IsEn (encR p t y b').length (encR p t y b') (encX p t b') (af.tmps[28]?.getD undef) wf := g28
          obtain ⟨A28, c28, h28, hS28, hn28, hm28⟩ := g28
          go_simp
          exact hKf _ _ (Below.refl _ _) (⟨A28, c28, rfl, hS28, hn28, hm28⟩)
        | 5, _ =>
          refine StepOk.plain _ 29 rfl rfl rfl [(24, some 4)] (by kernel_rfl) (fun af wf hbw hf Kf hKf => ?_)
          obtain ⟨g24, _⟩ := hf
          have g24 : IsEn (encR p t y b').length (encR p t y b') (encX p t b') (af.tmps[24]?.getD undef) wf := g24
          obtain ⟨A24, c24, h24, hS24, hn24, hm24⟩ := g24
          go_simp
          exact hKf _ _ (Below.refl _ _) (⟨A24, c24, rfl, hS24, hn24, hm24⟩)
        | 6, _ =>
          refine StepOk.plain _ 30 rfl rfl rfl [(24, some 4)] (by kernel_rfl) (fun af wf hbw hf Kf hKf => ?_)
          obtain ⟨g24, _⟩ := hf
          have g24 : IsEn (encR p t y b').length (encR p t y b') (encX p t b') (af.tmps[24]?.getD undef) wf := g24
          obtain ⟨A24, c24, h24, hS24, hn24, hm24⟩ := g24
          go_simp
          exact hKf _ _ (Below.refl _ _) rfl
        | 7, _ =>
          refine StepOk.plain _ 9 rfl rfl rfl [(29, some 5)] (by kernel_rfl) (fun af wf hbw hf Kf hKf => ?_)
          obtain ⟨g29, _⟩ := hf
          have g29 : IsSS (encR p t y b').length (encR p t y b') (af.tmps[29]?.getD undef) wf := g29
          obtain ⟨A29, c29, h29, hS29, hn29, hm29⟩ := g29
          go_simp
          exact hKf _ _ (Below.refl _ _) (⟨A29, c29, rfl, hS29, hn29, hm29⟩)
        | 8, _ =>
          refine StepOk.plain _ 10 rfl rfl rfl [(30, some 6)] (by kernel_rfl) (fun af wf hbw hf Kf hKf => ?_)
          obtain ⟨g30, _⟩ := hf
          have h30 : af.tmps[30]?.getD undef = .int .i64 (encX p t b') := g30
          clear g30
          go_simp
          exact hKf _ _ (Below.refl _ _) rfl
        | i + 9, h => exact absurd h (by show ¬ (i + 9 < 9); omega)
      · intro af wF hbF hdF hsF hbaseF hfactF
        obtain ⟨T, dsF⟩ := af
        obtain rfl : dsF = _ := hdF
        have e0 := hbaseF 0 (not_dst (by kernel_rfl))
        simp only [List.getElem?_toArray, List.getElem?_cons_zero, Option.getD_some] at e0
        have e1 := hbaseF 1 (not_dst (by kernel_rfl))
        simp only [List.getElem?_toArray, List.getElem?_cons_zero, List.getElem?_cons_succ, Option.getD_some] at e1
        have e2 := hbaseF 2 (not_dst (by kernel_rfl))
        simp only [List.getElem?_toArray, List.getElem?_cons_zero, List.getElem?_cons_succ, Option.getD_some] at e2
        have e3 := hbaseF 3 (not_dst (by kernel_rfl))
        simp only [List.getElem?_toArray, List.getElem?_cons_zero, List.getElem?_cons_succ, Option.getD_some] at e3
        have e4 := hbaseF 4 (not_dst (by kernel_rfl))
        simp only [List.getElem?_toArray, List.getElem?_cons_zero, List.getElem?_cons_succ, Option.getD_some] at e4
        have e5 := hbaseF 5 (not_dst (by kernel_rfl))
        simp only [List.getElem?_toArray, List.getElem?_cons_zero, List.getElem?_cons_succ, Option.getD_some] at e5
        have e6 := hbaseF 6 (not_dst (by kernel_rfl))
        simp only [List.getElem?_toArray, List.getElem?_cons_zero, List.getElem?_cons_succ, Option.getD_some] at e6
        have e7 := hbaseF 7 (not_dst (by kernel_rfl))
        simp only [List.getElem?_toArray, List.getElem?_cons_zero, List.getElem?_cons_succ, Option.getD_some] at e7
        have e8 := hbaseF 8 (not_dst (by kernel_rfl))
        simp only [List.getElem?_toArray, List.getElem?_cons_zero, List.getElem?_cons_succ, Option.getD_some] at e8
        have e11 := hbaseF 11 (not_dst (by kernel_rfl))
        simp only [List.getElem?_toArray, List.getElem?_cons_zero, List.getElem?_cons_succ, Option.getD_some] at e11
        have e12 := hbaseF 12 (not_dst (by kernel_rfl))
        simp only [List.getElem?_toArray, List.getElem?_cons_zero, List.getElem?_cons_succ, Option.getD_some] at e12
        have e13 := hbaseF 13 (not_dst (by kernel_rfl))
        simp only [List.getElem?_toArray, List.getElem?_cons_zero, List.getElem?_cons_succ, Option.getD_some] at e13
        have e14 := hbaseF 14 (not_dst (by kernel_rfl))
        simp only [List.getElem?_toArray, List.getElem?_cons_zero, List.getElem?_cons_succ, Option.getD_some] at e14
        have e15 := hbaseF 15 (not_dst (by kernel_rfl))
        simp only [List.getElem?_toArray, List.getElem?_cons_zero, List.getElem?_cons_succ, Option.getD_some] at e15
        have e16 := hbaseF 16 (not_dst (by kernel_rfl))
        simp only [List.getElem?_toArray, List.getElem?_cons_zero, List.getElem?_cons_succ, Option.getD_some] at e16
        have e17 := hbaseF 17 (not_dst (by kernel_rfl))
        simp only [List.getElem?_toArray, List.getElem?_cons_zero, List.getElem?_cons_succ, Option.getD_some] at e17
        have e18 := hbaseF 18 (not_dst (by kernel_rfl))
        simp only [List.getElem?_toArray, List.getElem?_cons_zero, List.getElem?_cons_succ, Option.getD_some] at e18
        have e19 := hbaseF 19 (not_dst (by kernel_rfl))
        simp only [List.getElem?_toArray, List.getElem?_cons_zero, List.getElem?_cons_succ, Option.getD_some] at e19
        have e20 := hbaseF 20 (not_dst (by kernel_rfl))
        simp only [List.getElem?_toArray, List.getElem?_cons_zero, List.getElem?_cons_succ, Option.getD_some] at e20
        have e21 := hbaseF 21 (not_dst (by kernel_rfl))
        simp only [List.getElem?_toArray, List.getElem?_cons_zero, List.getElem?_cons_succ, Option.getD_some] at e21
        have e22 := hbaseF 22 (not_dst (by kernel_rfl))
        simp only [List.getElem?_toArray, List.getElem?_cons_zero, List.getElem?_cons_succ, Option.getD_some] at e22
        have e23 := hbaseF 23 (not_dst (by kernel_rfl))
        simp only [List.getElem?_toArray, List.getElem?_cons_zero, List.getElem?_cons_succ, Option.getD_some] at e23
        have e31 := hbaseF 31 (not_dst (by kernel_rfl))
        simp only [List.getElem?_toArray, List.getElem?_cons_zero, List.getElem?_cons_succ, Option.getD_some] at e31
        have e32 := hbaseF 32 (not_dst (by kernel_rfl))
        simp only [List.getElem?_toArray, List.getElem?_cons_zero, List.getElem?_cons_succ, Option.getD_some] at e32
        have e33 := hbaseF 33 (not_dst (by kernel_rfl))
        simp only [List.getElem?_toArray, List.getElem?_cons_zero, List.getElem?_cons_succ, Option.getD_some] at e33
        have e34 := hbaseF 34 (not_dst (by kernel_rfl))
        simp only [List.getElem?_toArray, List.getElem?_cons_zero, List.getElem?_cons_succ, Option.getD_some] at e34
        have e35 := hbaseF 35 (not_dst (by kernel_rfl))
        simp only [List.getElem?_toArray, List.getElem?_cons_zero, List.getElem?_cons_succ, Option.getD_some] at e35
        have e36 := hbaseF 36 (not_dst (by kernel_rfl))
        simp only [List.getElem?_toArray, List.getElem?_cons_zero, List.getElem?_cons_succ, Option.getD_some] at e36
        have e37 := hbaseF 37 (not_dst (by kernel_rfl))
        simp only [List.getElem?_toArray, List.getElem?_cons_zero, List.getElem?_cons_succ, Option.getD_some] at e37
        have e38 := hbaseF 38 (not_dst (by kernel_rfl))
        simp only [List.getElem?_toArray, List.getElem?_cons_zero, List.getElem?_cons_succ, Option.getD_some] at e38
        have e39 := hbaseF 39 (not_dst (by kernel_rfl))
        simp only [List.getElem?_toArray, List.getElem?_cons_zero, List.getElem?_cons_succ, Option.getD_some] at e39
        have e40 := hbaseF 40 (not_dst (by kernel_rfl))
        simp only [List.getElem?_toArray, List.getElem?_cons_zero, List.getElem?_cons_succ, Option.getD_some] at e40
        have e41 := hbaseF 41 (not_dst (by kernel_rfl))
        simp only [List.getElem?_toArray, List.getElem?_cons_zero, List.getElem?_cons_succ, Option.getD_some] at e41
        have e42 := hbaseF 42 (not_dst (by kernel_rfl))
        simp only [List.getElem?_toArray, List.getElem?_cons_zero, List.getElem?_cons_succ, Option.getD_some] at e42
        have e43 := hbaseF 43 (not_dst (by kernel_rfl))
        simp only [List.getElem?_toArray, List.getElem?_cons_zero, List.getElem?_cons_succ, Option.getD_some] at e43
        have e44 := hbaseF 44 (not_dst (by kernel_rfl))
        simp only [List.getElem?_toArray, List.getElem?_cons_zero, List.getElem?_cons_succ, Option.getD_some] at e44
        have e45 := hbaseF 45 (not_dst (by kernel_rfl))
        simp only [List.getElem?_toArray, List.getElem?_cons_zero, List.getElem?_cons_succ, Option.getD_some] at e45
        have e46 := hbaseF 46 (not_dst (by kernel_rfl))
        simp only [List.getElem?_toArray, List.getElem?_cons_zero, List.getElem?_cons_succ, Option.getD_some] at e46
        have e47 := hbaseF 47 (not_dst (by kernel_rfl))
        simp only [List.getElem?_toArray, List.getElem?_cons_zero, List.getElem?_cons_succ, Option.getD_some] at e47
        have e48 := hbaseF 48 (not_dst (by kernel_rfl))
        simp only [List.getElem?_toArray, List.getElem?_cons_zero, List.getElem?_cons_succ, Option.getD_some] at e48
        have e49 := hbaseF 49 (not_dst (by kernel_rfl))
        simp only [List.getElem?_toArray, List.getElem?_cons_zero, List.getElem?_cons_succ, Option.getD_some] at e49
        have e50 := hbaseF 50 (not_dst (by kernel_rfl))
        simp only [List.getElem?_toArray, List.getElem?_cons_zero, List.getElem?_cons_succ, Option.getD_some] at e50
        have e51 := hbaseF 51 (not_dst (by kernel_rfl))
        simp only [List.getElem?_toArray, List.getElem?_cons_zero, List.getElem?_cons_succ, Option.getD_some] at e51
        have e52 := hbaseF 52 (not_dst (by kernel_rfl))
        simp only [List.getElem?_toArray, List.getElem?_cons_zero, List.getElem?_cons_succ, Option.getD_some] at e52
        have e53 := hbaseF 53 (not_dst (by kernel_rfl))
        simp only [List.getElem?_toArray, List.getElem?_cons_zero, List.getElem?_cons_succ, Option.getD_some] at e53
        have e54 := hbaseF 54 (not_dst (by kernel_rfl))
        simp only [List.getElem?_toArray, List.getElem?_cons_zero, List.getElem?_cons_succ, Option.getD_some] at e54
        have e55 := hbaseF 55 (not_dst (by kernel_rfl))
        simp only [List.getElem?_toArray, List.getElem?_cons_zero, List.getElem?_cons_succ, Option.getD_some] at e55
        have e56 := hbaseF 56 (not_dst (by kernel_rfl))
        simp only [List.getElem?_toArray, List.getElem?_cons_zero, List.getElem?_cons_succ, Option.getD_some] at e56
        have e57 := hbaseF 57 (not_dst (by kernel_rfl))
        simp only [List.getElem?_toArray, List.getElem?_cons_zero, List.getElem?_cons_succ, Option.getD_some] at e57
        have e58 := hbaseF 58 (not_dst (by kernel_rfl))
        simp only [List.getElem?_toArray, List.getElem?_cons_zero, List.getElem?_cons_succ, Option.getD_some] at e58
        have e59 := hbaseF 59 (not_dst (by kernel_rfl))
        simp only [List.getElem?_toArray, List.getElem?_cons_zero, List.getElem?_cons_succ, Option.getD_some] at e59
        have e60 := hbaseF 60 (not_dst (by kernel_rfl))
        simp only [List.getElem?_toArray, List.getElem?_cons_zero, List.getElem?_cons_succ, Option.getD_some] at e60
        have e61 := hbaseF 61 (not_dst (by kernel_rfl))
        simp only [List.getElem?_toArray, List.getElem?_cons_zero, List.getElem?_cons_succ, Option.getD_some] at e61
        have e62 := hbaseF 62 (not_dst (by kernel_rfl))
        simp only [List.getElem?_toArray, List.getElem?_cons_zero, List.getElem?_cons_succ, Option.getD_some] at e62
        have e63 := hbaseF 63 (not_dst (by kernel_rfl))
        simp only [List.getElem?_toArray, List.getElem?_cons_zero, List.getElem?_cons_succ, Option.getD_some] at e63
        have e64 := hbaseF 64 (not_dst (by kernel_rfl))
        simp only [List.getElem?_toArray, List.getElem?_cons_zero, List.getElem?_cons_succ, Option.getD_some] at e64
        have e65 := hbaseF 65 (not_dst (by kernel_rfl))
        simp only [List.getElem?_toArray, List.getElem?_cons_zero, List.getElem?_cons_succ, Option.getD_some] at e65
        have e66 := hbaseF 66 (not_dst (by kernel_rfl))
        simp only [List.getElem?_toArray, List.getElem?_cons_zero, List.getElem?_cons_succ, Option.getD_some] at e66
        have e67 := hbaseF 67 (not_dst (by kernel_rfl))
        simp only [List.getElem?_toArray, List.getElem?_cons_zero, List.getElem?_cons_succ, Option.getD_some] at e67
        have e68 := hbaseF 68 (not_dst (by kernel_rfl))
        simp only [List.getElem?_toArray, List.getElem?_cons_zero, List.getElem?_cons_succ, Option.getD_some] at e68
        have e69 := hbaseF 69 (not_dst (by kernel_rfl))
        simp only [List.getElem?_toArray, List.getElem?_cons_zero, List.getElem?_cons_succ, Option.getD_some] at e69
        have e70 := hbaseF 70 (not_dst (by kernel_rfl))
        simp only [List.getElem?_toArray, List.getElem?_cons_zero, List.getElem?_cons_succ, Option.getD_some] at e70
        have e71 := hbaseF 71 (not_dst (by kernel_rfl))
        simp only [List.getElem?_toArray, List.getElem?_cons_zero, List.getElem?_cons_succ, Option.getD_some] at e71
        have e72 := hbaseF 72 (not_dst (by kernel_rfl))
        simp only [List.getElem?_toArray, List.getElem?_cons_zero, List.getElem?_cons_succ, Option.getD_some] at e72
        have e73 := hbaseF 73 (not_dst (by kernel_rfl))
        simp only [List.getElem?_toArray, List.getElem?_cons_zero, List.getElem?_cons_succ, Option.getD_some] at e73
        have e74 := hbaseF 74 (not_dst (by kernel_rfl))
        simp only [List.getElem?_toArray, List.getElem?_cons_zero, List.getElem?_cons_succ, Option.getD_some] at e74
        have e75 := hbaseF 75 (not_dst (by kernel_rfl))
        simp only [List.getElem?_toArray, List.getElem?_cons_zero, List.getElem?_cons_succ, Option.getD_some] at e75
        have e76 := hbaseF 76 (not_dst (by kernel_rfl))
        simp only [List.getElem?_toArray, List.getElem?_cons_zero, List.getElem?_cons_succ, Option.getD_some] at e76
        have e77 := hbaseF 77 (not_dst (by kernel_rfl))
        simp only [List.getElem?_toArray, List.getElem?_cons_zero, List.getElem?_cons_succ, Option.getD_some] at e77
        have e78 := hbaseF 78 (not_dst (by kernel_rfl))
        simp only [List.getElem?_toArray, List.getElem?_cons_zero, List.getElem?_cons_succ, Option.getD_some] at e78
        have e79 := hbaseF 79 (not_dst (by kernel_rfl))
        simp only [List.getElem?_toArray, List.getElem?_cons_zero, List.getElem?_cons_succ, Option.getD_some] at e79
        have e80 := hbaseF 80 (not_dst (by kernel_rfl))
        simp only [List.getElem?_toArray, List.getElem?_cons_zero, List.getElem?_cons_succ, Option.getD_some] at e80
        have e81 := hbaseF 81 (not_dst (by kernel_rfl))
        simp only [List.getElem?_toArray, List.getElem?_cons_zero, List.getElem?_cons_succ, Option.getD_some] at e81
        have e82 := hbaseF 82 (not_dst (by kernel_rfl))
        simp only [List.getElem?_toArray, List.getElem?_cons_zero, List.getElem?_cons_succ, Option.getD_some] at e82
        have e9 := hfactF 7 9 (by decide) rfl
        replace e9 : IsSS (encR p t y b').length (encR p t y b') (T[9]?.getD undef) wF := e9
        have e10 := hfactF 8 10 (by decide) rfl
        replace e10 : T[10]?.getD undef = .int .i64 (encX p t b') := e10
        clear hbaseF hfactF
        have hT : T = #[T[0]?.getD undef, T[1]?.getD undef, T[2]?.getD undef, T[3]?.getD undef, T[4]?.getD undef, T[5]?.getD undef, T[6]?.getD undef, T[7]?.getD undef, T[8]?.getD undef, T[9]?.getD undef, T[10]?.getD undef, T[11]?.getD undef, T[12]?.getD undef, T[13]?.getD undef, T[14]?.getD undef, T[15]?.getD undef, T[16]?.getD undef, T[17]?.getD undef, T[18]?.getD undef, T[19]?.getD undef, T[20]?.getD undef, T[21]?.getD undef, T[22]?.getD undef, T[23]?.getD undef, T[24]?.getD undef, T[25]?.getD undef, T[26]?.getD undef, T[27]?.getD undef, T[28]?.getD undef, T[29]?.getD undef, T[30]?.getD undef, T[31]?.getD undef, T[32]?.getD undef, T[33]?.getD undef, T[34]?.getD undef, T[35]?.getD undef, T[36]?.getD undef, T[37]?.getD undef, T[38]?.getD undef, T[39]?.getD undef, T[40]?.getD undef, T[41]?.getD undef, T[42]?.getD undef, T[43]?.getD undef, T[44]?.getD undef, T[45]?.getD undef, T[46]?.getD undef, T[47]?.getD undef, T[48]?.getD undef, T[49]?.getD undef, T[50]?.getD undef, T[51]?.getD undef, T[52]?.getD undef, T[53]?.getD undef, T[54]?.getD undef, T[55]?.getD undef, T[56]?.getD undef, T[57]?.getD undef, T[58]?.getD undef, T[59]?.getD undef, T[60]?.getD undef, T[61]?.getD undef, T[62]?.getD undef, T[63]?.getD undef, T[64]?.getD undef, T[65]?.getD undef, T[66]?.getD undef, T[67]?.getD undef, T[68]?.getD undef, T[69]?.getD undef, T[70]?.getD undef, T[71]?.getD undef, T[72]?.getD undef, T[73]?.getD undef, T[74]?.getD undef, T[75]?.getD undef, T[76]?.getD undef, T[77]?.getD undef, T[78]?.getD undef, T[79]?.getD undef, T[80]?.getD undef, T[81]?.getD undef, T[82]?.getD undef] := arr_eq T 83 hsF
        clear hsF
        rw [e0] at hT; clear e0
        rw [e1] at hT; clear e1
        rw [e2] at hT; clear e2
        rw [e3] at hT; clear e3
        rw [e4] at hT; clear e4
        rw [e5] at hT; clear e5
        rw [e6] at hT; clear e6
        rw [e7] at hT; clear e7
        rw [e8] at hT; clear e8
        generalize T[9]?.getD undef = u9 at hT e9
        rw [e10] at hT; clear e10
        rw [e11] at hT; clear e11
        rw [e12] at hT; clear e12
        rw [e13] at hT; clear e13
        rw [e14] at hT; clear e14
        rw [e15] at hT; clear e15
        rw [e16] at hT; clear e16
        rw [e17] at hT; clear e17
        rw [e18] at hT; clear e18
        rw [e19] at hT; clear e19
        rw [e20] at hT; clear e20
        rw [e21] at hT; clear e21
        rw [e22] at hT; clear e22
        rw [e23] at hT; clear e23
        generalize T[24]?.getD undef = u24 at hT
        generalize T[25]?.getD undef = u25 at hT
        generalize T[26]?.getD undef = u26 at hT
        generalize T[27]?.getD undef = u27 at hT
        generalize T[28]?.getD undef = u28 at hT
        generalize T[29]?.getD undef = u29 at hT
        generalize T[30]?.getD undef = u30 at hT
        rw [e31] at hT; clear e31
        rw [e32] at hT; clear e32
        rw [e33] at hT; clear e33
        rw [e34] at hT; clear e34
        rw [e35] at hT; clear e35
        rw [e36] at hT; clear e36
        rw [e37] at hT; clear e37
        rw [e38] at hT; clear e38
        rw [e39] at hT; clear e39
        rw [e40] at hT; clear e40
        rw [e41] at hT; clear e41
        rw [e42] at hT; clear e42
        rw [e43] at hT; clear e43
        rw [e44] at hT; clear e44
        rw [e45] at hT; clear e45
        rw [e46] at hT; clear e46
        rw [e47] at hT; clear e47
        rw [e48] at hT; clear e48
        rw [e49] at hT; clear e49
        rw [e50] at hT; clear e50
        rw [e51] at hT; clear e51
        rw [e52] at hT; clear e52
        rw [e53] at hT; clear e53
        rw [e54] at hT; clear e54
        rw [e55] at hT; clear e55
        rw [e56] at hT; clear e56
        rw [e57] at hT; clear e57
        rw [e58] at hT; clear e58
        rw [e59] at hT; clear e59
        rw [e60] at hT; clear e60
        rw [e61] at hT; clear e61
        rw [e62] at hT; clear e62
        rw [e63] at hT; clear e63
        rw [e64] at hT; clear e64
        rw [e65] at hT; clear e65
        rw [e66] at hT; clear e66
        rw [e67] at hT; clear e67
        rw [e68] at hT; clear e68
        rw [e69] at hT; clear e69
        rw [e70] at hT; clear e70
        rw [e71] at hT; clear e71
        rw [e72] at hT; clear e72
        rw [e73] at hT; clear e73
        rw [e74] at hT; clear e74
        rw [e75] at hT; clear e75
        rw [e76] at hT; clear e76
        rw [e77] at hT; clear e77
        rw [e78] at hT; clear e78
        rw [e79] at hT; clear e79
        rw [e80] at hT; clear e80
        rw [e81] at hT; clear e81
        rw [e82] at hT; clear e82
        subst hT
        obtain ⟨AY, cY, rfl, hSY, hnY, hmY⟩ := e9
        replace BG := BG.on hbF
        replace BX := BX.on hbF
        replace BY := BY.on hbF
        replace Rxr := Rxr.below hbF
        replace Ryr := Ryr.below hbF
        replace hSX := hSX.below hbF
        have bF3 := bF2.trans (hbF.mono bF2.size)
        have cG := BG.cell
        have cX' := BX.cell
        have cY' := BY.cell
        clear hbF bF2
        cases hA : mayLog p t a'
        · have eXa : encX p t a' = 1 := by unfold encX; rw [hA]; rfl
          rw [eXa]
          go_wp2_with fail
          refine (rlmay_any p t x _ ma _ _ _ a' _ Rxr (by omega)).mono ?_
          rintro e w5 ⟨rfl, hb5⟩
          rw [hA]
          go_wp2_with fail
          refine (lawake_any _).mono ?_
          rintro e w6 ⟨rfl, hb6⟩
          go_wp2_with fail
          go_ret
          exact ⟨rfl, (by (have q_hb6 := Below.size hb6; (try simp at q_hb6); have q_hb5 := Below.size hb5; (try simp at q_hb5); have q_bF3 := Below.size bF3; (try simp at q_bF3); repeat (first | exact Below.refl _ _ | (refine Below.trans ?_ (Below.mono hb6 (by first | omega | (simp; omega) | simp))) | (refine Below.trans ?_ (Below.mono hb5 (by first | omega | (simp; omega) | simp))) | (refine Below.trans ?_ (Below.mono bF3 (by first | omega | (simp; omega) | simp))) | (refine Below.setCell ?_ (by first | omega | (simp; omega) | simp) _) | (refine Below.alloc ?_ (by first | omega | (simp; omega) | simp) _) | apply Below.drew | apply below_drewN)))⟩
        · have eXa : encX p t a' = 0 := by unfold encX; rw [hA]; rfl
          rw [eXa]
          cases hB : mayLog p t b'
          · have eXb : encX p t b' = 1 := by unfold encX; rw [hB]; rfl
            rw [eXb]
            go_wp2_with fail
            refine (rlmay_any p t x _ ma _ _ _ a' _ Rxr (by omega)).mono ?_
            rintro e w5 ⟨rfl, hb5⟩
            rw [hA]
            have cG5 := (BG.on hb5).cell
            have cY5 := (BY.on hb5).cell
            go_wp2_with fail
            refine (rlmay_any p t y _ mb _ _ _ b' _ (Ryr.below hb5) (by omega)).mono ?_
            rintro e w6 ⟨rfl, hb6⟩
            rw [hB]
            go_wp2_with fail
            refine (lawake_any _).mono ?_
            rintro e w7 ⟨rfl, hb7⟩
            go_wp2_with fail
            go_ret
            exact ⟨rfl, (by (have q_hb7 := Below.size hb7; (try simp at q_hb7); have q_hb6 := Below.size hb6; (try simp at q_hb6); have q_hb5 := Below.size hb5; (try simp at q_hb5); have q_bF3 := Below.size bF3; (try simp at q_bF3); repeat (first | exact Below.refl _ _ | (refine Below.trans ?_ (Below.mono hb7 (by first | omega | (simp; omega) | simp))) | (refine Below.trans ?_ (Below.mono hb6 (by first | omega | (simp; omega) | simp))) | (refine Below.trans ?_ (Below.mono hb5 (by first | omega | (simp; omega) | simp))) | (refine Below.trans ?_ (Below.mono bF3 (by first | omega | (simp; omega) | simp))) | (refine Below.setCell ?_ (by first | omega | (simp; omega) | simp) _) | (refine Below.alloc ?_ (by first | omega | (simp; omega) | simp) _) | apply Below.drew | apply below_drewN)))⟩
          · have eXb : encX p t b' = 0 := by unfold encX; rw [hB]; rfl
            rw [eXb]
            have hLX : encR p t x a' = encL x a' := by unfold encR; rw [hA]; rfl
            have hLY : encR p t y b' = encL y b' := by unfold encR; rw [hB]; rfl
            have hk := fun (e : List Ent) (h : mayLog p t e = true) => (mayLog_true h).2.2.2
            obtain ⟨g1, _, _, _⟩ := mayLog_true hA
            obtain ⟨g2, g3, _, _⟩ := gmay_true g1
            obtain ⟨_, _, _, s1, _, _⟩ := geo_range g2 g3
            have HE := Lib.hid (enc_inj (a := a') (b := b') hx0 hx1 hy0 hy1 (by omega) (fun e he => by have := hk a' hA e he; omega) (fun e he => by have := hk b' hB e he; omega))
            clear hk g1 g2 g3 s1
            rw [hLX] at hSX hnX
            rw [hLY] at hSY hnY
            obtain ⟨la, hla⟩ : ∃ la, la = encL x a' := ⟨_, rfl⟩
            obtain ⟨lb, hlb⟩ : ∃ lb, lb = encL y b' := ⟨_, rfl⟩
            rw [hLX, hLY]
            rw [← hla, ← hlb] at HE ⊢
            rw [← hla] at hSX hnX
            rw [← hlb] at hSY hnY
            obtain ⟨M, hM⟩ : ∃ M, la.length = M := ⟨_, rfl⟩
            obtain ⟨N, hN⟩ : ∃ N, lb.length = N := ⟨_, rfl⟩
            rw [hM] at hSX hnX
            rw [hN] at hSY hnY
            rw [hM, hN]
            have hM31 : M ≤ 31 := by rw [← hM, hla, encL_len]; omega
            have hN31 : N ≤ 31 := by rw [← hN, hlb, encL_len]; omega
            clear hla hlb hLX hLY hnla hnlb cG cX' cY'
            obtain ⟨s0, hs0⟩ : ∃ s0 : Bool, s0 = ((M : Int) == (N : Int)) := ⟨_, rfl⟩
            have hs1 : s0 = decide (M = N) := by
              rw [hs0]
              by_cases h : M = N
              · simp [h]
              · simp [h]; omega
            have S1 := Lib.hid hs1
            clear hs1
            go_upto_region 7 with fail
            rw [← hs0]
            clear hs0
            go_wp2_with fail
            go_loopw [11, 12] (fun s i wr => ∃ k : Nat, k ≤ M ∧ i = .int .i64 k ∧ (∃ q : Bool, s = .bool q ∧ (q = true → M = N ∧ la.take k = lb.take k) ∧ (q = false → la ≠ lb)) ∧ Below wF.heap.size wF wr) (fun _ i _ => M - (intOf i).toNat)
            case atStart => exact ⟨0, by omega, rfl, ⟨s0, rfl, fun h => ⟨of_decide_eq_true (S1.out.symm.trans h), rfl⟩, fun h e => by rw [S1.out] at h; have h2 := of_decide_eq_false h; exact h2 (by rw [← hM, ← hN, e])⟩, Below.refl _ _⟩
            case round =>
              obtain ⟨k, hkM, rfl, ⟨q, rfl, hq1, hq2⟩, hbr⟩ := hrel
              have Q1 := Lib.hid hq1
              have Q2 := Lib.hid hq2
              have hbl : Below w.heap.size w wr := bF3.trans (hbr.mono bF3.size)
              clear hq1 hq2
              cases q
              · have hres := Lib.hid (show decide (la = lb) = false from decide_eq_false (Q2.out rfl))
                have HE2 := Lib.hid (show false = sameLog x y a' b' by rw [← HE.out, hres.out])
                clear HE hres
                have HE := HE2
                have cX9 := (BX.on hbr).cell
                have cY9 := (BY.on hbr).cell
                go_wp2_with fail
                refine (rlogsame_any x y _ _ ma mb _ _ _ _ _ _ a' b' _ (Rxr.below hbr) (Ryr.below hbr) (by omega)).mono ?_
                rintro e w5 ⟨rfl, hb5⟩
                rw [← HE.out]
                go_wp2_with fail
                refine (lawake_any _).mono ?_
                rintro e w6 ⟨rfl, hb6⟩
                go_wp2_with fail
                go_ret
                exact ⟨rfl, (by (have q_hb6 := Below.size hb6; (try simp at q_hb6); have q_hb5 := Below.size hb5; (try simp at q_hb5); have q_hbl := Below.size hbl; (try simp at q_hbl); repeat (first | exact Below.refl _ _ | (refine Below.trans ?_ (Below.mono hb6 (by first | omega | (simp; omega) | simp))) | (refine Below.trans ?_ (Below.mono hb5 (by first | omega | (simp; omega) | simp))) | (refine Below.trans ?_ (Below.mono hbl (by first | omega | (simp; omega) | simp))) | (refine Below.setCell ?_ (by first | omega | (simp; omega) | simp) _) | (refine Below.alloc ?_ (by first | omega | (simp; omega) | simp) _) | apply Below.drew | apply below_drewN)))⟩
              · obtain ⟨hMN, htk⟩ := Q1.out rfl
                have HTK := Lib.hid htk
                subst hMN
                clear htk Q1 Q2
                by_cases hlt : k < M
                · obtain ⟨b1, o1, rfl, hb1', hcX1⟩ := (hSX.below hbr).2 (by omega)
                  obtain ⟨b2, o2, rfl, hb2', hcY1⟩ := (hSY.below hbr).2 (by omega)
                  obtain ⟨l1, hl1⟩ : ∃ l1, la[k]? = some l1 := ⟨_, List.getElem?_eq_getElem (by omega)⟩
                  obtain ⟨l2, hl2⟩ : ∃ l2, lb[k]? = some l2 := ⟨_, List.getElem?_eq_getElem (by omega)⟩
                  obtain ⟨Ai1, ci1, hc1, hR1, _, _⟩ := hcX1 k l1 hl1
                  obtain ⟨Ai2, ci2, hc2, hR2, _, _⟩ := hcY1 k l2 hl2
                  have hb1 := hb1'
                  have hb2 := hb2'
                  have HL1 := Lib.hid hl1
                  have HL2 := Lib.hid hl2
                  have q1 : (k : Int) < M := by omega
                  clear hl1 hl2 hcX1 hcY1 hb1' hb2'
                  by_cases hL : l1 = l2
                  · have hst := Lib.hid (blks_step HTK.out HL1.out (by rw [hL]; exact HL2.out))
                    have hq : ((str l1).toList == (str l2).toList) = true := by rw [str_toL, str_toL, hL]; simp
                    clear hL
                    go_wp2_with fail
                    refine wp_flows [(fun y_ _ => y_ = .slice (some ⟨b1, o1, none⟩) M cX), (fun y_ _ => y_ = .int .i64 (k : Int)), (fun y_ _ => y_ = .pointer (some ⟨b1, o1 + k, none⟩)), (fun y_ _ => y_ = .slice Ai1 l1.length ci1), (fun y_ _ => y_ = .string (str l1)), (fun y_ _ => y_ = .slice (some ⟨b2, o2, none⟩) M cY), (fun y_ _ => y_ = .int .i64 (k : Int)), (fun y_ _ => y_ = .pointer (some ⟨b2, o2 + k, none⟩)), (fun y_ _ => y_ = .slice Ai2 l2.length ci2), (fun y_ _ => y_ = .string (str l2)), (fun y_ _ => y_ = .bool true), (fun y_ _ => y_ = .bool true)] (by kernel_rfl) ⟨Stab.eq _, Stab.eq _, Stab.eq _, Stab.eq _, Stab.eq _, Stab.eq _, Stab.eq _, Stab.eq _, Stab.eq _, Stab.eq _, Stab.eq _, Stab.eq _, trivial⟩ (by kernel_rfl) (by rfl) ?_ ?_
                    · intro kq hkq
                      match kq, hkq with
                      | 0, _ =>
                        refine StepOk.plain _ 64 rfl rfl rfl [(7, none)] (by kernel_rfl) (fun af wf hbw hf Kf hKf => ?_)
                        obtain ⟨g7, _⟩ := hf
                        have h7 : af.tmps[7]?.getD undef = .slice (some ⟨b1, o1, none⟩) M cX := g7
                        clear g7
                        go_simp
                        exact hKf _ _ (Below.refl _ _) rfl
                      | 1, _ =>
                        refine StepOk.plain _ 65 rfl rfl rfl [(12, none)] (by kernel_rfl) (fun af wf hbw hf Kf hKf => ?_)
                        obtain ⟨g12, _⟩ := hf
                        have h12 : af.tmps[12]?.getD undef = .int .i64 (k : Int) := g12
                        clear g12
                        go_simp
                        exact hKf _ _ (Below.refl _ _) rfl
                      | 2, _ =>
                        refine StepOk.plain _ 66 rfl rfl rfl [(64, some 0), (65, some 1)] (by kernel_rfl) (fun af wf hbw hf Kf hKf => ?_)
                        obtain ⟨g64, g65, _⟩ := hf
                        have h64 : af.tmps[64]?.getD undef = .slice (some ⟨b1, o1, none⟩) M cX := g64
                        have h65 : af.tmps[65]?.getD undef = .int .i64 (k : Int) := g65
                        clear g64 g65
                        go_simp
                        exact hKf _ _ (Below.refl _ _) rfl
                      | 3, _ =>
                        refine StepOk.plain _ 67 rfl rfl rfl [(66, some 2)] (by kernel_rfl) (fun af wf hbw hf Kf hKf => ?_)
                        obtain ⟨g66, _⟩ := hf
                        have h66 : af.tmps[66]?.getD undef = .pointer (some ⟨b1, o1 + k, none⟩) := g66
                        clear g66
                        have hcx := (Below.cell (p := ⟨b1, o1 + k, none⟩) hbw hb1).trans hc1
                        go_simp
                        exact hKf _ _ (Below.refl _ _) rfl
                      | 4, _ =>
                        refine StepOk.plain _ 68 rfl rfl rfl [(67, some 3)] (by kernel_rfl) (fun af wf hbw hf Kf hKf => ?_)
                        obtain ⟨g67, _⟩ := hf
                        have h67 : af.tmps[67]?.getD undef = .slice Ai1 l1.length ci1 := g67
                        clear g67
                        have hcv := conv ci1 _ (Rd.below (Rd.drew hR1) hbw)
                        go_simp
                        exact hKf _ _ (Below.refl _ _) rfl
                      | 5, _ =>
                        refine StepOk.plain _ 69 rfl rfl rfl [(9, none)] (by kernel_rfl) (fun af wf hbw hf Kf hKf => ?_)
                        obtain ⟨g9, _⟩ := hf
                        have h9 : af.tmps[9]?.getD undef = .slice (some ⟨b2, o2, none⟩) M cY := g9
                        clear g9
                        go_simp
                        exact hKf _ _ (Below.refl _ _) rfl
                      | 6, _ =>
                        refine StepOk.plain _ 70 rfl rfl rfl [(12, none)] (by kernel_rfl) (fun af wf hbw hf Kf hKf => ?_)
                        obtain ⟨g12, _⟩ := hf
                        have h12 : af.tmps[12]?.getD undef = .int .i64 (k : Int) := g12
                        clear g12
                        go_simp
                        exact hKf _ _ (Below.refl _ _) rfl
                      | 7, _ =>
                        refine StepOk.plain _ 71 rfl rfl rfl [(69, some 5), (70, some 6)] (by kernel_rfl) (fun af wf hbw hf Kf hKf => ?_)
                        obtain ⟨g69, g70, _⟩ := hf
                        have h69 : af.tmps[69]?.getD undef = .slice (some ⟨b2, o2, none⟩) M cY := g69
                        have h70 : af.tmps[70]?.getD undef = .int .i64 (k : Int) := g70
                        clear g69 g70
                        go_simp
                        exact hKf _ _ (Below.refl _ _) rfl
                      | 8, _ =>
                        refine StepOk.plain _ 72 rfl rfl rfl [(71, some 7)] (by kernel_rfl) (fun af wf hbw hf Kf hKf => ?_)
                        obtain ⟨g71, _⟩ := hf
                        have h71 : af.tmps[71]?.getD undef = .pointer (some ⟨b2, o2 + k, none⟩) := g71
                        clear g71
                        have hcx := (Below.cell (p := ⟨b2, o2 + k, none⟩) hbw hb2).trans hc2
                        go_simp
                        exact hKf _ _ (Below.refl _ _) rfl
                      | 9, _ =>
                        refine StepOk.plain _ 73 rfl rfl rfl [(72, some 8)] (by kernel_rfl) (fun af wf hbw hf Kf hKf => ?_)
                        obtain ⟨g72, _⟩ := hf
                        have h72 : af.tmps[72]?.getD undef = .slice Ai2 l2.length ci2 := g72
                        clear g72
                        have hcv := conv ci2 _ (Rd.below (Rd.drew hR2) hbw)
                        go_simp
                        exact hKf _ _ (Below.refl _ _) rfl
                      | 10, _ =>
                        refine StepOk.plain _ 74 rfl rfl rfl [(68, some 4), (73, some 9)] (by kernel_rfl) (fun af wf hbw hf Kf hKf => ?_)
                        obtain ⟨g68, g73, _⟩ := hf
                        have h68 : af.tmps[68]?.getD undef = .string (str l1) := g68
                        have h73 : af.tmps[73]?.getD undef = .string (str l2) := g73
                        clear g68 g73
                        have hqs := hq
                        go_simp
                        exact hKf _ _ (Below.refl _ _) rfl
                      | 11, _ =>
                        refine StepOk.plain _ 11 rfl rfl rfl [(74, some 10)] (by kernel_rfl) (fun af wf hbw hf Kf hKf => ?_)
                        obtain ⟨g74, _⟩ := hf
                        have h74 : af.tmps[74]?.getD undef = .bool true := g74
                        clear g74
                        go_simp
                        exact hKf _ _ (Below.refl _ _) rfl
                      | i + 12, h => exact absurd h (by show ¬ (i + 12 < 12); omega)
                    · intro af wF hbF hdF hsF hbaseF hfactF
                      obtain ⟨T, dsF⟩ := af
                      obtain rfl : dsF = _ := hdF
                      have e0 := hbaseF 0 (not_dst (by kernel_rfl))
                      simp only [List.getElem?_toArray, List.getElem?_cons_zero, Option.getD_some] at e0
                      have e1 := hbaseF 1 (not_dst (by kernel_rfl))
                      simp only [List.getElem?_toArray, List.getElem?_cons_zero, List.getElem?_cons_succ, Option.getD_some] at e1
                      have e2 := hbaseF 2 (not_dst (by kernel_rfl))
                      simp only [List.getElem?_toArray, List.getElem?_cons_zero, List.getElem?_cons_succ, Option.getD_some] at e2
                      have e3 := hbaseF 3 (not_dst (by kernel_rfl))
                      simp only [List.getElem?_toArray, List.getElem?_cons_zero, List.getElem?_cons_succ, Option.getD_some] at e3
                      have e4 := hbaseF 4 (not_dst (by kernel_rfl))
                      simp only [List.getElem?_toArray, List.getElem?_cons_zero, List.getElem?_cons_succ, Option.getD_some] at e4
                      have e5 := hbaseF 5 (not_dst (by kernel_rfl))
                      simp only [List.getElem?_toArray, List.getElem?_cons_zero, List.getElem?_cons_succ, Option.getD_some] at e5
                      have e6 := hbaseF 6 (not_dst (by kernel_rfl))
                      simp only [List.getElem?_toArray, List.getElem?_cons_zero, List.getElem?_cons_succ, Option.getD_some] at e6
                      have e7 := hbaseF 7 (not_dst (by kernel_rfl))
                      simp only [List.getElem?_toArray, List.getElem?_cons_zero, List.getElem?_cons_succ, Option.getD_some] at e7
                      have e8 := hbaseF 8 (not_dst (by kernel_rfl))
                      simp only [List.getElem?_toArray, List.getElem?_cons_zero, List.getElem?_cons_succ, Option.getD_some] at e8
                      have e9 := hbaseF 9 (not_dst (by kernel_rfl))
                      simp only [List.getElem?_toArray, List.getElem?_cons_zero, List.getElem?_cons_succ, Option.getD_some] at e9
                      have e10 := hbaseF 10 (not_dst (by kernel_rfl))
                      simp only [List.getElem?_toArray, List.getElem?_cons_zero, List.getElem?_cons_succ, Option.getD_some] at e10
                      have e12 := hbaseF 12 (not_dst (by kernel_rfl))
                      simp only [List.getElem?_toArray, List.getElem?_cons_zero, List.getElem?_cons_succ, Option.getD_some] at e12
                      have e13 := hbaseF 13 (not_dst (by kernel_rfl))
                      simp only [List.getElem?_toArray, List.getElem?_cons_zero, List.getElem?_cons_succ, Option.getD_some] at e13
                      have e14 := hbaseF 14 (not_dst (by kernel_rfl))
                      simp only [List.getElem?_toArray, List.getElem?_cons_zero, List.getElem?_cons_succ, Option.getD_some] at e14
                      have e15 := hbaseF 15 (not_dst (by kernel_rfl))
                      simp only [List.getElem?_toArray, List.getElem?_cons_zero, List.getElem?_cons_succ, Option.getD_some] at e15
                      have e16 := hbaseF 16 (not_dst (by kernel_rfl))
                      simp only [List.getElem?_toArray, List.getElem?_cons_zero, List.getElem?_cons_succ, Option.getD_some] at e16
                      have e17 := hbaseF 17 (not_dst (by kernel_rfl))
                      simp only [List.getElem?_toArray, List.getElem?_cons_zero, List.getElem?_cons_succ, Option.getD_some] at e17
                      have e18 := hbaseF 18 (not_dst (by kernel_rfl))
                      simp only [List.getElem?_toArray, List.getElem?_cons_zero, List.getElem?_cons_succ, Option.getD_some] at e18
                      have e19 := hbaseF 19 (not_dst (by kernel_rfl))
                      simp only [List.getElem?_toArray, List.getElem?_cons_zero, List.getElem?_cons_succ, Option.getD_some] at e19
                      have e20 := hbaseF 20 (not_dst (by kernel_rfl))
                      simp only [List.getElem?_toArray, List.getElem?_cons_zero, List.getElem?_cons_succ, Option.getD_some] at e20
                      have e21 := hbaseF 21 (not_dst (by kernel_rfl))
                      simp only [List.getElem?_toArray, List.getElem?_cons_zero, List.getElem?_cons_succ, Option.getD_some] at e21
                      have e22 := hbaseF 22 (not_dst (by kernel_rfl))
                      simp only [List.getElem?_toArray, List.getElem?_cons_zero, List.getElem?_cons_succ, Option.getD_some] at e22
                      have e23 := hbaseF 23 (not_dst (by kernel_rfl))
                      simp only [List.getElem?_toArray, List.getElem?_cons_zero, List.getElem?_cons_succ, Option.getD_some] at e23
                      have e24 := hbaseF 24 (not_dst (by kernel_rfl))
                      simp only [List.getElem?_toArray, List.getElem?_cons_zero, List.getElem?_cons_succ, Option.getD_some] at e24
                      have e25 := hbaseF 25 (not_dst (by kernel_rfl))
                      simp only [List.getElem?_toArray, List.getElem?_cons_zero, List.getElem?_cons_succ, Option.getD_some] at e25
                      have e26 := hbaseF 26 (not_dst (by kernel_rfl))
                      simp only [List.getElem?_toArray, List.getElem?_cons_zero, List.getElem?_cons_succ, Option.getD_some] at e26
                      have e27 := hbaseF 27 (not_dst (by kernel_rfl))
                      simp only [List.getElem?_toArray, List.getElem?_cons_zero, List.getElem?_cons_succ, Option.getD_some] at e27
                      have e28 := hbaseF 28 (not_dst (by kernel_rfl))
                      simp only [List.getElem?_toArray, List.getElem?_cons_zero, List.getElem?_cons_succ, Option.getD_some] at e28
                      have e29 := hbaseF 29 (not_dst (by kernel_rfl))
                      simp only [List.getElem?_toArray, List.getElem?_cons_zero, List.getElem?_cons_succ, Option.getD_some] at e29
                      have e30 := hbaseF 30 (not_dst (by kernel_rfl))
                      simp only [List.getElem?_toArray, List.getElem?_cons_zero, List.getElem?_cons_succ, Option.getD_some] at e30
                      have e31 := hbaseF 31 (not_dst (by kernel_rfl))
                      simp only [List.getElem?_toArray, List.getElem?_cons_zero, List.getElem?_cons_succ, Option.getD_some] at e31
                      have e32 := hbaseF 32 (not_dst (by kernel_rfl))
                      simp only [List.getElem?_toArray, List.getElem?_cons_zero, List.getElem?_cons_succ, Option.getD_some] at e32
                      have e33 := hbaseF 33 (not_dst (by kernel_rfl))
                      simp only [List.getElem?_toArray, List.getElem?_cons_zero, List.getElem?_cons_succ, Option.getD_some] at e33
                      have e34 := hbaseF 34 (not_dst (by kernel_rfl))
                      simp only [List.getElem?_toArray, List.getElem?_cons_zero, List.getElem?_cons_succ, Option.getD_some] at e34
                      have e35 := hbaseF 35 (not_dst (by kernel_rfl))
                      simp only [List.getElem?_toArray, List.getElem?_cons_zero, List.getElem?_cons_succ, Option.getD_some] at e35
                      have e36 := hbaseF 36 (not_dst (by kernel_rfl))
                      simp only [List.getElem?_toArray, List.getElem?_cons_zero, List.getElem?_cons_succ, Option.getD_some] at e36
                      have e37 := hbaseF 37 (not_dst (by kernel_rfl))
                      simp only [List.getElem?_toArray, List.getElem?_cons_zero, List.getElem?_cons_succ, Option.getD_some] at e37
                      have e38 := hbaseF 38 (not_dst (by kernel_rfl))
                      simp only [List.getElem?_toArray, List.getElem?_cons_zero, List.getElem?_cons_succ, Option.getD_some] at e38
                      have e39 := hbaseF 39 (not_dst (by kernel_rfl))
                      simp only [List.getElem?_toArray, List.getElem?_cons_zero, List.getElem?_cons_succ, Option.getD_some] at e39
                      have e40 := hbaseF 40 (not_dst (by kernel_rfl))
                      simp only [List.getElem?_toArray, List.getElem?_cons_zero, List.getElem?_cons_succ, Option.getD_some] at e40
                      have e41 := hbaseF 41 (not_dst (by kernel_rfl))
                      simp only [List.getElem?_toArray, List.getElem?_cons_zero, List.getElem?_cons_succ, Option.getD_some] at e41
                      have e42 := hbaseF 42 (not_dst (by kernel_rfl))
                      simp only [List.getElem?_toArray, List.getElem?_cons_zero, List.getElem?_cons_succ, Option.getD_some] at e42
                      have e43 := hbaseF 43 (not_dst (by kernel_rfl))
                      simp only [List.getElem?_toArray, List.getElem?_cons_zero, List.getElem?_cons_succ, Option.getD_some] at e43
                      have e44 := hbaseF 44 (not_dst (by kernel_rfl))
                      simp only [List.getElem?_toArray, List.getElem?_cons_zero, List.getElem?_cons_succ, Option.getD_some] at e44
                      have e45 := hbaseF 45 (not_dst (by kernel_rfl))
                      simp only [List.getElem?_toArray, List.getElem?_cons_zero, List.getElem?_cons_succ, Option.getD_some] at e45
                      have e46 := hbaseF 46 (not_dst (by kernel_rfl))
                      simp only [List.getElem?_toArray, List.getElem?_cons_zero, List.getElem?_cons_succ, Option.getD_some] at e46
                      have e47 := hbaseF 47 (not_dst (by kernel_rfl))
                      simp only [List.getElem?_toArray, List.getElem?_cons_zero, List.getElem?_cons_succ, Option.getD_some] at e47
                      have e48 := hbaseF 48 (not_dst (by kernel_rfl))
                      simp only [List.getElem?_toArray, List.getElem?_cons_zero, List.getElem?_cons_succ, Option.getD_some] at e48
                      have e49 := hbaseF 49 (not_dst (by kernel_rfl))
                      simp only [List.getElem?_toArray, List.getElem?_cons_zero, List.getElem?_cons_succ, Option.getD_some] at e49
                      have e50 := hbaseF 50 (not_dst (by kernel_rfl))
                      simp only [List.getElem?_toArray, List.getElem?_cons_zero, List.getElem?_cons_succ, Option.getD_some] at e50
                      have e51 := hbaseF 51 (not_dst (by kernel_rfl))
                      simp only [List.getElem?_toArray, List.getElem?_cons_zero, List.getElem?_cons_succ, Option.getD_some] at e51
                      have e52 := hbaseF 52 (not_dst (by kernel_rfl))
                      simp only [List.getElem?_toArray, List.getElem?_cons_zero, List.getElem?_cons_succ, Option.getD_some] at e52
                      have e53 := hbaseF 53 (not_dst (by kernel_rfl))
                      simp only [List.getElem?_toArray, List.getElem?_cons_zero, List.getElem?_cons_succ, Option.getD_some] at e53
                      have e54 := hbaseF 54 (not_dst (by kernel_rfl))
                      simp only [List.getElem?_toArray, List.getElem?_cons_zero, List.getElem?_cons_succ, Option.getD_some] at e54
                      have e55 := hbaseF 55 (not_dst (by kernel_rfl))
                      simp only [List.getElem?_toArray, List.getElem?_cons_zero, List.getElem?_cons_succ, Option.getD_some] at e55
                      have e56 := hbaseF 56 (not_dst (by kernel_rfl))
                      simp only [List.getElem?_toArray, List.getElem?_cons_zero, List.getElem?_cons_succ, Option.getD_some] at e56
                      have e57 := hbaseF 57 (not_dst (by kernel_rfl))
                      simp only [List.getElem?_toArray, List.getElem?_cons_zero, List.getElem?_cons_succ, Option.getD_some] at e57
                      have e58 := hbaseF 58 (not_dst (by kernel_rfl))
                      simp only [List.getElem?_toArray, List.getElem?_cons_zero, List.getElem?_cons_succ, Option.getD_some] at e58
                      have e59 := hbaseF 59 (not_dst (by kernel_rfl))
                      simp only [List.getElem?_toArray, List.getElem?_cons_zero, List.getElem?_cons_succ, Option.getD_some] at e59
                      have e60 := hbaseF 60 (not_dst (by kernel_rfl))
                      simp only [List.getElem?_toArray, List.getElem?_cons_zero, List.getElem?_cons_succ, Option.getD_some] at e60
                      have e61 := hbaseF 61 (not_dst (by kernel_rfl))
                      simp only [List.getElem?_toArray, List.getElem?_cons_zero, List.getElem?_cons_succ, Option.getD_some] at e61
                      have e62 := hbaseF 62 (not_dst (by kernel_rfl))
                      simp only [List.getElem?_toArray, List.getElem?_cons_zero, List.getElem?_cons_succ, Option.getD_some] at e62
                      have e63 := hbaseF 63 (not_dst (by kernel_rfl))
                      simp only [List.getElem?_toArray, List.getElem?_cons_zero, List.getElem?_cons_succ, Option.getD_some] at e63
                      have e75 := hbaseF 75 (not_dst (by kernel_rfl))
                      simp only [List.getElem?_toArray, List.getElem?_cons_zero, List.getElem?_cons_succ, Option.getD_some] at e75
                      have e76 := hbaseF 76 (not_dst (by kernel_rfl))
                      simp only [List.getElem?_toArray, List.getElem?_cons_zero, List.getElem?_cons_succ, Option.getD_some] at e76
                      have e77 := hbaseF 77 (not_dst (by kernel_rfl))
                      simp only [List.getElem?_toArray, List.getElem?_cons_zero, List.getElem?_cons_succ, Option.getD_some] at e77
                      have e78 := hbaseF 78 (not_dst (by kernel_rfl))
                      simp only [List.getElem?_toArray, List.getElem?_cons_zero, List.getElem?_cons_succ, Option.getD_some] at e78
                      have e79 := hbaseF 79 (not_dst (by kernel_rfl))
                      simp only [List.getElem?_toArray, List.getElem?_cons_zero, List.getElem?_cons_succ, Option.getD_some] at e79
                      have e80 := hbaseF 80 (not_dst (by kernel_rfl))
                      simp only [List.getElem?_toArray, List.getElem?_cons_zero, List.getElem?_cons_succ, Option.getD_some] at e80
                      have e81 := hbaseF 81 (not_dst (by kernel_rfl))
                      simp only [List.getElem?_toArray, List.getElem?_cons_zero, List.getElem?_cons_succ, Option.getD_some] at e81
                      have e82 := hbaseF 82 (not_dst (by kernel_rfl))
                      simp only [List.getElem?_toArray, List.getElem?_cons_zero, List.getElem?_cons_succ, Option.getD_some] at e82
                      have e11 := hfactF 11 11 (by decide) rfl
                      replace e11 : T[11]?.getD undef = .bool true := e11
                      clear hbaseF hfactF
                      have hT : T = #[T[0]?.getD undef, T[1]?.getD undef, T[2]?.getD undef, T[3]?.getD undef, T[4]?.getD undef, T[5]?.getD undef, T[6]?.getD undef, T[7]?.getD undef, T[8]?.getD undef, T[9]?.getD undef, T[10]?.getD undef, T[11]?.getD undef, T[12]?.getD undef, T[13]?.getD undef, T[14]?.getD undef, T[15]?.getD undef, T[16]?.getD undef, T[17]?.getD undef, T[18]?.getD undef, T[19]?.getD undef, T[20]?.getD undef, T[21]?.getD undef, T[22]?.getD undef, T[23]?.getD undef, T[24]?.getD undef, T[25]?.getD undef, T[26]?.getD undef, T[27]?.getD undef, T[28]?.getD undef, T[29]?.getD undef, T[30]?.getD undef, T[31]?.getD undef, T[32]?.getD undef, T[33]?.getD undef, T[34]?.getD undef, T[35]?.getD undef, T[36]?.getD undef, T[37]?.getD undef, T[38]?.getD undef, T[39]?.getD undef, T[40]?.getD undef, T[41]?.getD undef, T[42]?.getD undef, T[43]?.getD undef, T[44]?.getD undef, T[45]?.getD undef, T[46]?.getD undef, T[47]?.getD undef, T[48]?.getD undef, T[49]?.getD undef, T[50]?.getD undef, T[51]?.getD undef, T[52]?.getD undef, T[53]?.getD undef, T[54]?.getD undef, T[55]?.getD undef, T[56]?.getD undef, T[57]?.getD undef, T[58]?.getD undef, T[59]?.getD undef, T[60]?.getD undef, T[61]?.getD undef, T[62]?.getD undef, T[63]?.getD undef, T[64]?.getD undef, T[65]?.getD undef, T[66]?.getD undef, T[67]?.getD undef, T[68]?.getD undef, T[69]?.getD undef, T[70]?.getD undef, T[71]?.getD undef, T[72]?.getD undef, T[73]?.getD undef, T[74]?.getD undef, T[75]?.getD undef, T[76]?.getD undef, T[77]?.getD undef, T[78]?.getD undef, T[79]?.getD undef, T[80]?.getD undef, T[81]?.getD undef, T[82]?.getD undef] := arr_eq T 83 hsF
                      clear hsF
                      rw [e0] at hT; clear e0
                      rw [e1] at hT; clear e1
                      rw [e2] at hT; clear e2
                      rw [e3] at hT; clear e3
                      rw [e4] at hT; clear e4
                      rw [e5] at hT; clear e5
                      rw [e6] at hT; clear e6
                      rw [e7] at hT; clear e7
                      rw [e8] at hT; clear e8
                      rw [e9] at hT; clear e9
                      rw [e10] at hT; clear e10
                      rw [e11] at hT; clear e11
                      rw [e12] at hT; clear e12
                      rw [e13] at hT; clear e13
                      rw [e14] at hT; clear e14
                      rw [e15] at hT; clear e15
                      rw [e16] at hT; clear e16
                      rw [e17] at hT; clear e17
                      rw [e18] at hT; clear e18
                      rw [e19] at hT; clear e19
                      rw [e20] at hT; clear e20
                      rw [e21] at hT; clear e21
                      rw [e22] at hT; clear e22
                      rw [e23] at hT; clear e23
                      rw [e24] at hT; clear e24
                      rw [e25] at hT; clear e25
                      rw [e26] at hT; clear e26
                      rw [e27] at hT; clear e27
                      rw [e28] at hT; clear e28
                      rw [e29] at hT; clear e29
                      rw [e30] at hT; clear e30
                      rw [e31] at hT; clear e31
                      rw [e32] at hT; clear e32
                      rw [e33] at hT; clear e33
                      rw [e34] at hT; clear e34
                      rw [e35] at hT; clear e35
                      rw [e36] at hT; clear e36
                      rw [e37] at hT; clear e37
                      rw [e38] at hT; clear e38
                      rw [e39] at hT; clear e39
                      rw [e40] at hT; clear e40
                      rw [e41] at hT; clear e41
                      rw [e42] at hT; clear e42
                      rw [e43] at hT; clear e43
                      rw [e44] at hT; clear e44
                      rw [e45] at hT; clear e45
                      rw [e46] at hT; clear e46
                      rw [e47] at hT; clear e47
                      rw [e48] at hT; clear e48
                      rw [e49] at hT; clear e49
                      rw [e50] at hT; clear e50
                      rw [e51] at hT; clear e51
                      rw [e52] at hT; clear e52
                      rw [e53] at hT; clear e53
                      rw [e54] at hT; clear e54
                      rw [e55] at hT; clear e55
                      rw [e56] at hT; clear e56
                      rw [e57] at hT; clear e57
                      rw [e58] at hT; clear e58
                      rw [e59] at hT; clear e59
                      rw [e60] at hT; clear e60
                      rw [e61] at hT; clear e61
                      rw [e62] at hT; clear e62
                      rw [e63] at hT; clear e63
                      generalize T[64]?.getD undef = u64 at hT
                      generalize T[65]?.getD undef = u65 at hT
                      generalize T[66]?.getD undef = u66 at hT
                      generalize T[67]?.getD undef = u67 at hT
                      generalize T[68]?.getD undef = u68 at hT
                      generalize T[69]?.getD undef = u69 at hT
                      generalize T[70]?.getD undef = u70 at hT
                      generalize T[71]?.getD undef = u71 at hT
                      generalize T[72]?.getD undef = u72 at hT
                      generalize T[73]?.getD undef = u73 at hT
                      generalize T[74]?.getD undef = u74 at hT
                      rw [e75] at hT; clear e75
                      rw [e76] at hT; clear e76
                      rw [e77] at hT; clear e77
                      rw [e78] at hT; clear e78
                      rw [e79] at hT; clear e79
                      rw [e80] at hT; clear e80
                      rw [e81] at hT; clear e81
                      rw [e82] at hT; clear e82
                      subst hT
                      go_wp2_with fail
                      go_roundw
                      case rel => exact ⟨k + 1, by omega, by go_num, ⟨true, rfl, fun _ => ⟨by first | rfl | trivial, hst.out⟩, (fun h => by cases h)⟩, (by (have q_hbF := Below.size hbF; (try simp at q_hbF); have q_hbr := Below.size hbr; (try simp at q_hbr); repeat (first | exact Below.refl _ _ | (refine Below.trans ?_ (Below.mono hbF (by first | omega | (simp; omega) | simp))) | (refine Below.trans ?_ (Below.mono hbr (by first | omega | (simp; omega) | simp))) | (refine Below.setCell ?_ (by first | omega | (simp; omega) | simp) _) | (refine Below.alloc ?_ (by first | omega | (simp; omega) | simp) _) | apply Below.drew | apply below_drewN)))⟩
                      case measure => simp [intOf] <;> omega
                  · have hne := Lib.hid (blks_ne HL1.out HL2.out hL)
                    have hq : ((str l1).toList == (str l2).toList) = false := by rw [str_toL, str_toL]; simp [hL]
                    clear hL
                    go_wp2_with fail
                    refine wp_flows [(fun y_ _ => y_ = .slice (some ⟨b1, o1, none⟩) M cX), (fun y_ _ => y_ = .int .i64 (k : Int)), (fun y_ _ => y_ = .pointer (some ⟨b1, o1 + k, none⟩)), (fun y_ _ => y_ = .slice Ai1 l1.length ci1), (fun y_ _ => y_ = .string (str l1)), (fun y_ _ => y_ = .slice (some ⟨b2, o2, none⟩) M cY), (fun y_ _ => y_ = .int .i64 (k : Int)), (fun y_ _ => y_ = .pointer (some ⟨b2, o2 + k, none⟩)), (fun y_ _ => y_ = .slice Ai2 l2.length ci2), (fun y_ _ => y_ = .string (str l2)), (fun y_ _ => y_ = .bool false), (fun y_ _ => y_ = .bool false)] (by kernel_rfl) ⟨Stab.eq _, Stab.eq _, Stab.eq _, Stab.eq _, Stab.eq _, Stab.eq _, Stab.eq _, Stab.eq _, Stab.eq _, Stab.eq _, Stab.eq _, Stab.eq _, trivial⟩ (by kernel_rfl) (by rfl) ?_ ?_
                    · intro kq hkq
                      match kq, hkq with
                      | 0, _ =>
                        refine StepOk.plain _ 64 rfl rfl rfl [(7, none)] (by kernel_rfl) (fun af wf hbw hf Kf hKf => ?_)
                        obtain ⟨g7, _⟩ := hf
                        have h7 : af.tmps[7]?.getD undef = .slice (some ⟨b1, o1, none⟩) M cX := g7
                        clear g7
                        go_simp
                        exact hKf _ _ (Below.refl _ _) rfl
                      | 1, _ =>
                        refine StepOk.plain _ 65 rfl rfl rfl [(12, none)] (by kernel_rfl) (fun af wf hbw hf Kf hKf => ?_)
                        obtain ⟨g12, _⟩ := hf
                        have h12 : af.tmps[12]?.getD undef = .int .i64 (k : Int) := g12
                        clear g12
                        go_simp
                        exact hKf _ _ (Below.refl _ _) rfl
                      | 2, _ =>
                        refine StepOk.plain _ 66 rfl rfl rfl [(64, some 0), (65, some 1)] (by kernel_rfl) (fun af wf hbw hf Kf hKf => ?_)
                        obtain ⟨g64, g65, _⟩ := hf
                        have h64 : af.tmps[64]?.getD undef = .slice (some ⟨b1, o1, none⟩) M cX := g64
                        have h65 : af.tmps[65]?.getD undef = .int .i64 (k : Int) := g65
                        clear g64 g65
                        go_simp
                        exact hKf _ _ (Below.refl _ _) rfl
                      | 3, _ =>
                        refine StepOk.plain _ 67 rfl rfl rfl [(66, some 2)] (by kernel_rfl) (fun af wf hbw hf Kf hKf => ?_)
                        obtain ⟨g66, _⟩ := hf
                        have h66 : af.tmps[66]?.getD undef = .pointer (some ⟨b1, o1 + k, none⟩) := g66
                        clear g66
                        have hcx := (Below.cell (p := ⟨b1, o1 + k, none⟩) hbw hb1).trans hc1
                        go_simp
                        exact hKf _ _ (Below.refl _ _) rfl
                      | 4, _ =>
                        refine StepOk.plain _ 68 rfl rfl rfl [(67, some 3)] (by kernel_rfl) (fun af wf hbw hf Kf hKf => ?_)
                        obtain ⟨g67, _⟩ := hf
                        have h67 : af.tmps[67]?.getD undef = .slice Ai1 l1.length ci1 := g67
                        clear g67
                        have hcv := conv ci1 _ (Rd.below (Rd.drew hR1) hbw)
                        go_simp
                        exact hKf _ _ (Below.refl _ _) rfl
                      | 5, _ =>
                        refine StepOk.plain _ 69 rfl rfl rfl [(9, none)] (by kernel_rfl) (fun af wf hbw hf Kf hKf => ?_)
                        obtain ⟨g9, _⟩ := hf
                        have h9 : af.tmps[9]?.getD undef = .slice (some ⟨b2, o2, none⟩) M cY := g9
                        clear g9
                        go_simp
                        exact hKf _ _ (Below.refl _ _) rfl
                      | 6, _ =>
                        refine StepOk.plain _ 70 rfl rfl rfl [(12, none)] (by kernel_rfl) (fun af wf hbw hf Kf hKf => ?_)
                        obtain ⟨g12, _⟩ := hf
                        have h12 : af.tmps[12]?.getD undef = .int .i64 (k : Int) := g12
                        clear g12
                        go_simp
                        exact hKf _ _ (Below.refl _ _) rfl
                      | 7, _ =>
                        refine StepOk.plain _ 71 rfl rfl rfl [(69, some 5), (70, some 6)] (by kernel_rfl) (fun af wf hbw hf Kf hKf => ?_)
                        obtain ⟨g69, g70, _⟩ := hf
                        have h69 : af.tmps[69]?.getD undef = .slice (some ⟨b2, o2, none⟩) M cY := g69
                        have h70 : af.tmps[70]?.getD undef = .int .i64 (k : Int) := g70
                        clear g69 g70
                        go_simp
                        exact hKf _ _ (Below.refl _ _) rfl
                      | 8, _ =>
                        refine StepOk.plain _ 72 rfl rfl rfl [(71, some 7)] (by kernel_rfl) (fun af wf hbw hf Kf hKf => ?_)
                        obtain ⟨g71, _⟩ := hf
                        have h71 : af.tmps[71]?.getD undef = .pointer (some ⟨b2, o2 + k, none⟩) := g71
                        clear g71
                        have hcx := (Below.cell (p := ⟨b2, o2 + k, none⟩) hbw hb2).trans hc2
                        go_simp
                        exact hKf _ _ (Below.refl _ _) rfl
                      | 9, _ =>
                        refine StepOk.plain _ 73 rfl rfl rfl [(72, some 8)] (by kernel_rfl) (fun af wf hbw hf Kf hKf => ?_)
                        obtain ⟨g72, _⟩ := hf
                        have h72 : af.tmps[72]?.getD undef = .slice Ai2 l2.length ci2 := g72
                        clear g72
                        have hcv := conv ci2 _ (Rd.below (Rd.drew hR2) hbw)
                        go_simp
                        exact hKf _ _ (Below.refl _ _) rfl
                      | 10, _ =>
                        refine StepOk.plain _ 74 rfl rfl rfl [(68, some 4), (73, some 9)] (by kernel_rfl) (fun af wf hbw hf Kf hKf => ?_)
                        obtain ⟨g68, g73, _⟩ := hf
                        have h68 : af.tmps[68]?.getD undef = .string (str l1) := g68
                        have h73 : af.tmps[73]?.getD undef = .string (str l2) := g73
                        clear g68 g73
                        have hqs := hq
                        go_simp
                        exact hKf _ _ (Below.refl _ _) rfl
                      | 11, _ =>
                        refine StepOk.plain _ 11 rfl rfl rfl [(74, some 10)] (by kernel_rfl) (fun af wf hbw hf Kf hKf => ?_)
                        obtain ⟨g74, _⟩ := hf
                        have h74 : af.tmps[74]?.getD undef = .bool false := g74
                        clear g74
                        go_simp
                        exact hKf _ _ (Below.refl _ _) rfl
                      | i + 12, h => exact absurd h (by show ¬ (i + 12 < 12); omega)
                    · intro af wF hbF hdF hsF hbaseF hfactF
                      obtain ⟨T, dsF⟩ := af
                      obtain rfl : dsF = _ := hdF
                      have e0 := hbaseF 0 (not_dst (by kernel_rfl))
                      simp only [List.getElem?_toArray, List.getElem?_cons_zero, Option.getD_some] at e0
                      have e1 := hbaseF 1 (not_dst (by kernel_rfl))
                      simp only [List.getElem?_toArray, List.getElem?_cons_zero, List.getElem?_cons_succ, Option.getD_some] at e1
                      have e2 := hbaseF 2 (not_dst (by kernel_rfl))
                      simp only [List.getElem?_toArray, List.getElem?_cons_zero, List.getElem?_cons_succ, Option.getD_some] at e2
                      have e3 := hbaseF 3 (not_dst (by kernel_rfl))
                      simp only [List.getElem?_toArray, List.getElem?_cons_zero, List.getElem?_cons_succ, Option.getD_some] at e3
                      have e4 := hbaseF 4 (not_dst (by kernel_rfl))
                      simp only [List.getElem?_toArray, List.getElem?_cons_zero, List.getElem?_cons_succ, Option.getD_some] at e4
                      have e5 := hbaseF 5 (not_dst (by kernel_rfl))
                      simp only [List.getElem?_toArray, List.getElem?_cons_zero, List.getElem?_cons_succ, Option.getD_some] at e5
                      have e6 := hbaseF 6 (not_dst (by kernel_rfl))
                      simp only [List.getElem?_toArray, List.getElem?_cons_zero, List.getElem?_cons_succ, Option.getD_some] at e6
                      have e7 := hbaseF 7 (not_dst (by kernel_rfl))
                      simp only [List.getElem?_toArray, List.getElem?_cons_zero, List.getElem?_cons_succ, Option.getD_some] at e7
                      have e8 := hbaseF 8 (not_dst (by kernel_rfl))
                      simp only [List.getElem?_toArray, List.getElem?_cons_zero, List.getElem?_cons_succ, Option.getD_some] at e8
                      have e9 := hbaseF 9 (not_dst (by kernel_rfl))
                      simp only [List.getElem?_toArray, List.getElem?_cons_zero, List.getElem?_cons_succ, Option.getD_some] at e9
                      have e10 := hbaseF 10 (not_dst (by kernel_rfl))
                      simp only [List.getElem?_toArray, List.getElem?_cons_zero, List.getElem?_cons_succ, Option.getD_some] at e10
                      have e12 := hbaseF 12 (not_dst (by kernel_rfl))
                      simp only [List.getElem?_toArray, List.getElem?_cons_zero, List.getElem?_cons_succ, Option.getD_some] at e12
                      have e13 := hbaseF 13 (not_dst (by kernel_rfl))
                      simp only [List.getElem?_toArray, List.getElem?_cons_zero, List.getElem?_cons_succ, Option.getD_some] at e13
                      have e14 := hbaseF 14 (not_dst (by kernel_rfl))
                      simp only [List.getElem?_toArray, List.getElem?_cons_zero, List.getElem?_cons_succ, Option.getD_some] at e14
                      have e15 := hbaseF 15 (not_dst (by kernel_rfl))
                      simp only [List.getElem?_toArray, List.getElem?_cons_zero, List.getElem?_cons_succ, Option.getD_some] at e15
                      have e16 := hbaseF 16 (not_dst (by kernel_rfl))
                      simp only [List.getElem?_toArray, List.getElem?_cons_zero, List.getElem?_cons_succ, Option.getD_some] at e16
                      have e17 := hbaseF 17 (not_dst (by kernel_rfl))
                      simp only [List.getElem?_toArray, List.getElem?_cons_zero, List.getElem?_cons_succ, Option.getD_some] at e17
                      have e18 := hbaseF 18 (not_dst (by kernel_rfl))
                      simp only [List.getElem?_toArray, List.getElem?_cons_zero, List.getElem?_cons_succ, Option.getD_some] at e18
                      have e19 := hbaseF 19 (not_dst (by kernel_rfl))
                      simp only [List.getElem?_toArray, List.getElem?_cons_zero, List.getElem?_cons_succ, Option.getD_some] at e19
                      have e20 := hbaseF 20 (not_dst (by kernel_rfl))
                      simp only [List.getElem?_toArray, List.getElem?_cons_zero, List.getElem?_cons_succ, Option.getD_some] at e20
                      have e21 := hbaseF 21 (not_dst (by kernel_rfl))
                      simp only [List.getElem?_toArray, List.getElem?_cons_zero, List.getElem?_cons_succ, Option.getD_some] at e21
                      have e22 := hbaseF 22 (not_dst (by kernel_rfl))
                      simp only [List.getElem?_toArray, List.getElem?_cons_zero, List.getElem?_cons_succ, Option.getD_some] at e22
                      have e23 := hbaseF 23 (not_dst (by kernel_rfl))
                      simp only [List.getElem?_toArray, List.getElem?_cons_zero, List.getElem?_cons_succ, Option.getD_some] at e23
                      have e24 := hbaseF 24 (not_dst (by kernel_rfl))
                      simp only [List.getElem?_toArray, List.getElem?_cons_zero, List.getElem?_cons_succ, Option.getD_some] at e24
                      have e25 := hbaseF 25 (not_dst (by kernel_rfl))
                      simp only [List.getElem?_toArray, List.getElem?_cons_zero, List.getElem?_cons_succ, Option.getD_some] at e25
                      have e26 := hbaseF 26 (not_dst (by kernel_rfl))
                      simp only [List.getElem?_toArray, List.getElem?_cons_zero, List.getElem?_cons_succ, Option.getD_some] at e26
                      have e27 := hbaseF 27 (not_dst (by kernel_rfl))
                      simp only [List.getElem?_toArray, List.getElem?_cons_zero, List.getElem?_cons_succ, Option.getD_some] at e27
                      have e28 := hbaseF 28 (not_dst (by kernel_rfl))
                      simp only [List.getElem?_toArray, List.getElem?_cons_zero, List.getElem?_cons_succ, Option.getD_some] at e28
                      have e29 := hbaseF 29 (not_dst (by kernel_rfl))
                      simp only [List.getElem?_toArray, List.getElem?_cons_zero, List.getElem?_cons_succ, Option.getD_some] at e29
                      have e30 := hbaseF 30 (not_dst (by kernel_rfl))
                      simp only [List.getElem?_toArray, List.getElem?_cons_zero, List.getElem?_cons_succ, Option.getD_some] at e30
                      have e31 := hbaseF 31 (not_dst (by kernel_rfl))
                      simp only [List.getElem?_toArray, List.getElem?_cons_zero, List.getElem?_cons_succ, Option.getD_some] at e31
                      have e32 := hbaseF 32 (not_dst (by kernel_rfl))
                      simp only [List.getElem?_toArray, List.getElem?_cons_zero, List.getElem?_cons_succ, Option.getD_some] at e32
                      have e33 := hbaseF 33 (not_dst (by kernel_rfl))
                      simp only [List.getElem?_toArray, List.getElem?_cons_zero, List.getElem?_cons_succ, Option.getD_some] at e33
                      have e34 := hbaseF 34 (not_dst (by kernel_rfl))
                      simp only [List.getElem?_toArray, List.getElem?_cons_zero, List.getElem?_cons_succ, Option.getD_some] at e34
                      have e35 := hbaseF 35 (not_dst (by kernel_rfl))
                      simp only [List.getElem?_toArray, List.getElem?_cons_zero, List.getElem?_cons_succ, Option.getD_some] at e35
                      have e36 := hbaseF 36 (not_dst (by kernel_rfl))
                      simp only [List.getElem?_toArray, List.getElem?_cons_zero, List.getElem?_cons_succ, Option.getD_some] at e36
                      have e37 := hbaseF 37 (not_dst (by kernel_rfl))
                      simp only [List.getElem?_toArray, List.getElem?_cons_zero, List.getElem?_cons_succ, Option.getD_some] at e37
                      have e38 := hbaseF 38 (not_dst (by kernel_rfl))
                      simp only [List.getElem?_toArray, List.getElem?_cons_zero, List.getElem?_cons_succ, Option.getD_some] at e38
                      have e39 := hbaseF 39 (not_dst (by kernel_rfl))
                      simp only [List.getElem?_toArray, List.getElem?_cons_zero, List.getElem?_cons_succ, Option.getD_some] at e39
                      have e40 := hbaseF 40 (not_dst (by kernel_rfl))
                      simp only [List.getElem?_toArray, List.getElem?_cons_zero, List.getElem?_cons_succ, Option.getD_some] at e40
                      have e41 := hbaseF 41 (not_dst (by kernel_rfl))
                      simp only [List.getElem?_toArray, List.getElem?_cons_zero, List.getElem?_cons_succ, Option.getD_some] at e41
                      have e42 := hbaseF 42 (not_dst (by kernel_rfl))
                      simp only [List.getElem?_toArray, List.getElem?_cons_zero, List.getElem?_cons_succ, Option.getD_some] at e42
                      have e43 := hbaseF 43 (not_dst (by kernel_rfl))
                      simp only [List.getElem?_toArray, List.getElem?_cons_zero, List.getElem?_cons_succ, Option.getD_some] at e43
                      have e44 := hbaseF 44 (not_dst (by kernel_rfl))
                      simp only [List.getElem?_toArray, List.getElem?_cons_zero, List.getElem?_cons_succ, Option.getD_some] at e44
                      have e45 := hbaseF 45 (not_dst (by kernel_rfl))
                      simp only [List.getElem?_toArray, List.getElem?_cons_zero, List.getElem?_cons_succ, Option.getD_some] at e45
                      have e46 := hbaseF 46 (not_dst (by kernel_rfl))
                      simp only [List.getElem?_toArray, List.getElem?_cons_zero, List.getElem?_cons_succ, Option.getD_some] at e46
                      have e47 := hbaseF 47 (not_dst (by kernel_rfl))
                      simp only [List.getElem?_toArray, List.getElem?_cons_zero, List.getElem?_cons_succ, Option.getD_some] at e47
                      have e48 := hbaseF 48 (not_dst (by kernel_rfl))
                      simp only [List.getElem?_toArray, List.getElem?_cons_zero, List.getElem?_cons_succ, Option.getD_some] at e48
                      have e49 := hbaseF 49 (not_dst (by kernel_rfl))
                      simp only [List.getElem?_toArray, List.getElem?_cons_zero, List.getElem?_cons_succ, Option.getD_some] at e49
                      have e50 := hbaseF 50 (not_dst (by kernel_rfl))
                      simp only [List.getElem?_toArray, List.getElem?_cons_zero, List.getElem?_cons_succ, Option.getD_some] at e50
                      have e51 := hbaseF 51 (not_dst (by kernel_rfl))
                      simp only [List.getElem?_toArray, List.getElem?_cons_zero, List.getElem?_cons_succ, Option.getD_some] at e51
                      have e52 := hbaseF 52 (not_dst (by kernel_rfl))
                      simp only [List.getElem?_toArray, List.getElem?_cons_zero, List.getElem?_cons_succ, Option.getD_some] at e52
                      have e53 := hbaseF 53 (not_dst (by kernel_rfl))
                      simp only [List.getElem?_toArray, List.getElem?_cons_zero, List.getElem?_cons_succ, Option.getD_some] at e53
                      have e54 := hbaseF 54 (not_dst (by kernel_rfl))
                      simp only [List.getElem?_toArray, List.getElem?_cons_zero, List.getElem?_cons_succ, Option.getD_some] at e54
                      have e55 := hbaseF 55 (not_dst (by kernel_rfl))
                      simp only [List.getElem?_toArray, List.getElem?_cons_zero, List.getElem?_cons_succ, Option.getD_some] at e55
                      have e56 := hbaseF 56 (not_dst (by kernel_rfl))
                      simp only [List.getElem?_toArray, List.getElem?_cons_zero, List.getElem?_cons_succ, Option.getD_some] at e56
                      have e57 := hbaseF 57 (not_dst (by kernel_rfl))
                      simp only [List.getElem?_toArray, List.getElem?_cons_zero, List.getElem?_cons_succ, Option.getD_some] at e57
                      have e58 := hbaseF 58 (not_dst (by kernel_rfl))
                      simp only [List.getElem?_toArray, List.getElem?_cons_zero, List.getElem?_cons_succ, Option.getD_some] at e58
                      have e59 := hbaseF 59 (not_dst (by kernel_rfl))
                      simp only [List.getElem?_toArray, List.getElem?_cons_zero, List.getElem?_cons_succ, Option.getD_some] at e59
                      have e60 := hbaseF 60 (not_dst (by kernel_rfl))
                      simp only [List.getElem?_toArray, List.getElem?_cons_zero, List.getElem?_cons_succ, Option.getD_some] at e60
                      have e61 := hbaseF 61 (not_dst (by kernel_rfl))
                      simp only [List.getElem?_toArray, List.getElem?_cons_zero, List.getElem?_cons_succ, Option.getD_some] at e61
                      have e62 := hbaseF 62 (not_dst (by kernel_rfl))
                      simp only [List.getElem?_toArray, List.getElem?_cons_zero, List.getElem?_cons_succ, Option.getD_some] at e62
                      have e63 := hbaseF 63 (not_dst (by kernel_rfl))
                      simp only [List.getElem?_toArray, List.getElem?_cons_zero, List.getElem?_cons_succ, Option.getD_some] at e63
                      have e75 := hbaseF 75 (not_dst (by kernel_rfl))
                      simp only [List.getElem?_toArray, List.getElem?_cons_zero, List.getElem?_cons_succ, Option.getD_some] at e75
                      have e76 := hbaseF 76 (not_dst (by kernel_rfl))
                      simp only [List.getElem?_toArray, List.getElem?_cons_zero, List.getElem?_cons_succ, Option.getD_some] at e76
                      have e77 := hbaseF 77 (not_dst (by kernel_rfl))
                      simp only [List.getElem?_toArray, List.getElem?_cons_zero, List.getElem?_cons_succ, Option.getD_some] at e77
                      have e78 := hbaseF 78 (not_dst (by kernel_rfl))
                      simp only [List.getElem?_toArray, List.getElem?_cons_zero, List.getElem?_cons_succ, Option.getD_some] at e78
                      have e79 := hbaseF 79 (not_dst (by kernel_rfl))
                      simp only [List.getElem?_toArray, List.getElem?_cons_zero, List.getElem?_cons_succ, Option.getD_some] at e79
                      have e80 := hbaseF 80 (not_dst (by kernel_rfl))
                      simp only [List.getElem?_toArray, List.getElem?_cons_zero, List.getElem?_cons_succ, Option.getD_some] at e80
                      have e81 := hbaseF 81 (not_dst (by kernel_rfl))
                      simp only [List.getElem?_toArray, List.getElem?_cons_zero, List.getElem?_cons_succ, Option.getD_some] at e81
                      have e82 := hbaseF 82 (not_dst (by kernel_rfl))
                      simp only [List.getElem?_toArray, List.getElem?_cons_zero, List.getElem?_cons_succ, Option.getD_some] at e82
                      have e11 := hfactF 11 11 (by decide) rfl
                      replace e11 : T[11]?.getD undef = .bool false := e11
                      clear hbaseF hfactF
                      have hT : T = #[T[0]?.getD undef, T[1]?.getD undef, T[2]?.getD undef, T[3]?.getD undef, T[4]?.getD undef, T[5]?.getD undef, T[6]?.getD undef, T[7]?.getD undef, T[8]?.getD undef, T[9]?.getD undef, T[10]?.getD undef, T[11]?.getD undef, T[12]?.getD undef, T[13]?.getD undef, T[14]?.getD undef, T[15]?.getD undef, T[16]?.getD undef, T[17]?.getD undef, T[18]?.getD undef, T[19]?.getD undef, T[20]?.getD undef, T[21]?.getD undef, T[22]?.getD undef, T[23]?.getD undef, T[24]?.getD undef, T[25]?.getD undef, T[26]?.getD undef, T[27]?.getD undef, T[28]?.getD undef, T[29]?.getD undef, T[30]?.getD undef, T[31]?.getD undef, T[32]?.getD undef, T[33]?.getD undef, T[34]?.getD undef, T[35]?.getD undef, T[36]?.getD undef, T[37]?.getD undef, T[38]?.getD undef, T[39]?.getD undef, T[40]?.getD undef, T[41]?.getD undef, T[42]?.getD undef, T[43]?.getD undef, T[44]?.getD undef, T[45]?.getD undef, T[46]?.getD undef, T[47]?.getD undef, T[48]?.getD undef, T[49]?.getD undef, T[50]?.getD undef, T[51]?.getD undef, T[52]?.getD undef, T[53]?.getD undef, T[54]?.getD undef, T[55]?.getD undef, T[56]?.getD undef, T[57]?.getD undef, T[58]?.getD undef, T[59]?.getD undef, T[60]?.getD undef, T[61]?.getD undef, T[62]?.getD undef, T[63]?.getD undef, T[64]?.getD undef, T[65]?.getD undef, T[66]?.getD undef, T[67]?.getD undef, T[68]?.getD undef, T[69]?.getD undef, T[70]?.getD undef, T[71]?.getD undef, T[72]?.getD undef, T[73]?.getD undef, T[74]?.getD undef, T[75]?.getD undef, T[76]?.getD undef, T[77]?.getD undef, T[78]?.getD undef, T[79]?.getD undef, T[80]?.getD undef, T[81]?.getD undef, T[82]?.getD undef] := arr_eq T 83 hsF
                      clear hsF
                      rw [e0] at hT; clear e0
                      rw [e1] at hT; clear e1
                      rw [e2] at hT; clear e2
                      rw [e3] at hT; clear e3
                      rw [e4] at hT; clear e4
                      rw [e5] at hT; clear e5
                      rw [e6] at hT; clear e6
                      rw [e7] at hT; clear e7
                      rw [e8] at hT; clear e8
                      rw [e9] at hT; clear e9
                      rw [e10] at hT; clear e10
                      rw [e11] at hT; clear e11
                      rw [e12] at hT; clear e12
                      rw [e13] at hT; clear e13
                      rw [e14] at hT; clear e14
                      rw [e15] at hT; clear e15
                      rw [e16] at hT; clear e16
                      rw [e17] at hT; clear e17
                      rw [e18] at hT; clear e18
                      rw [e19] at hT; clear e19
                      rw [e20] at hT; clear e20
                      rw [e21] at hT; clear e21
                      rw [e22] at hT; clear e22
                      rw [e23] at hT; clear e23
                      rw [e24] at hT; clear e24
                      rw [e25] at hT; clear e25
                      rw [e26] at hT; clear e26
                      rw [e27] at hT; clear e27
                      rw [e28] at hT; clear e28
                      rw [e29] at hT; clear e29
                      rw [e30] at hT; clear e30
                      rw [e31] at hT; clear e31
                      rw [e32] at hT; clear e32
                      rw [e33] at hT; clear e33
                      rw [e34] at hT; clear e34
                      rw [e35] at hT; clear e35
                      rw [e36] at hT; clear e36
                      rw [e37] at hT; clear e37
                      rw [e38] at hT; clear e38
                      rw [e39] at hT; clear e39
                      rw [e40] at hT; clear e40
                      rw [e41] at hT; clear e41
                      rw [e42] at hT; clear e42
                      rw [e43] at hT; clear e43
                      rw [e44] at hT; clear e44
                      rw [e45] at hT; clear e45
                      rw [e46] at hT; clear e46
                      rw [e47] at hT; clear e47
                      rw [e48] at hT; clear e48
                      rw [e49] at hT; clear e49
                      rw [e50] at hT; clear e50
                      rw [e51] at hT; clear e51
                      rw [e52] at hT; clear e52
                      rw [e53] at hT; clear e53
                      rw [e54] at hT; clear e54
                      rw [e55] at hT; clear e55
                      rw [e56] at hT; clear e56
                      rw [e57] at hT; clear e57
                      rw [e58] at hT; clear e58
                      rw [e59] at hT; clear e59
                      rw [e60] at hT; clear e60
                      rw [e61] at hT; clear e61
                      rw [e62] at hT; clear e62
                      rw [e63] at hT; clear e63
                      generalize T[64]?.getD undef = u64 at hT
                      generalize T[65]?.getD undef = u65 at hT
                      generalize T[66]?.getD undef = u66 at hT
                      generalize T[67]?.getD undef = u67 at hT
                      generalize T[68]?.getD undef = u68 at hT
                      generalize T[69]?.getD undef = u69 at hT
                      generalize T[70]?.getD undef = u70 at hT
                      generalize T[71]?.getD undef = u71 at hT
                      generalize T[72]?.getD undef = u72 at hT
                      generalize T[73]?.getD undef = u73 at hT
                      generalize T[74]?.getD undef = u74 at hT
                      rw [e75] at hT; clear e75
                      rw [e76] at hT; clear e76
                      rw [e77] at hT; clear e77
                      rw [e78] at hT; clear e78
                      rw [e79] at hT; clear e79
                      rw [e80] at hT; clear e80
                      rw [e81] at hT; clear e81
                      rw [e82] at hT; clear e82
                      subst hT
                      go_wp2_with fail
                      go_roundw
                      case rel => exact ⟨k + 1, by omega, by go_num, ⟨false, rfl, (fun h => by cases h), fun _ => hne.out⟩, (by (have q_hbF := Below.size hbF; (try simp at q_hbF); have q_hbr := Below.size hbr; (try simp at q_hbr); repeat (first | exact Below.refl _ _ | (refine Below.trans ?_ (Below.mono hbF (by first | omega | (simp; omega) | simp))) | (refine Below.trans ?_ (Below.mono hbr (by first | omega | (simp; omega) | simp))) | (refine Below.setCell ?_ (by first | omega | (simp; omega) | simp) _) | (refine Below.alloc ?_ (by first | omega | (simp; omega) | simp) _) | apply Below.drew | apply below_drewN)))⟩
                      case measure => simp [intOf] <;> omega
                · obtain rfl : k = M := by omega
                  have hres := Lib.hid (show decide (la = lb) = true from decide_eq_true (by have := HTK.out; rw [List.take_of_length_le (by omega), List.take_of_length_le (by omega)] at this; exact this))
                  have HE2 := Lib.hid (show true = sameLog x y a' b' by rw [← HE.out, hres.out])
                  clear HE hres
                  have HE := HE2
                  have cX9 := (BX.on hbr).cell
                  have cY9 := (BY.on hbr).cell
                  go_wp2_with fail
                  refine (rlogsame_any x y _ _ ma mb _ _ _ _ _ _ a' b' _ (Rxr.below hbr) (Ryr.below hbr) (by omega)).mono ?_
                  rintro e w5 ⟨rfl, hb5⟩
                  rw [← HE.out]
                  go_wp2_with fail
                  refine (lawake_any _).mono ?_
                  rintro e w6 ⟨rfl, hb6⟩
                  go_wp2_with fail
                  go_ret
                  exact ⟨rfl, (by (have q_hb6 := Below.size hb6; (try simp at q_hb6); have q_hb5 := Below.size hb5; (try simp at q_hb5); have q_hbl := Below.size hbl; (try simp at q_hbl); repeat (first | exact Below.refl _ _ | (refine Below.trans ?_ (Below.mono hb6 (by first | omega | (simp; omega) | simp))) | (refine Below.trans ?_ (Below.mono hb5 (by first | omega | (simp; omega) | simp))) | (refine Below.trans ?_ (Below.mono hbl (by first | omega | (simp; omega) | simp))) | (refine Below.setCell ?_ (by first | omega | (simp; omega) | simp) _) | (refine Below.alloc ?_ (by first | omega | (simp; omega) | simp) _) | apply Below.drew | apply below_drewN)))⟩
end Go.Proofs.Ythepgnankelmeaa
