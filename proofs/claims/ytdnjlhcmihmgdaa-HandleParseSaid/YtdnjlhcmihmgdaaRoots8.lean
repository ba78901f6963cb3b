/- Heads: parsed, by the document. -/
import Derived.Test.YtdnjlhcmihmgdaaRoots7
namespace Go.Proofs.Ytdnjlhcmihmgdaa
open Go.RowKit

theorem Rd.sub {w : World} {ab off n : Nat} {l : List UInt8} (h : Rd w (some ⟨ab, off, none⟩) n l) (j m : Nat) (hj : j + m ≤ n) : Rd w (some ⟨ab, off + j, none⟩) m ((l.take (j + m)).drop j) := by
  have hl := h.1
  refine ⟨by simp; omega, fun hm => ?_⟩
  obtain ⟨b', o', hA, hlt, hc⟩ := h.2 (by omega)
  injection hA with hA
  injection hA with e1 e2
  subst e1 e2
  refine ⟨ab, off + j, rfl, hlt, fun i u hi => ?_⟩
  rw [List.getElem?_drop, List.getElem?_take] at hi
  split at hi
  · rw [Nat.add_assoc]
    exact hc (j + i) u hi
  · cases hi
theorem Rd.pre8 {w : World} {A : Option Addr} {n : Nat} {l : List UInt8} (h : Rd w A n l) (m : Nat) (hm : m ≤ n) : Rd w A m (l.take m) := by
  have hl := h.1
  refine ⟨by simp; omega, fun hp => ?_⟩
  obtain ⟨b, off, hA, hlt, hc⟩ := h.2 (by omega)
  refine ⟨b, off, hA, hlt, fun j u hj => ?_⟩
  rw [List.getElem?_take] at hj
  split at hj
  · exact hc j u hj
  · cases hj
theorem vaK_zero {b : List UInt8} (h : 8 ≤ b.length) : (getL (b.take 8) : Int) = vaK b 0 := by
  rw [vaK_drop (by omega)]
  rfl
theorem vaF_at {b : List UInt8} {k : Nat} (h : 16 + 8 * k ≤ b.length) : (getL ((b.take (8 + 8 * k + 8)).drop (8 + 8 * k)) : Int) = vaF b k := by
  unfold vaF
  rw [vaK_drop (by omega), List.drop_take]
  rw [show 8 * (k + 1) = 8 + 8 * k from by omega, show 8 + 8 * k + 8 - (8 + 8 * k) = 8 from by omega]
theorem sencR_len {n : Int} {f : Nat → Int} (h : serrR n f = 0) : (sencR n f).length = 256 := by
  unfold sencR
  unfold serrR at h
  split
  · exact padL_len _ _
  · rename_i hn
    rw [if_neg hn] at h
    split
    · exact encR_len n f
    · rename_i h2
      rw [if_neg h2] at h
      cases h
theorem par_len {b : List UInt8} (h : b.length ≠ 256) : parN b = 0 ∧ parF b = (fun _ => 0) ∧ parE b = 4 := by
  have h1 : ¬ (b.length = 256 ∧ zeroB b = true) := fun h2 => h h2.1
  have h2 : ¬ goodR b = true := fun hg => by
    obtain ⟨h3, h4⟩ := of_decide_eq_true hg
    apply h
    rw [h4]
    exact sencR_len h3
  unfold parN parF parE
  rw [if_neg h1, if_neg h1, if_neg h1, if_neg h2, if_neg h2, if_neg h2]
  exact ⟨rfl, rfl, rfl⟩
theorem zeroB_is : ∀ {b : List UInt8}, zeroB b = true → b = List.replicate b.length 0
  | [], _ => rfl
  | x :: b, h => by
    simp only [zeroB, List.all_cons, Bool.and_eq_true, beq_iff_eq] at h
    rw [List.length_cons, List.replicate_succ, ← zeroB_is h.2, h.1]
theorem zeroB_va {b : List UInt8} (h : zeroB b = true) (hb : b.length = 256) {k : Nat} (hk : k ≤ 16) : vaK b k = 0 := by
  rw [vaK_drop (by omega), getL_zero _ (zeroB_part h _ _)]
  rfl
theorem zero_noH {b : List UInt8} (h : zeroB b = true) (hb : b.length = 256) : noH (vaK b 0) (vaF b) = true :=
  eqH_iff.2 ⟨zeroB_va h hb (by omega), fun i hi => zeroB_va h hb (by omega)⟩
theorem zeroB_rep (n : Nat) : zeroB (List.replicate n (0 : UInt8)) = true := by
  unfold zeroB
  simp
theorem good_doc {b : List UInt8} (hz : zeroB b = false) : goodR b = (rtB (vaK b 0) (vaF b) && decide (encR (vaK b 0) (vaF b) = b)) := by
  rw [Bool.eq_iff_iff, Bool.and_eq_true, decide_eq_true_eq]
  unfold goodR
  rw [decide_eq_true_eq]
  constructor
  · rintro ⟨h1, h2⟩
    have hno : ¬ noH (vaK b 0) (vaF b) = true := fun h3 => by
      unfold sencR at h2
      rw [if_pos h3] at h2
      rw [h2] at hz
      have : zeroB (padL 256 []) = true := by rw [zero_pad]; exact zeroB_rep 256
      rw [this] at hz
      cases hz
    unfold serrR at h1
    rw [if_neg hno] at h1
    by_cases hr : rtB (vaK b 0) (vaF b) = true
    · refine ⟨hr, ?_⟩
      unfold sencR at h2
      rw [if_neg hno, if_pos hr] at h2
      exact h2.symm
    · rw [if_neg hr] at h1
      cases h1
  · rintro ⟨h1, h2⟩
    obtain ⟨_, _, h3, h4⟩ := par_enc h1 (fun i _ => vaK_range b (i + 1))
    exact ⟨h4, by rw [h3]; exact h2.symm⟩

set_option maxRecDepth 100000 in
set_option maxHeartbeats 2000000 in
theorem rparseR_any (A : Option Addr) (n c : Nat) (b : List UInt8) (w : World) (hr : Rd w A n b) (hc : n ≤ c) (hcm : c ≤ maxLen) :
    Calls Try.prog 46 #[.slice A n c] w fun e w' => e = .returned (.tuple #[.agg (hd (parN b) (parF b)), .bool (decide (parE b = 0))]) ∧ Below w.heap.size w w' := by
  unfold maxLen at hcm
  have hbl := hr.len
  have H0 := Blk.new w 66 (hz 0)
  have hb0 : Below w.heap.size w (w.alloc (.cells (hz 0) 66)) := (by (repeat (first | exact Below.refl _ _ | (refine Below.setCell ?_ (by first | omega | (simp; omega) | simp) _) | (refine Below.alloc ?_ (by first | omega | (simp; omega) | simp) _) | apply Below.drew | apply below_drewN)))
  by_cases h256 : n = 256
  · subst h256
    obtain ⟨Z, hZ⟩ : ∃ Z, Z = List.replicate 256 (0 : UInt8) := ⟨_, rfl⟩
    have hZl : Z.length = 256 := by rw [hZ]; simp
    have hZp := Lib.hid (show part Z 0 = (Z.map bv).toArray by rw [hZ]; exact part_zeros 256)
    have hmk : ∀ W : World, (Instr.makeSlice 39 (.int .i64 256) (.int .i64 256)).run Try.prog W = .ok (.slice (some ⟨W.heap.size, 0, none⟩) 256 256) (W.alloc (.cells (part Z 0) 5)) :=
      make_bytes (P := Try.prog) Try.underlying39 info8 .i64 .i64 256 (by omega) Z hZl
    have HMK := Lib.hid hmk
    have HZ := Lib.hid hZ
    obtain ⟨v0, hv0⟩ : ∃ v0, v0 = vaK b 0 := ⟨_, rfl⟩
    obtain ⟨f, hf⟩ : ∃ f, f = vaF b := ⟨_, rfl⟩
    have r0 : 0 ≤ v0 ∧ v0 ≤ 18446744073709551615 := by rw [hv0]; exact vaK_range b 0
    have rf : ∀ i, i < 16 → 0 ≤ f i ∧ f i ≤ 18446744073709551615 := fun i _ => by rw [hf]; exact vaK_range b (i + 1)
    have HV0 := Lib.hid (show (getL (b.take 8) : Int) = v0 by rw [hv0]; exact vaK_zero (by omega))
    have HVF := Lib.hid (show ∀ k, k < 16 → (getL ((b.take (8 + 8 * k + 8)).drop (8 + 8 * k)) : Int) = f k from fun k hk => by rw [hf]; exact vaF_at (by omega))
    have HV := Lib.hid hv0
    have HF := Lib.hid hf
    have HRF := Lib.hid rf
    obtain ⟨ab, off, hA, hab, _⟩ := hr.2 (by omega)
    subst hA
    have hra := hr.alloc (.cells (hz 0) 66)
    have hr8 := hra.pre8 8 (by omega)
    have H1 : Blk ((w.alloc (.cells (hz 0) 66)).alloc (.cells (hz v0) 66)) (w.heap.size + 1) 66 (hz v0) := by simpa using Blk.new (w.alloc (.cells (hz 0) 66)) 66 (hz v0)
    have H2 := H0.alloc (.cells (hz v0) 66)
    have b1 : Below w.heap.size w ((w.alloc (.cells (hz 0) 66)).alloc (.cells (hz v0) 66)) := (by (repeat (first | exact Below.refl _ _ | (refine Below.setCell ?_ (by first | omega | (simp; omega) | simp) _) | (refine Below.alloc ?_ (by first | omega | (simp; omega) | simp) _) | apply Below.drew | apply below_drewN)))
    have q8 : (8 : Int) ≤ c := by omega
    clear hZ hmk hv0 hf rf hb0
    go_enter Try.func46, Try.ntmps46
    go_wp2_with fail
    refine (rget_short _ 8 _ (b.take 8) _ hr8 (by omega)).mono ?_
    rintro e w1 ⟨rfl, rfl⟩
    rw [HV0.out]
    go_wp2_with fail
    rw [← upto_zero v0 f] at H1
    go_loopw [14] (fun i wr => ∃ k : Nat, k ≤ 16 ∧ i = .int .i64 k ∧ Blk wr w.heap.size 66 (hz 0) ∧ Blk wr (w.heap.size + 1) 66 (hd v0 (upto k f)) ∧ Below w.heap.size w wr) (fun i _ => 16 - (intOf i).toNat)
    case atStart => exact ⟨0, by omega, rfl, H2, H1, b1⟩
    case round =>
      clear H0 H1 H2 b1 hra hr8
      obtain ⟨k, hk, rfl, hB0, hBh, hbel⟩ := hrel
      by_cases hlt : k < 16
      · have q1 : (k : Int) < 16 := by omega
        have hsub := (hr.below hbel).sub (8 + 8 * k) 8 (by omega)
        have q2 : (8 : Int) + 8 * k ≤ 16 + 8 * k := by omega
        have q3 : (16 : Int) + 8 * k ≤ c := by omega
        have q4 : ¬ c = 8 + 8 * k := by omega
        have q5 : 16 + 8 * k - (8 + 8 * k) = 8 := by omega
        have cG := (hBh.cell (1 + k)).trans (hd_get v0 (upto k f) hlt)
        have fG := hBh.frozen
        have hBh' := hBh.set_ (1 + k) (.int .u64 (f k))
        rw [upto_set v0 f hlt] at hBh'
        have hB0' := hB0.far (p := ⟨w.heap.size + 1, 1 + k, none⟩) (by simp) (.int .u64 (f k))
        go_wp2_with fail
        refine (rget_short (some ⟨ab, off + (8 + 8 * k), none⟩) 8 _ ((b.take (8 + 8 * k + 8)).drop (8 + 8 * k)) _ hsub (by omega)).mono ?_
        rintro e w1 ⟨rfl, rfl⟩
        rw [HVF.out k hlt]
        go_wp2_with fail
        go_roundw
        case rel => exact ⟨k + 1, by omega, by go_num, hB0', hBh', (by (have q_hbel := Below.size hbel; (try simp at q_hbel); repeat (first | exact Below.refl _ _ | (refine Below.trans ?_ (Below.mono hbel (by first | omega | (simp; omega) | simp))) | (refine Below.setCell ?_ (by first | omega | (simp; omega) | simp) _) | (refine Below.alloc ?_ (by first | omega | (simp; omega) | simp) _) | apply Below.drew | apply below_drewN)))⟩
        case measure => simp [intOf] <;> omega
      · obtain rfl : k = 16 := by omega
        rw [upto_all] at hBh
        have hrr := hr.below hbel
        obtain ⟨X, hX⟩ : ∃ X, X = noH v0 f := ⟨_, rfl⟩
        have heq : ∀ w : World, (binOp .eql 66 (.agg (hd v0 f)) (.agg (hz 0))).run Try.prog w = .ok (.bool X) w := by rw [hX]; exact eq_doc v0 f 0 (fun _ => 0)
        have HEQ := Lib.hid heq
        have hbz := hbel.size
        clear heq HV0 HVF
        cases hzz : zeroB b with
        | true =>
          have hXt : X = true := by rw [hX, HV.out, HF.out]; exact zero_noH hzz hbl
          have hbZ : b = Z := by rw [HZ.out, zeroB_is hzz, hbl]
          obtain ⟨p1, p2, p3⟩ := par_zero hbl hzz
          have P1 := Lib.hid p1
          have P2 := Lib.hid p2
          have P3 := Lib.hid p3
          have hqq := Lib.hid (show ((str b).toList == (str Z).toList) = true by rw [hbZ]; simp)
          subst hXt
          clear hX hbZ p1 p2 p3 hzz
          go_wp2_with fail
          refine wp_flows [(fun y_ _ => y_ = .agg (hd v0 f)), (fun y_ _ => y_ = .agg (hz 0)), (fun y_ _ => y_ = .bool true), (fun y_ _ => y_ = .bool true), (fun y_ _ => y_ = .slice (some ⟨ab, off, none⟩) 256 c), (fun y_ _ => y_ = .string (str (b))), (IsB (256) (Z)), (fun y_ _ => y_ = .string (str (Z))), (fun y_ _ => y_ = .bool true), (fun y_ _ => y_ = .bool true)] (by kernel_rfl) ⟨Stab.eq _, Stab.eq _, Stab.eq _, Stab.eq _, Stab.eq _, Stab.eq _, Stab.b _ _, Stab.eq _, Stab.eq _, Stab.eq _, trivial⟩ (by kernel_rfl) (by rfl) ?_ ?_
          · intro kq hkq
            match kq, hkq with
            | 0, _ =>
              refine StepOk.plain _ 30 rfl rfl rfl [(4, none)] (by kernel_rfl) (fun af wf hbw hf Kf hKf => ?_)
              obtain ⟨g4, _⟩ := hf
              have h4 : af.tmps[4]?.getD undef = .pointer (some ⟨w.heap.size + 1, 0, none⟩) := g4
              clear g4
              refine wp_load_blk 66 (.tmp 4) rfl (w.heap.size + 1) 0 66 (hd v0 f) (hd v0 f) _ (by simp [Act.eval, h4]) (Blk.on (Blk.drew hBh) hbw) (hd_self v0 f) Try.underlying66 rfl (by kernel_rfl) ?_
              exact hKf _ _ ((Below.refl _ _)) (rfl)
            | 1, _ =>
              refine StepOk.plain _ 31 rfl rfl rfl [] (by kernel_rfl) (fun af wf hbw hf Kf hKf => ?_)
              go_simp
              exact hKf _ _ (Below.refl _ _) rfl
            | 2, _ =>
              refine StepOk.plain _ 32 rfl rfl rfl [(30, some 0), (31, some 1)] (by kernel_rfl) (fun af wf hbw hf Kf hKf => ?_)
              obtain ⟨g30, g31, _⟩ := hf
              have h30 : af.tmps[30]?.getD undef = .agg (hd v0 f) := g30
              have h31 : af.tmps[31]?.getD undef = .agg (hz 0) := g31
              clear g30 g31
              have heq1 := HEQ.out
              go_simp
              exact hKf _ _ (Below.refl _ _) rfl
            | 3, _ =>
              refine StepOk.plain _ 33 rfl rfl rfl [(32, some 2)] (by kernel_rfl) (fun af wf hbw hf Kf hKf => ?_)
              obtain ⟨g32, _⟩ := hf
              have h32 : af.tmps[32]?.getD undef = .bool true := g32
              clear g32
              go_simp
              exact hKf _ _ (Below.refl _ _) rfl
            | 4, _ =>
              refine StepOk.yes _ 34 rfl rfl rfl rfl (fun _ _ h => h) [(0, none)] (by kernel_rfl) (fun af wf hbw hf Kf hKf => ?_)
              obtain ⟨g0, _⟩ := hf
              have h0 : af.tmps[0]?.getD undef = .slice (some ⟨ab, off, none⟩) 256 c := g0
              clear g0
              go_simp
              exact hKf _ _ (Below.refl _ _) rfl
            | 5, _ =>
              refine StepOk.yes _ 35 rfl rfl rfl rfl (fun _ _ h => h) [(34, some 4)] (by kernel_rfl) (fun af wf hbw hf Kf hKf => ?_)
              obtain ⟨g34, _⟩ := hf
              have h34 : af.tmps[34]?.getD undef = .slice (some ⟨ab, off, none⟩) 256 c := g34
              clear g34
              have hcv := conv c _ (Rd.below (Rd.drew (hrr)) hbw)
              go_simp
              exact hKf _ _ (Below.refl _ _) rfl
            | 6, _ =>
              refine StepOk.yes _ 36 rfl rfl rfl rfl (fun _ _ h => h) [] (by kernel_rfl) (fun af wf hbw hf Kf hKf => ?_)
              have hmk_ := HMK.out wf
              go_simp
              exact hKf _ _ (((Below.refl _ _).alloc (Nat.le_refl _) _)) ((isB_of (Fresh.of_blk (t := 5) (base := 0) (Blk.new wf 5 (part Z 0)) (Nat.zero_le _) (by unfold maxLen; omega) hZl hZp.out) hZl))
            | 7, _ =>
              refine StepOk.yes _ 37 rfl rfl rfl rfl (fun _ _ h => h) [(36, some 6)] (by kernel_rfl) (fun af wf hbw hf Kf hKf => ?_)
              obtain ⟨g36, _⟩ := hf
              obtain ⟨A36, c36, h36, hR36, hn36, hm36⟩ : IsB (256) (Z) (af.tmps[36]?.getD undef) wf := g36
              have hcv := conv c36 _ hR36
              go_simp
              exact hKf _ _ (Below.refl _ _) rfl
            | 8, _ =>
              refine StepOk.yes _ 38 rfl rfl rfl rfl (fun _ _ h => h) [(35, some 5), (37, some 7)] (by kernel_rfl) (fun af wf hbw hf Kf hKf => ?_)
              obtain ⟨g35, g37, _⟩ := hf
              have h35 : af.tmps[35]?.getD undef = .string (str (b)) := g35
              have h37 : af.tmps[37]?.getD undef = .string (str (Z)) := g37
              clear g35 g37
              have hq := hqq.out
              go_simp
              exact hKf _ _ (Below.refl _ _) rfl
            | 9, _ =>
              refine StepOk.plain _ 39 rfl rfl rfl [(33, some 3), (38, some 8)] (by kernel_rfl) (fun af wf hbw hf Kf hKf => ?_)
              obtain ⟨g33, g38, _⟩ := hf
              have h33 : af.tmps[33]?.getD undef = .bool true := g33
              have h38 : af.tmps[38]?.getD undef = .bool true := g38
              clear g33 g38
              go_simp
              exact hKf _ _ (Below.refl _ _) rfl
            | i + 10, h => exact absurd h (by show ¬ (i + 10 < 10); omega)
          · intro af wF hbF hdF hsF hbaseF hfactF
            obtain ⟨T, dsF⟩ := af
            obtain rfl : dsF = _ := hdF
            have e0 := hbaseF 0 (not_dst (by kernel_rfl))
            simp only [List.getElem?_toArray, List.getElem?_cons_zero, Option.getD_some] at e0
            have e1 := hbaseF 1 (not_dst (by kernel_rfl))
            simp only [List.getElem?_toArray, List.getElem?_cons_zero, List.getElem?_cons_succ, Option.getD_some] at e1
            have e2 := hbaseF 2 (not_dst (by kernel_rfl))
            simp only [List.getElem?_toArray, List.getElem?_cons_zero, List.getElem?_cons_succ, Option.getD_some] at e2
            have e3 := hbaseF 3 (not_dst (by kernel_rfl))
            simp only [List.getElem?_toArray, List.getElem?_cons_zero, List.getElem?_cons_succ, Option.getD_some] at e3
            have e4 := hbaseF 4 (not_dst (by kernel_rfl))
            simp only [List.getElem?_toArray, List.getElem?_cons_zero, List.getElem?_cons_succ, Option.getD_some] at e4
            have e5 := hbaseF 5 (not_dst (by kernel_rfl))
            simp only [List.getElem?_toArray, List.getElem?_cons_zero, List.getElem?_cons_succ, Option.getD_some] at e5
            have e6 := hbaseF 6 (not_dst (by kernel_rfl))
            simp only [List.getElem?_toArray, List.getElem?_cons_zero, List.getElem?_cons_succ, Option.getD_some] at e6
            have e7 := hbaseF 7 (not_dst (by kernel_rfl))
            simp only [List.getElem?_toArray, List.getElem?_cons_zero, List.getElem?_cons_succ, Option.getD_some] at e7
            have e8 := hbaseF 8 (not_dst (by kernel_rfl))
            simp only [List.getElem?_toArray, List.getElem?_cons_zero, List.getElem?_cons_succ, Option.getD_some] at e8
            have e9 := hbaseF 9 (not_dst (by kernel_rfl))
            simp only [List.getElem?_toArray, List.getElem?_cons_zero, List.getElem?_cons_succ, Option.getD_some] at e9
            have e10 := hbaseF 10 (not_dst (by kernel_rfl))
            simp only [List.getElem?_toArray, List.getElem?_cons_zero, List.getElem?_cons_succ, Option.getD_some] at e10
            have e11 := hbaseF 11 (not_dst (by kernel_rfl))
            simp only [List.getElem?_toArray, List.getElem?_cons_zero, List.getElem?_cons_succ, Option.getD_some] at e11
            have e12 := hbaseF 12 (not_dst (by kernel_rfl))
            simp only [List.getElem?_toArray, List.getElem?_cons_zero, List.getElem?_cons_succ, Option.getD_some] at e12
            have e13 := hbaseF 13 (not_dst (by kernel_rfl))
            simp only [List.getElem?_toArray, List.getElem?_cons_zero, List.getElem?_cons_succ, Option.getD_some] at e13
            have e14 := hbaseF 14 (not_dst (by kernel_rfl))
            simp only [List.getElem?_toArray, List.getElem?_cons_zero, List.getElem?_cons_succ, Option.getD_some] at e14
            have e15 := hbaseF 15 (not_dst (by kernel_rfl))
            simp only [List.getElem?_toArray, List.getElem?_cons_zero, List.getElem?_cons_succ, Option.getD_some] at e15
            have e16 := hbaseF 16 (not_dst (by kernel_rfl))
            simp only [List.getElem?_toArray, List.getElem?_cons_zero, List.getElem?_cons_succ, Option.getD_some] at e16
            have e17 := hbaseF 17 (not_dst (by kernel_rfl))
            simp only [List.getElem?_toArray, List.getElem?_cons_zero, List.getElem?_cons_succ, Option.getD_some] at e17
            have e18 := hbaseF 18 (not_dst (by kernel_rfl))
            simp only [List.getElem?_toArray, List.getElem?_cons_zero, List.getElem?_cons_succ, Option.getD_some] at e18
            have e19 := hbaseF 19 (not_dst (by kernel_rfl))
            simp only [List.getElem?_toArray, List.getElem?_cons_zero, List.getElem?_cons_succ, Option.getD_some] at e19
            have e20 := hbaseF 20 (not_dst (by kernel_rfl))
            simp only [List.getElem?_toArray, List.getElem?_cons_zero, List.getElem?_cons_succ, Option.getD_some] at e20
            have e21 := hbaseF 21 (not_dst (by kernel_rfl))
            simp only [List.getElem?_toArray, List.getElem?_cons_zero, List.getElem?_cons_succ, Option.getD_some] at e21
            have e22 := hbaseF 22 (not_dst (by kernel_rfl))
            simp only [List.getElem?_toArray, List.getElem?_cons_zero, List.getElem?_cons_succ, Option.getD_some] at e22
            have e23 := hbaseF 23 (not_dst (by kernel_rfl))
            simp only [List.getElem?_toArray, List.getElem?_cons_zero, List.getElem?_cons_succ, Option.getD_some] at e23
            have e24 := hbaseF 24 (not_dst (by kernel_rfl))
            simp only [List.getElem?_toArray, List.getElem?_cons_zero, List.getElem?_cons_succ, Option.getD_some] at e24
            have e25 := hbaseF 25 (not_dst (by kernel_rfl))
            simp only [List.getElem?_toArray, List.getElem?_cons_zero, List.getElem?_cons_succ, Option.getD_some] at e25
            have e26 := hbaseF 26 (not_dst (by kernel_rfl))
            simp only [List.getElem?_toArray, List.getElem?_cons_zero, List.getElem?_cons_succ, Option.getD_some] at e26
            have e27 := hbaseF 27 (not_dst (by kernel_rfl))
            simp only [List.getElem?_toArray, List.getElem?_cons_zero, List.getElem?_cons_succ, Option.getD_some] at e27
            have e28 := hbaseF 28 (not_dst (by kernel_rfl))
            simp only [List.getElem?_toArray, List.getElem?_cons_zero, List.getElem?_cons_succ, Option.getD_some] at e28
            have e29 := hbaseF 29 (not_dst (by kernel_rfl))
            simp only [List.getElem?_toArray, List.getElem?_cons_zero, List.getElem?_cons_succ, Option.getD_some] at e29
            have e40 := hbaseF 40 (not_dst (by kernel_rfl))
            simp only [List.getElem?_toArray, List.getElem?_cons_zero, List.getElem?_cons_succ, Option.getD_some] at e40
            have e41 := hbaseF 41 (not_dst (by kernel_rfl))
            simp only [List.getElem?_toArray, List.getElem?_cons_zero, List.getElem?_cons_succ, Option.getD_some] at e41
            have e42 := hbaseF 42 (not_dst (by kernel_rfl))
            simp only [List.getElem?_toArray, List.getElem?_cons_zero, List.getElem?_cons_succ, Option.getD_some] at e42
            have e43 := hbaseF 43 (not_dst (by kernel_rfl))
            simp only [List.getElem?_toArray, List.getElem?_cons_zero, List.getElem?_cons_succ, Option.getD_some] at e43
            have e44 := hbaseF 44 (not_dst (by kernel_rfl))
            simp only [List.getElem?_toArray, List.getElem?_cons_zero, List.getElem?_cons_succ, Option.getD_some] at e44
            have e45 := hbaseF 45 (not_dst (by kernel_rfl))
            simp only [List.getElem?_toArray, List.getElem?_cons_zero, List.getElem?_cons_succ, Option.getD_some] at e45
            have e46 := hbaseF 46 (not_dst (by kernel_rfl))
            simp only [List.getElem?_toArray, List.getElem?_cons_zero, List.getElem?_cons_succ, Option.getD_some] at e46
            have e47 := hbaseF 47 (not_dst (by kernel_rfl))
            simp only [List.getElem?_toArray, List.getElem?_cons_zero, List.getElem?_cons_succ, Option.getD_some] at e47
            have e48 := hbaseF 48 (not_dst (by kernel_rfl))
            simp only [List.getElem?_toArray, List.getElem?_cons_zero, List.getElem?_cons_succ, Option.getD_some] at e48
            have e49 := hbaseF 49 (not_dst (by kernel_rfl))
            simp only [List.getElem?_toArray, List.getElem?_cons_zero, List.getElem?_cons_succ, Option.getD_some] at e49
            have e50 := hbaseF 50 (not_dst (by kernel_rfl))
            simp only [List.getElem?_toArray, List.getElem?_cons_zero, List.getElem?_cons_succ, Option.getD_some] at e50
            have e51 := hbaseF 51 (not_dst (by kernel_rfl))
            simp only [List.getElem?_toArray, List.getElem?_cons_zero, List.getElem?_cons_succ, Option.getD_some] at e51
            have e52 := hbaseF 52 (not_dst (by kernel_rfl))
            simp only [List.getElem?_toArray, List.getElem?_cons_zero, List.getElem?_cons_succ, Option.getD_some] at e52
            have e53 := hbaseF 53 (not_dst (by kernel_rfl))
            simp only [List.getElem?_toArray, List.getElem?_cons_zero, List.getElem?_cons_succ, Option.getD_some] at e53
            have e39 := hfactF 9 39 (by decide) rfl
            replace e39 : T[39]?.getD undef = .bool true := e39
            clear hbaseF hfactF
            have hT : T = #[T[0]?.getD undef, T[1]?.getD undef, T[2]?.getD undef, T[3]?.getD undef, T[4]?.getD undef, T[5]?.getD undef, T[6]?.getD undef, T[7]?.getD undef, T[8]?.getD undef, T[9]?.getD undef, T[10]?.getD undef, T[11]?.getD undef, T[12]?.getD undef, T[13]?.getD undef, T[14]?.getD undef, T[15]?.getD undef, T[16]?.getD undef, T[17]?.getD undef, T[18]?.getD undef, T[19]?.getD undef, T[20]?.getD undef, T[21]?.getD undef, T[22]?.getD undef, T[23]?.getD undef, T[24]?.getD undef, T[25]?.getD undef, T[26]?.getD undef, T[27]?.getD undef, T[28]?.getD undef, T[29]?.getD undef, T[30]?.getD undef, T[31]?.getD undef, T[32]?.getD undef, T[33]?.getD undef, T[34]?.getD undef, T[35]?.getD undef, T[36]?.getD undef, T[37]?.getD undef, T[38]?.getD undef, T[39]?.getD undef, T[40]?.getD undef, T[41]?.getD undef, T[42]?.getD undef, T[43]?.getD undef, T[44]?.getD undef, T[45]?.getD undef, T[46]?.getD undef, T[47]?.getD undef, T[48]?.getD undef, T[49]?.getD undef, T[50]?.getD undef, T[51]?.getD undef, T[52]?.getD undef, T[53]?.getD undef] := arr_eq T 54 hsF
            clear hsF
            rw [e0] at hT; clear e0
            rw [e1] at hT; clear e1
            rw [e2] at hT; clear e2
            rw [e3] at hT; clear e3
            rw [e4] at hT; clear e4
            rw [e5] at hT; clear e5
            rw [e6] at hT; clear e6
            rw [e7] at hT; clear e7
            rw [e8] at hT; clear e8
            rw [e9] at hT; clear e9
            rw [e10] at hT; clear e10
            rw [e11] at hT; clear e11
            rw [e12] at hT; clear e12
            rw [e13] at hT; clear e13
            rw [e14] at hT; clear e14
            rw [e15] at hT; clear e15
            rw [e16] at hT; clear e16
            rw [e17] at hT; clear e17
            rw [e18] at hT; clear e18
            rw [e19] at hT; clear e19
            rw [e20] at hT; clear e20
            rw [e21] at hT; clear e21
            rw [e22] at hT; clear e22
            rw [e23] at hT; clear e23
            rw [e24] at hT; clear e24
            rw [e25] at hT; clear e25
            rw [e26] at hT; clear e26
            rw [e27] at hT; clear e27
            rw [e28] at hT; clear e28
            rw [e29] at hT; clear e29
            generalize T[30]?.getD undef = u30 at hT
            generalize T[31]?.getD undef = u31 at hT
            generalize T[32]?.getD undef = u32 at hT
            generalize T[33]?.getD undef = u33 at hT
            generalize T[34]?.getD undef = u34 at hT
            generalize T[35]?.getD undef = u35 at hT
            generalize T[36]?.getD undef = u36 at hT
            generalize T[37]?.getD undef = u37 at hT
            generalize T[38]?.getD undef = u38 at hT
            rw [e39] at hT; clear e39
            rw [e40] at hT; clear e40
            rw [e41] at hT; clear e41
            rw [e42] at hT; clear e42
            rw [e43] at hT; clear e43
            rw [e44] at hT; clear e44
            rw [e45] at hT; clear e45
            rw [e46] at hT; clear e46
            rw [e47] at hT; clear e47
            rw [e48] at hT; clear e48
            rw [e49] at hT; clear e49
            rw [e50] at hT; clear e50
            rw [e51] at hT; clear e51
            rw [e52] at hT; clear e52
            rw [e53] at hT; clear e53
            subst hT
            have hB9 := hB0.on hbF
            have hH9 := hBh.on hbF
            have hr9 : Rd wF (some ⟨ab, off, none⟩) 256 b := Rd.below hrr hbF
            have b9 : Below w.heap.size w wF := (by (have q_hbF := Below.size hbF; (try simp at q_hbF); have q_hbel := Below.size hbel; (try simp at q_hbel); repeat (first | exact Below.refl _ _ | (refine Below.trans ?_ (Below.mono hbF (by first | omega | (simp; omega) | simp))) | (refine Below.trans ?_ (Below.mono hbel (by first | omega | (simp; omega) | simp))) | (refine Below.setCell ?_ (by first | omega | (simp; omega) | simp) _) | (refine Below.alloc ?_ (by first | omega | (simp; omega) | simp) _) | apply Below.drew | apply below_drewN)))
            clear hbF hB0 hBh hrr
            go_wp2_with (refine wpList_store_blk rfl 66 (.tmp 2) (.tmp 40) rfl w.heap.size 66 (hz 0) (hz 1) rfl rfl hB9 rfl (by kernel_rfl) (hz_one 1) ?_; intro W9 hC9 hK9)
            refine ret_cell2 (p := 2) (u := 3) rfl rfl rfl hC9 _ Try.underlying66 rfl (by kernel_rfl) rfl ⟨by rw [P1.out, P2.out, P3.out]; rfl, b9.trans (hK9.below b9.size (by simp))⟩
        | false =>
          have hnz : ¬ (b.length = 256 ∧ zeroB b = true) := by rw [hzz]; simp
          have hbZ : ¬ b = Z := by intro h; rw [h, HZ.out, zeroB_rep] at hzz; cases hzz
          obtain ⟨Y, hY⟩ : ∃ Y, Y = rtB v0 f := ⟨_, rfl⟩
          obtain ⟨EN, hEN⟩ : ∃ EN, EN = encR v0 f := ⟨_, rfl⟩
          obtain ⟨G, hG⟩ : ∃ G, G = goodR b := ⟨_, rfl⟩
          have hGG := Lib.hid (show G = (Y && decide (EN = b)) by rw [hG, good_doc hzz, hY, hEN, HV.out, HF.out])
          have P1 := Lib.hid (show parN b = if G = true then v0 else 0 by unfold parN; rw [if_neg hnz, hG, HV.out])
          have P2 := Lib.hid (show parF b = if G = true then f else (fun _ => 0) by unfold parF; rw [if_neg hnz, hG, HF.out])
          have P3 := Lib.hid (show parE b = if G = true then 0 else 4 by unfold parE; rw [if_neg hnz, hG])
          have hqq := Lib.hid (show ((str b).toList == (str Z).toList) = false by
            have : ((str b).toList == (str Z).toList) = decide (b = Z) := by rw [Bool.eq_iff_iff]; simp [str_toL]
            rw [this]
            exact decide_eq_false hbZ)
          have HYY := Lib.hid hY
          have HEN := Lib.hid hEN
          clear hX hbZ hzz hnz hG hEN hY
          cases X with
          | true =>
            go_wp2_with fail
            refine wp_flows [(fun y_ _ => y_ = .agg (hd v0 f)), (fun y_ _ => y_ = .agg (hz 0)), (fun y_ _ => y_ = .bool true), (fun y_ _ => y_ = .bool true), (fun y_ _ => y_ = .slice (some ⟨ab, off, none⟩) 256 c), (fun y_ _ => y_ = .string (str (b))), (IsB (256) (Z)), (fun y_ _ => y_ = .string (str (Z))), (fun y_ _ => y_ = .bool false), (fun y_ _ => y_ = .bool false)] (by kernel_rfl) ⟨Stab.eq _, Stab.eq _, Stab.eq _, Stab.eq _, Stab.eq _, Stab.eq _, Stab.b _ _, Stab.eq _, Stab.eq _, Stab.eq _, trivial⟩ (by kernel_rfl) (by rfl) ?_ ?_
            · intro kq hkq
              match kq, hkq with
              | 0, _ =>
                refine StepOk.plain _ 30 rfl rfl rfl [(4, none)] (by kernel_rfl) (fun af wf hbw hf Kf hKf => ?_)
                obtain ⟨g4, _⟩ := hf
                have h4 : af.tmps[4]?.getD undef = .pointer (some ⟨w.heap.size + 1, 0, none⟩) := g4
                clear g4
                refine wp_load_blk 66 (.tmp 4) rfl (w.heap.size + 1) 0 66 (hd v0 f) (hd v0 f) _ (by simp [Act.eval, h4]) (Blk.on (Blk.drew hBh) hbw) (hd_self v0 f) Try.underlying66 rfl (by kernel_rfl) ?_
                exact hKf _ _ ((Below.refl _ _)) (rfl)
              | 1, _ =>
                refine StepOk.plain _ 31 rfl rfl rfl [] (by kernel_rfl) (fun af wf hbw hf Kf hKf => ?_)
                go_simp
                exact hKf _ _ (Below.refl _ _) rfl
              | 2, _ =>
                refine StepOk.plain _ 32 rfl rfl rfl [(30, some 0), (31, some 1)] (by kernel_rfl) (fun af wf hbw hf Kf hKf => ?_)
                obtain ⟨g30, g31, _⟩ := hf
                have h30 : af.tmps[30]?.getD undef = .agg (hd v0 f) := g30
                have h31 : af.tmps[31]?.getD undef = .agg (hz 0) := g31
                clear g30 g31
                have heq1 := HEQ.out
                go_simp
                exact hKf _ _ (Below.refl _ _) rfl
              | 3, _ =>
                refine StepOk.plain _ 33 rfl rfl rfl [(32, some 2)] (by kernel_rfl) (fun af wf hbw hf Kf hKf => ?_)
                obtain ⟨g32, _⟩ := hf
                have h32 : af.tmps[32]?.getD undef = .bool true := g32
                clear g32
                go_simp
                exact hKf _ _ (Below.refl _ _) rfl
              | 4, _ =>
                refine StepOk.yes _ 34 rfl rfl rfl rfl (fun _ _ h => h) [(0, none)] (by kernel_rfl) (fun af wf hbw hf Kf hKf => ?_)
                obtain ⟨g0, _⟩ := hf
                have h0 : af.tmps[0]?.getD undef = .slice (some ⟨ab, off, none⟩) 256 c := g0
                clear g0
                go_simp
                exact hKf _ _ (Below.refl _ _) rfl
              | 5, _ =>
                refine StepOk.yes _ 35 rfl rfl rfl rfl (fun _ _ h => h) [(34, some 4)] (by kernel_rfl) (fun af wf hbw hf Kf hKf => ?_)
                obtain ⟨g34, _⟩ := hf
                have h34 : af.tmps[34]?.getD undef = .slice (some ⟨ab, off, none⟩) 256 c := g34
                clear g34
                have hcv := conv c _ (Rd.below (Rd.drew (hrr)) hbw)
                go_simp
                exact hKf _ _ (Below.refl _ _) rfl
              | 6, _ =>
                refine StepOk.yes _ 36 rfl rfl rfl rfl (fun _ _ h => h) [] (by kernel_rfl) (fun af wf hbw hf Kf hKf => ?_)
                have hmk_ := HMK.out wf
                go_simp
                exact hKf _ _ (((Below.refl _ _).alloc (Nat.le_refl _) _)) ((isB_of (Fresh.of_blk (t := 5) (base := 0) (Blk.new wf 5 (part Z 0)) (Nat.zero_le _) (by unfold maxLen; omega) hZl hZp.out) hZl))
              | 7, _ =>
                refine StepOk.yes _ 37 rfl rfl rfl rfl (fun _ _ h => h) [(36, some 6)] (by kernel_rfl) (fun af wf hbw hf Kf hKf => ?_)
                obtain ⟨g36, _⟩ := hf
                obtain ⟨A36, c36, h36, hR36, hn36, hm36⟩ : IsB (256) (Z) (af.tmps[36]?.getD undef) wf := g36
                have hcv := conv c36 _ hR36
                go_simp
                exact hKf _ _ (Below.refl _ _) rfl
              | 8, _ =>
                refine StepOk.yes _ 38 rfl rfl rfl rfl (fun _ _ h => h) [(35, some 5), (37, some 7)] (by kernel_rfl) (fun af wf hbw hf Kf hKf => ?_)
                obtain ⟨g35, g37, _⟩ := hf
                have h35 : af.tmps[35]?.getD undef = .string (str (b)) := g35
                have h37 : af.tmps[37]?.getD undef = .string (str (Z)) := g37
                clear g35 g37
                have hq := hqq.out
                go_simp
                exact hKf _ _ (Below.refl _ _) rfl
              | 9, _ =>
                refine StepOk.plain _ 39 rfl rfl rfl [(33, some 3), (38, some 8)] (by kernel_rfl) (fun af wf hbw hf Kf hKf => ?_)
                obtain ⟨g33, g38, _⟩ := hf
                have h33 : af.tmps[33]?.getD undef = .bool true := g33
                have h38 : af.tmps[38]?.getD undef = .bool false := g38
                clear g33 g38
                go_simp
                exact hKf _ _ (Below.refl _ _) rfl
              | i + 10, h => exact absurd h (by show ¬ (i + 10 < 10); omega)
            · intro af wF hbF hdF hsF hbaseF hfactF
              obtain ⟨T, dsF⟩ := af
              obtain rfl : dsF = _ := hdF
              have e0 := hbaseF 0 (not_dst (by kernel_rfl))
              simp only [List.getElem?_toArray, List.getElem?_cons_zero, Option.getD_some] at e0
              have e1 := hbaseF 1 (not_dst (by kernel_rfl))
              simp only [List.getElem?_toArray, List.getElem?_cons_zero, List.getElem?_cons_succ, Option.getD_some] at e1
              have e2 := hbaseF 2 (not_dst (by kernel_rfl))
              simp only [List.getElem?_toArray, List.getElem?_cons_zero, List.getElem?_cons_succ, Option.getD_some] at e2
              have e3 := hbaseF 3 (not_dst (by kernel_rfl))
              simp only [List.getElem?_toArray, List.getElem?_cons_zero, List.getElem?_cons_succ, Option.getD_some] at e3
              have e4 := hbaseF 4 (not_dst (by kernel_rfl))
              simp only [List.getElem?_toArray, List.getElem?_cons_zero, List.getElem?_cons_succ, Option.getD_some] at e4
              have e5 := hbaseF 5 (not_dst (by kernel_rfl))
              simp only [List.getElem?_toArray, List.getElem?_cons_zero, List.getElem?_cons_succ, Option.getD_some] at e5
              have e6 := hbaseF 6 (not_dst (by kernel_rfl))
              simp only [List.getElem?_toArray, List.getElem?_cons_zero, List.getElem?_cons_succ, Option.getD_some] at e6
              have e7 := hbaseF 7 (not_dst (by kernel_rfl))
              simp only [List.getElem?_toArray, List.getElem?_cons_zero, List.getElem?_cons_succ, Option.getD_some] at e7
              have e8 := hbaseF 8 (not_dst (by kernel_rfl))
              simp only [List.getElem?_toArray, List.getElem?_cons_zero, List.getElem?_cons_succ, Option.getD_some] at e8
              have e9 := hbaseF 9 (not_dst (by kernel_rfl))
              simp only [List.getElem?_toArray, List.getElem?_cons_zero, List.getElem?_cons_succ, Option.getD_some] at e9
              have e10 := hbaseF 10 (not_dst (by kernel_rfl))
              simp only [List.getElem?_toArray, List.getElem?_cons_zero, List.getElem?_cons_succ, Option.getD_some] at e10
              have e11 := hbaseF 11 (not_dst (by kernel_rfl))
              simp only [List.getElem?_toArray, List.getElem?_cons_zero, List.getElem?_cons_succ, Option.getD_some] at e11
              have e12 := hbaseF 12 (not_dst (by kernel_rfl))
              simp only [List.getElem?_toArray, List.getElem?_cons_zero, List.getElem?_cons_succ, Option.getD_some] at e12
              have e13 := hbaseF 13 (not_dst (by kernel_rfl))
              simp only [List.getElem?_toArray, List.getElem?_cons_zero, List.getElem?_cons_succ, Option.getD_some] at e13
              have e14 := hbaseF 14 (not_dst (by kernel_rfl))
              simp only [List.getElem?_toArray, List.getElem?_cons_zero, List.getElem?_cons_succ, Option.getD_some] at e14
              have e15 := hbaseF 15 (not_dst (by kernel_rfl))
              simp only [List.getElem?_toArray, List.getElem?_cons_zero, List.getElem?_cons_succ, Option.getD_some] at e15
              have e16 := hbaseF 16 (not_dst (by kernel_rfl))
              simp only [List.getElem?_toArray, List.getElem?_cons_zero, List.getElem?_cons_succ, Option.getD_some] at e16
              have e17 := hbaseF 17 (not_dst (by kernel_rfl))
              simp only [List.getElem?_toArray, List.getElem?_cons_zero, List.getElem?_cons_succ, Option.getD_some] at e17
              have e18 := hbaseF 18 (not_dst (by kernel_rfl))
              simp only [List.getElem?_toArray, List.getElem?_cons_zero, List.getElem?_cons_succ, Option.getD_some] at e18
              have e19 := hbaseF 19 (not_dst (by kernel_rfl))
              simp only [List.getElem?_toArray, List.getElem?_cons_zero, List.getElem?_cons_succ, Option.getD_some] at e19
              have e20 := hbaseF 20 (not_dst (by kernel_rfl))
              simp only [List.getElem?_toArray, List.getElem?_cons_zero, List.getElem?_cons_succ, Option.getD_some] at e20
              have e21 := hbaseF 21 (not_dst (by kernel_rfl))
              simp only [List.getElem?_toArray, List.getElem?_cons_zero, List.getElem?_cons_succ, Option.getD_some] at e21
              have e22 := hbaseF 22 (not_dst (by kernel_rfl))
              simp only [List.getElem?_toArray, List.getElem?_cons_zero, List.getElem?_cons_succ, Option.getD_some] at e22
              have e23 := hbaseF 23 (not_dst (by kernel_rfl))
              simp only [List.getElem?_toArray, List.getElem?_cons_zero, List.getElem?_cons_succ, Option.getD_some] at e23
              have e24 := hbaseF 24 (not_dst (by kernel_rfl))
              simp only [List.getElem?_toArray, List.getElem?_cons_zero, List.getElem?_cons_succ, Option.getD_some] at e24
              have e25 := hbaseF 25 (not_dst (by kernel_rfl))
              simp only [List.getElem?_toArray, List.getElem?_cons_zero, List.getElem?_cons_succ, Option.getD_some] at e25
              have e26 := hbaseF 26 (not_dst (by kernel_rfl))
              simp only [List.getElem?_toArray, List.getElem?_cons_zero, List.getElem?_cons_succ, Option.getD_some] at e26
              have e27 := hbaseF 27 (not_dst (by kernel_rfl))
              simp only [List.getElem?_toArray, List.getElem?_cons_zero, List.getElem?_cons_succ, Option.getD_some] at e27
              have e28 := hbaseF 28 (not_dst (by kernel_rfl))
              simp only [List.getElem?_toArray, List.getElem?_cons_zero, List.getElem?_cons_succ, Option.getD_some] at e28
              have e29 := hbaseF 29 (not_dst (by kernel_rfl))
              simp only [List.getElem?_toArray, List.getElem?_cons_zero, List.getElem?_cons_succ, Option.getD_some] at e29
              have e40 := hbaseF 40 (not_dst (by kernel_rfl))
              simp only [List.getElem?_toArray, List.getElem?_cons_zero, List.getElem?_cons_succ, Option.getD_some] at e40
              have e41 := hbaseF 41 (not_dst (by kernel_rfl))
              simp only [List.getElem?_toArray, List.getElem?_cons_zero, List.getElem?_cons_succ, Option.getD_some] at e41
              have e42 := hbaseF 42 (not_dst (by kernel_rfl))
              simp only [List.getElem?_toArray, List.getElem?_cons_zero, List.getElem?_cons_succ, Option.getD_some] at e42
              have e43 := hbaseF 43 (not_dst (by kernel_rfl))
              simp only [List.getElem?_toArray, List.getElem?_cons_zero, List.getElem?_cons_succ, Option.getD_some] at e43
              have e44 := hbaseF 44 (not_dst (by kernel_rfl))
              simp only [List.getElem?_toArray, List.getElem?_cons_zero, List.getElem?_cons_succ, Option.getD_some] at e44
              have e45 := hbaseF 45 (not_dst (by kernel_rfl))
              simp only [List.getElem?_toArray, List.getElem?_cons_zero, List.getElem?_cons_succ, Option.getD_some] at e45
              have e46 := hbaseF 46 (not_dst (by kernel_rfl))
              simp only [List.getElem?_toArray, List.getElem?_cons_zero, List.getElem?_cons_succ, Option.getD_some] at e46
              have e47 := hbaseF 47 (not_dst (by kernel_rfl))
              simp only [List.getElem?_toArray, List.getElem?_cons_zero, List.getElem?_cons_succ, Option.getD_some] at e47
              have e48 := hbaseF 48 (not_dst (by kernel_rfl))
              simp only [List.getElem?_toArray, List.getElem?_cons_zero, List.getElem?_cons_succ, Option.getD_some] at e48
              have e49 := hbaseF 49 (not_dst (by kernel_rfl))
              simp only [List.getElem?_toArray, List.getElem?_cons_zero, List.getElem?_cons_succ, Option.getD_some] at e49
              have e50 := hbaseF 50 (not_dst (by kernel_rfl))
              simp only [List.getElem?_toArray, List.getElem?_cons_zero, List.getElem?_cons_succ, Option.getD_some] at e50
              have e51 := hbaseF 51 (not_dst (by kernel_rfl))
              simp only [List.getElem?_toArray, List.getElem?_cons_zero, List.getElem?_cons_succ, Option.getD_some] at e51
              have e52 := hbaseF 52 (not_dst (by kernel_rfl))
              simp only [List.getElem?_toArray, List.getElem?_cons_zero, List.getElem?_cons_succ, Option.getD_some] at e52
              have e53 := hbaseF 53 (not_dst (by kernel_rfl))
              simp only [List.getElem?_toArray, List.getElem?_cons_zero, List.getElem?_cons_succ, Option.getD_some] at e53
              have e39 := hfactF 9 39 (by decide) rfl
              replace e39 : T[39]?.getD undef = .bool false := e39
              clear hbaseF hfactF
              have hT : T = #[T[0]?.getD undef, T[1]?.getD undef, T[2]?.getD undef, T[3]?.getD undef, T[4]?.getD undef, T[5]?.getD undef, T[6]?.getD undef, T[7]?.getD undef, T[8]?.getD undef, T[9]?.getD undef, T[10]?.getD undef, T[11]?.getD undef, T[12]?.getD undef, T[13]?.getD undef, T[14]?.getD undef, T[15]?.getD undef, T[16]?.getD undef, T[17]?.getD undef, T[18]?.getD undef, T[19]?.getD undef, T[20]?.getD undef, T[21]?.getD undef, T[22]?.getD undef, T[23]?.getD undef, T[24]?.getD undef, T[25]?.getD undef, T[26]?.getD undef, T[27]?.getD undef, T[28]?.getD undef, T[29]?.getD undef, T[30]?.getD undef, T[31]?.getD undef, T[32]?.getD undef, T[33]?.getD undef, T[34]?.getD undef, T[35]?.getD undef, T[36]?.getD undef, T[37]?.getD undef, T[38]?.getD undef, T[39]?.getD undef, T[40]?.getD undef, T[41]?.getD undef, T[42]?.getD undef, T[43]?.getD undef, T[44]?.getD undef, T[45]?.getD undef, T[46]?.getD undef, T[47]?.getD undef, T[48]?.getD undef, T[49]?.getD undef, T[50]?.getD undef, T[51]?.getD undef, T[52]?.getD undef, T[53]?.getD undef] := arr_eq T 54 hsF
              clear hsF
              rw [e0] at hT; clear e0
              rw [e1] at hT; clear e1
              rw [e2] at hT; clear e2
              rw [e3] at hT; clear e3
              rw [e4] at hT; clear e4
              rw [e5] at hT; clear e5
              rw [e6] at hT; clear e6
              rw [e7] at hT; clear e7
              rw [e8] at hT; clear e8
              rw [e9] at hT; clear e9
              rw [e10] at hT; clear e10
              rw [e11] at hT; clear e11
              rw [e12] at hT; clear e12
              rw [e13] at hT; clear e13
              rw [e14] at hT; clear e14
              rw [e15] at hT; clear e15
              rw [e16] at hT; clear e16
              rw [e17] at hT; clear e17
              rw [e18] at hT; clear e18
              rw [e19] at hT; clear e19
              rw [e20] at hT; clear e20
              rw [e21] at hT; clear e21
              rw [e22] at hT; clear e22
              rw [e23] at hT; clear e23
              rw [e24] at hT; clear e24
              rw [e25] at hT; clear e25
              rw [e26] at hT; clear e26
              rw [e27] at hT; clear e27
              rw [e28] at hT; clear e28
              rw [e29] at hT; clear e29
              generalize T[30]?.getD undef = u30 at hT
              generalize T[31]?.getD undef = u31 at hT
              generalize T[32]?.getD undef = u32 at hT
              generalize T[33]?.getD undef = u33 at hT
              generalize T[34]?.getD undef = u34 at hT
              generalize T[35]?.getD undef = u35 at hT
              generalize T[36]?.getD undef = u36 at hT
              generalize T[37]?.getD undef = u37 at hT
              generalize T[38]?.getD undef = u38 at hT
              rw [e39] at hT; clear e39
              rw [e40] at hT; clear e40
              rw [e41] at hT; clear e41
              rw [e42] at hT; clear e42
              rw [e43] at hT; clear e43
              rw [e44] at hT; clear e44
              rw [e45] at hT; clear e45
              rw [e46] at hT; clear e46
              rw [e47] at hT; clear e47
              rw [e48] at hT; clear e48
              rw [e49] at hT; clear e49
              rw [e50] at hT; clear e50
              rw [e51] at hT; clear e51
              rw [e52] at hT; clear e52
              rw [e53] at hT; clear e53
              subst hT
              have hB9 := hB0.on hbF
              have hH9 := hBh.on hbF
              have hr9 : Rd wF (some ⟨ab, off, none⟩) 256 b := Rd.below hrr hbF
              have b9 : Below w.heap.size w wF := (by (have q_hbF := Below.size hbF; (try simp at q_hbF); have q_hbel := Below.size hbel; (try simp at q_hbel); repeat (first | exact Below.refl _ _ | (refine Below.trans ?_ (Below.mono hbF (by first | omega | (simp; omega) | simp))) | (refine Below.trans ?_ (Below.mono hbel (by first | omega | (simp; omega) | simp))) | (refine Below.setCell ?_ (by first | omega | (simp; omega) | simp) _) | (refine Below.alloc ?_ (by first | omega | (simp; omega) | simp) _) | apply Below.drew | apply below_drewN)))
              clear hbF hB0 hBh hrr
              go_wp2_with fail
              cases Y with
              | false =>
                have hGf := Lib.hid (show G = false by rw [hGG.out]; rfl)
                refine wp_flows [(fun y_ _ => y_ = .agg (hd v0 f)), (fun y_ _ => y_ = .bool false), (fun y_ _ => y_ = .bool true), (fun y_ _ => y_ = .bool true), (fun y_ _ => y_ = undef), (fun y_ _ => y_ = undef), (fun y_ _ => y_ = undef), (fun y_ _ => y_ = undef), (fun y_ _ => y_ = undef), (fun y_ _ => y_ = undef), (fun y_ _ => y_ = .bool true)] (by kernel_rfl) ⟨Stab.eq _, Stab.eq _, Stab.eq _, Stab.eq _, Stab.eq _, Stab.eq _, Stab.eq _, Stab.eq _, Stab.eq _, Stab.eq _, Stab.eq _, trivial⟩ (by kernel_rfl) (by rfl) ?_ ?_
                · intro kq hkq
                  match kq, hkq with
                  | 0, _ =>
                    refine StepOk.plain _ 41 rfl rfl rfl [(4, none)] (by kernel_rfl) (fun af wf hbw hf Kf hKf => ?_)
                    obtain ⟨g4, _⟩ := hf
                    have h4 : af.tmps[4]?.getD undef = .pointer (some ⟨w.heap.size + 1, 0, none⟩) := g4
                    clear g4
                    refine wp_load_blk 66 (.tmp 4) rfl (w.heap.size + 1) 0 66 (hd v0 f) (hd v0 f) _ (by simp [Act.eval, h4]) (Blk.on (Blk.drew hH9) hbw) (hd_self v0 f) Try.underlying66 rfl (by kernel_rfl) ?_
                    exact hKf _ _ ((Below.refl _ _)) (rfl)
                  | 1, _ =>
                    refine StepOk.plain _ 42 rfl rfl rfl [(41, some 0)] (by kernel_rfl) (fun af wf hbw hf Kf hKf => ?_)
                    obtain ⟨g41, _⟩ := hf
                    have h41 : af.tmps[41]?.getD undef = .agg (hd v0 f) := g41
                    clear g41
                    go_simp
                    refine (rrightR_any v0 f _ HRF.out).mono ?_
                    rintro e wN ⟨rfl, hb⟩
                    exact hKf _ _ (hb) (congrArg Value.bool HYY.out.symm)
                  | 2, _ =>
                    refine StepOk.plain _ 43 rfl rfl rfl [(42, some 1)] (by kernel_rfl) (fun af wf hbw hf Kf hKf => ?_)
                    obtain ⟨g42, _⟩ := hf
                    have h42 : af.tmps[42]?.getD undef = .bool false := g42
                    clear g42
                    go_simp
                    exact hKf _ _ (Below.refl _ _) rfl
                  | 3, _ =>
                    refine StepOk.plain _ 44 rfl rfl rfl [(43, some 2)] (by kernel_rfl) (fun af wf hbw hf Kf hKf => ?_)
                    obtain ⟨g43, _⟩ := hf
                    have h43 : af.tmps[43]?.getD undef = .bool true := g43
                    clear g43
                    go_simp
                    exact hKf _ _ (Below.refl _ _) rfl
                  | 4, _ => exact StepOk.no _ 45 rfl rfl rfl rfl (fun _ _ h => h) (by decide) (by kernel_rfl) (fun _ => rfl)
                  | 5, _ => exact StepOk.no _ 46 rfl rfl rfl rfl (fun _ _ h => h) (by decide) (by kernel_rfl) (fun _ => rfl)
                  | 6, _ => exact StepOk.no _ 47 rfl rfl rfl rfl (fun _ _ h => h) (by decide) (by kernel_rfl) (fun _ => rfl)
                  | 7, _ => exact StepOk.no _ 48 rfl rfl rfl rfl (fun _ _ h => h) (by decide) (by kernel_rfl) (fun _ => rfl)
                  | 8, _ => exact StepOk.no _ 49 rfl rfl rfl rfl (fun _ _ h => h) (by decide) (by kernel_rfl) (fun _ => rfl)
                  | 9, _ => exact StepOk.no _ 50 rfl rfl rfl rfl (fun _ _ h => h) (by decide) (by kernel_rfl) (fun _ => rfl)
                  | 10, _ =>
                    refine StepOk.plain _ 51 rfl rfl rfl [(44, some 3), (50, some 9)] (by kernel_rfl) (fun af wf hbw hf Kf hKf => ?_)
                    obtain ⟨g44, g50, _⟩ := hf
                    have h44 : af.tmps[44]?.getD undef = .bool true := g44
                    have h50 : af.tmps[50]?.getD undef = undef := g50
                    clear g44 g50
                    go_simp
                    exact hKf _ _ (Below.refl _ _) rfl
                  | i + 11, h => exact absurd h (by show ¬ (i + 11 < 11); omega)
                · intro af wF hbF hdF hsF hbaseF hfactF
                  obtain ⟨T, dsF⟩ := af
                  obtain rfl : dsF = _ := hdF
                  have e0 := hbaseF 0 (not_dst (by kernel_rfl))
                  simp only [List.getElem?_toArray, List.getElem?_cons_zero, Option.getD_some] at e0
                  have e1 := hbaseF 1 (not_dst (by kernel_rfl))
                  simp only [List.getElem?_toArray, List.getElem?_cons_zero, List.getElem?_cons_succ, Option.getD_some] at e1
                  have e2 := hbaseF 2 (not_dst (by kernel_rfl))
                  simp only [List.getElem?_toArray, List.getElem?_cons_zero, List.getElem?_cons_succ, Option.getD_some] at e2
                  have e3 := hbaseF 3 (not_dst (by kernel_rfl))
                  simp only [List.getElem?_toArray, List.getElem?_cons_zero, List.getElem?_cons_succ, Option.getD_some] at e3
                  have e4 := hbaseF 4 (not_dst (by kernel_rfl))
                  simp only [List.getElem?_toArray, List.getElem?_cons_zero, List.getElem?_cons_succ, Option.getD_some] at e4
                  have e5 := hbaseF 5 (not_dst (by kernel_rfl))
                  simp only [List.getElem?_toArray, List.getElem?_cons_zero, List.getElem?_cons_succ, Option.getD_some] at e5
                  have e6 := hbaseF 6 (not_dst (by kernel_rfl))
                  simp only [List.getElem?_toArray, List.getElem?_cons_zero, List.getElem?_cons_succ, Option.getD_some] at e6
                  have e7 := hbaseF 7 (not_dst (by kernel_rfl))
                  simp only [List.getElem?_toArray, List.getElem?_cons_zero, List.getElem?_cons_succ, Option.getD_some] at e7
                  have e8 := hbaseF 8 (not_dst (by kernel_rfl))
                  simp only [List.getElem?_toArray, List.getElem?_cons_zero, List.getElem?_cons_succ, Option.getD_some] at e8
                  have e9 := hbaseF 9 (not_dst (by kernel_rfl))
                  simp only [List.getElem?_toArray, List.getElem?_cons_zero, List.getElem?_cons_succ, Option.getD_some] at e9
                  have e10 := hbaseF 10 (not_dst (by kernel_rfl))
                  simp only [List.getElem?_toArray, List.getElem?_cons_zero, List.getElem?_cons_succ, Option.getD_some] at e10
                  have e11 := hbaseF 11 (not_dst (by kernel_rfl))
                  simp only [List.getElem?_toArray, List.getElem?_cons_zero, List.getElem?_cons_succ, Option.getD_some] at e11
                  have e12 := hbaseF 12 (not_dst (by kernel_rfl))
                  simp only [List.getElem?_toArray, List.getElem?_cons_zero, List.getElem?_cons_succ, Option.getD_some] at e12
                  have e13 := hbaseF 13 (not_dst (by kernel_rfl))
                  simp only [List.getElem?_toArray, List.getElem?_cons_zero, List.getElem?_cons_succ, Option.getD_some] at e13
                  have e14 := hbaseF 14 (not_dst (by kernel_rfl))
                  simp only [List.getElem?_toArray, List.getElem?_cons_zero, List.getElem?_cons_succ, Option.getD_some] at e14
                  have e15 := hbaseF 15 (not_dst (by kernel_rfl))
                  simp only [List.getElem?_toArray, List.getElem?_cons_zero, List.getElem?_cons_succ, Option.getD_some] at e15
                  have e16 := hbaseF 16 (not_dst (by kernel_rfl))
                  simp only [List.getElem?_toArray, List.getElem?_cons_zero, List.getElem?_cons_succ, Option.getD_some] at e16
                  have e17 := hbaseF 17 (not_dst (by kernel_rfl))
                  simp only [List.getElem?_toArray, List.getElem?_cons_zero, List.getElem?_cons_succ, Option.getD_some] at e17
                  have e18 := hbaseF 18 (not_dst (by kernel_rfl))
                  simp only [List.getElem?_toArray, List.getElem?_cons_zero, List.getElem?_cons_succ, Option.getD_some] at e18
                  have e19 := hbaseF 19 (not_dst (by kernel_rfl))
                  simp only [List.getElem?_toArray, List.getElem?_cons_zero, List.getElem?_cons_succ, Option.getD_some] at e19
                  have e20 := hbaseF 20 (not_dst (by kernel_rfl))
                  simp only [List.getElem?_toArray, List.getElem?_cons_zero, List.getElem?_cons_succ, Option.getD_some] at e20
                  have e21 := hbaseF 21 (not_dst (by kernel_rfl))
                  simp only [List.getElem?_toArray, List.getElem?_cons_zero, List.getElem?_cons_succ, Option.getD_some] at e21
                  have e22 := hbaseF 22 (not_dst (by kernel_rfl))
                  simp only [List.getElem?_toArray, List.getElem?_cons_zero, List.getElem?_cons_succ, Option.getD_some] at e22
                  have e23 := hbaseF 23 (not_dst (by kernel_rfl))
                  simp only [List.getElem?_toArray, List.getElem?_cons_zero, List.getElem?_cons_succ, Option.getD_some] at e23
                  have e24 := hbaseF 24 (not_dst (by kernel_rfl))
                  simp only [List.getElem?_toArray, List.getElem?_cons_zero, List.getElem?_cons_succ, Option.getD_some] at e24
                  have e25 := hbaseF 25 (not_dst (by kernel_rfl))
                  simp only [List.getElem?_toArray, List.getElem?_cons_zero, List.getElem?_cons_succ, Option.getD_some] at e25
                  have e26 := hbaseF 26 (not_dst (by kernel_rfl))
                  simp only [List.getElem?_toArray, List.getElem?_cons_zero, List.getElem?_cons_succ, Option.getD_some] at e26
                  have e27 := hbaseF 27 (not_dst (by kernel_rfl))
                  simp only [List.getElem?_toArray, List.getElem?_cons_zero, List.getElem?_cons_succ, Option.getD_some] at e27
                  have e28 := hbaseF 28 (not_dst (by kernel_rfl))
                  simp only [List.getElem?_toArray, List.getElem?_cons_zero, List.getElem?_cons_succ, Option.getD_some] at e28
                  have e29 := hbaseF 29 (not_dst (by kernel_rfl))
                  simp only [List.getElem?_toArray, List.getElem?_cons_zero, List.getElem?_cons_succ, Option.getD_some] at e29
                  have e30 := hbaseF 30 (not_dst (by kernel_rfl))
                  simp only [List.getElem?_toArray, List.getElem?_cons_zero, List.getElem?_cons_succ, Option.getD_some] at e30
                  have e31 := hbaseF 31 (not_dst (by kernel_rfl))
                  simp only [List.getElem?_toArray, List.getElem?_cons_zero, List.getElem?_cons_succ, Option.getD_some] at e31
                  have e32 := hbaseF 32 (not_dst (by kernel_rfl))
                  simp only [List.getElem?_toArray, List.getElem?_cons_zero, List.getElem?_cons_succ, Option.getD_some] at e32
                  have e33 := hbaseF 33 (not_dst (by kernel_rfl))
                  simp only [List.getElem?_toArray, List.getElem?_cons_zero, List.getElem?_cons_succ, Option.getD_some] at e33
                  have e34 := hbaseF 34 (not_dst (by kernel_rfl))
                  simp only [List.getElem?_toArray, List.getElem?_cons_zero, List.getElem?_cons_succ, Option.getD_some] at e34
                  have e35 := hbaseF 35 (not_dst (by kernel_rfl))
                  simp only [List.getElem?_toArray, List.getElem?_cons_zero, List.getElem?_cons_succ, Option.getD_some] at e35
                  have e36 := hbaseF 36 (not_dst (by kernel_rfl))
                  simp only [List.getElem?_toArray, List.getElem?_cons_zero, List.getElem?_cons_succ, Option.getD_some] at e36
                  have e37 := hbaseF 37 (not_dst (by kernel_rfl))
                  simp only [List.getElem?_toArray, List.getElem?_cons_zero, List.getElem?_cons_succ, Option.getD_some] at e37
                  have e38 := hbaseF 38 (not_dst (by kernel_rfl))
                  simp only [List.getElem?_toArray, List.getElem?_cons_zero, List.getElem?_cons_succ, Option.getD_some] at e38
                  have e39 := hbaseF 39 (not_dst (by kernel_rfl))
                  simp only [List.getElem?_toArray, List.getElem?_cons_zero, List.getElem?_cons_succ, Option.getD_some] at e39
                  have e40 := hbaseF 40 (not_dst (by kernel_rfl))
                  simp only [List.getElem?_toArray, List.getElem?_cons_zero, List.getElem?_cons_succ, Option.getD_some] at e40
                  have e52 := hbaseF 52 (not_dst (by kernel_rfl))
                  simp only [List.getElem?_toArray, List.getElem?_cons_zero, List.getElem?_cons_succ, Option.getD_some] at e52
                  have e53 := hbaseF 53 (not_dst (by kernel_rfl))
                  simp only [List.getElem?_toArray, List.getElem?_cons_zero, List.getElem?_cons_succ, Option.getD_some] at e53
                  have e51 := hfactF 10 51 (by decide) rfl
                  replace e51 : T[51]?.getD undef = .bool true := e51
                  clear hbaseF hfactF
                  have hT : T = #[T[0]?.getD undef, T[1]?.getD undef, T[2]?.getD undef, T[3]?.getD undef, T[4]?.getD undef, T[5]?.getD undef, T[6]?.getD undef, T[7]?.getD undef, T[8]?.getD undef, T[9]?.getD undef, T[10]?.getD undef, T[11]?.getD undef, T[12]?.getD undef, T[13]?.getD undef, T[14]?.getD undef, T[15]?.getD undef, T[16]?.getD undef, T[17]?.getD undef, T[18]?.getD undef, T[19]?.getD undef, T[20]?.getD undef, T[21]?.getD undef, T[22]?.getD undef, T[23]?.getD undef, T[24]?.getD undef, T[25]?.getD undef, T[26]?.getD undef, T[27]?.getD undef, T[28]?.getD undef, T[29]?.getD undef, T[30]?.getD undef, T[31]?.getD undef, T[32]?.getD undef, T[33]?.getD undef, T[34]?.getD undef, T[35]?.getD undef, T[36]?.getD undef, T[37]?.getD undef, T[38]?.getD undef, T[39]?.getD undef, T[40]?.getD undef, T[41]?.getD undef, T[42]?.getD undef, T[43]?.getD undef, T[44]?.getD undef, T[45]?.getD undef, T[46]?.getD undef, T[47]?.getD undef, T[48]?.getD undef, T[49]?.getD undef, T[50]?.getD undef, T[51]?.getD undef, T[52]?.getD undef, T[53]?.getD undef] := arr_eq T 54 hsF
                  clear hsF
                  rw [e0] at hT; clear e0
                  rw [e1] at hT; clear e1
                  rw [e2] at hT; clear e2
                  rw [e3] at hT; clear e3
                  rw [e4] at hT; clear e4
                  rw [e5] at hT; clear e5
                  rw [e6] at hT; clear e6
                  rw [e7] at hT; clear e7
                  rw [e8] at hT; clear e8
                  rw [e9] at hT; clear e9
                  rw [e10] at hT; clear e10
                  rw [e11] at hT; clear e11
                  rw [e12] at hT; clear e12
                  rw [e13] at hT; clear e13
                  rw [e14] at hT; clear e14
                  rw [e15] at hT; clear e15
                  rw [e16] at hT; clear e16
                  rw [e17] at hT; clear e17
                  rw [e18] at hT; clear e18
                  rw [e19] at hT; clear e19
                  rw [e20] at hT; clear e20
                  rw [e21] at hT; clear e21
                  rw [e22] at hT; clear e22
                  rw [e23] at hT; clear e23
                  rw [e24] at hT; clear e24
                  rw [e25] at hT; clear e25
                  rw [e26] at hT; clear e26
                  rw [e27] at hT; clear e27
                  rw [e28] at hT; clear e28
                  rw [e29] at hT; clear e29
                  rw [e30] at hT; clear e30
                  rw [e31] at hT; clear e31
                  rw [e32] at hT; clear e32
                  rw [e33] at hT; clear e33
                  rw [e34] at hT; clear e34
                  rw [e35] at hT; clear e35
                  rw [e36] at hT; clear e36
                  rw [e37] at hT; clear e37
                  rw [e38] at hT; clear e38
                  rw [e39] at hT; clear e39
                  rw [e40] at hT; clear e40
                  generalize T[41]?.getD undef = u41 at hT
                  generalize T[42]?.getD undef = u42 at hT
                  generalize T[43]?.getD undef = u43 at hT
                  generalize T[44]?.getD undef = u44 at hT
                  generalize T[45]?.getD undef = u45 at hT
                  generalize T[46]?.getD undef = u46 at hT
                  generalize T[47]?.getD undef = u47 at hT
                  generalize T[48]?.getD undef = u48 at hT
                  generalize T[49]?.getD undef = u49 at hT
                  generalize T[50]?.getD undef = u50 at hT
                  rw [e51] at hT; clear e51
                  rw [e52] at hT; clear e52
                  rw [e53] at hT; clear e53
                  subst hT
                  have hBx := hB9.on hbF
                  have bx : Below w.heap.size w wF := (by (have q_hbF := Below.size hbF; (try simp at q_hbF); have q_b9 := Below.size b9; (try simp at q_b9); repeat (first | exact Below.refl _ _ | (refine Below.trans ?_ (Below.mono hbF (by first | omega | (simp; omega) | simp))) | (refine Below.trans ?_ (Below.mono b9 (by first | omega | (simp; omega) | simp))) | (refine Below.setCell ?_ (by first | omega | (simp; omega) | simp) _) | (refine Below.alloc ?_ (by first | omega | (simp; omega) | simp) _) | apply Below.drew | apply below_drewN)))
                  go_wp2_with (refine wpList_store_blk rfl 66 (.tmp 2) (.tmp 52) rfl w.heap.size 66 (hz 0) (hz 0) rfl rfl hBx rfl (by kernel_rfl) (hz_one 0) ?_; intro W9 hC9 hK9)
                  refine ret_cell2 (p := 2) (u := 3) rfl rfl rfl hC9 _ Try.underlying66 rfl (by kernel_rfl) rfl ⟨by rw [P1.out, P2.out, P3.out, hGf.out]; rfl, bx.trans (hK9.below bx.size (by simp))⟩
              | true =>
                have hENl : EN.length = 256 := by rw [HEN.out]; exact encR_len v0 f
                by_cases hEb : EN = b
                · have hGt := Lib.hid (show G = true by rw [hGG.out, decide_eq_true hEb]; rfl)
                  have hqe := Lib.hid (show ((str EN).toList == (str b).toList) = true by rw [hEb]; simp)
                  clear hEb
                  refine wp_flows [(fun y_ _ => y_ = .agg (hd v0 f)), (fun y_ _ => y_ = .bool true), (fun y_ _ => y_ = .bool false), (fun y_ _ => y_ = .bool false), (fun y_ _ => y_ = .agg (hd v0 f)), (IsB (256) (EN)), (fun y_ _ => y_ = .string (str (EN))), (fun y_ _ => y_ = .slice (some ⟨ab, off, none⟩) 256 c), (fun y_ _ => y_ = .string (str (b))), (fun y_ _ => y_ = .bool false), (fun y_ _ => y_ = .bool false)] (by kernel_rfl) ⟨Stab.eq _, Stab.eq _, Stab.eq _, Stab.eq _, Stab.eq _, Stab.b _ _, Stab.eq _, Stab.eq _, Stab.eq _, Stab.eq _, Stab.eq _, trivial⟩ (by kernel_rfl) (by rfl) ?_ ?_
                  · intro kq hkq
                    match kq, hkq with
                    | 0, _ =>
                      refine StepOk.plain _ 41 rfl rfl rfl [(4, none)] (by kernel_rfl) (fun af wf hbw hf Kf hKf => ?_)
                      obtain ⟨g4, _⟩ := hf
                      have h4 : af.tmps[4]?.getD undef = .pointer (some ⟨w.heap.size + 1, 0, none⟩) := g4
                      clear g4
                      refine wp_load_blk 66 (.tmp 4) rfl (w.heap.size + 1) 0 66 (hd v0 f) (hd v0 f) _ (by simp [Act.eval, h4]) (Blk.on (Blk.drew hH9) hbw) (hd_self v0 f) Try.underlying66 rfl (by kernel_rfl) ?_
                      exact hKf _ _ ((Below.refl _ _)) (rfl)
                    | 1, _ =>
                      refine StepOk.plain _ 42 rfl rfl rfl [(41, some 0)] (by kernel_rfl) (fun af wf hbw hf Kf hKf => ?_)
                      obtain ⟨g41, _⟩ := hf
                      have h41 : af.tmps[41]?.getD undef = .agg (hd v0 f) := g41
                      clear g41
                      go_simp
                      refine (rrightR_any v0 f _ HRF.out).mono ?_
                      rintro e wN ⟨rfl, hb⟩
                      exact hKf _ _ (hb) (congrArg Value.bool HYY.out.symm)
                    | 2, _ =>
                      refine StepOk.plain _ 43 rfl rfl rfl [(42, some 1)] (by kernel_rfl) (fun af wf hbw hf Kf hKf => ?_)
                      obtain ⟨g42, _⟩ := hf
                      have h42 : af.tmps[42]?.getD undef = .bool true := g42
                      clear g42
                      go_simp
                      exact hKf _ _ (Below.refl _ _) rfl
                    | 3, _ =>
                      refine StepOk.plain _ 44 rfl rfl rfl [(43, some 2)] (by kernel_rfl) (fun af wf hbw hf Kf hKf => ?_)
                      obtain ⟨g43, _⟩ := hf
                      have h43 : af.tmps[43]?.getD undef = .bool false := g43
                      clear g43
                      go_simp
                      exact hKf _ _ (Below.refl _ _) rfl
                    | 4, _ =>
                      refine StepOk.yes _ 45 rfl rfl rfl rfl (fun _ _ h => h) [(4, none)] (by kernel_rfl) (fun af wf hbw hf Kf hKf => ?_)
                      obtain ⟨g4, _⟩ := hf
                      have h4 : af.tmps[4]?.getD undef = .pointer (some ⟨w.heap.size + 1, 0, none⟩) := g4
                      clear g4
                      refine wp_load_blk 66 (.tmp 4) rfl (w.heap.size + 1) 0 66 (hd v0 f) (hd v0 f) _ (by simp [Act.eval, h4]) (Blk.on (Blk.drew hH9) hbw) (hd_self v0 f) Try.underlying66 rfl (by kernel_rfl) ?_
                      exact hKf _ _ ((Below.refl _ _)) (rfl)
                    | 5, _ =>
                      refine StepOk.yes _ 46 rfl rfl rfl rfl (fun _ _ h => h) [(45, some 4)] (by kernel_rfl) (fun af wf hbw hf Kf hKf => ?_)
                      obtain ⟨g45, _⟩ := hf
                      have h45 : af.tmps[45]?.getD undef = .agg (hd v0 f) := g45
                      clear g45
                      go_simp
                      refine (rbytesR_any v0 f _ r0.1 r0.2 HRF.out).mono ?_
                      rintro e wN ⟨v6, rfl, hF6, hb6⟩
                      exact hKf _ _ (hb6) ((isB_of (by rw [HEN.out]; exact hF6) hENl))
                    | 6, _ =>
                      refine StepOk.yes _ 47 rfl rfl rfl rfl (fun _ _ h => h) [(46, some 5)] (by kernel_rfl) (fun af wf hbw hf Kf hKf => ?_)
                      obtain ⟨g46, _⟩ := hf
                      obtain ⟨A46, c46, h46, hR46, hn46, hm46⟩ : IsB (256) (EN) (af.tmps[46]?.getD undef) wf := g46
                      have hcv := conv c46 _ hR46
                      go_simp
                      exact hKf _ _ (Below.refl _ _) rfl
                    | 7, _ =>
                      refine StepOk.yes _ 48 rfl rfl rfl rfl (fun _ _ h => h) [(0, none)] (by kernel_rfl) (fun af wf hbw hf Kf hKf => ?_)
                      obtain ⟨g0, _⟩ := hf
                      have h0 : af.tmps[0]?.getD undef = .slice (some ⟨ab, off, none⟩) 256 c := g0
                      clear g0
                      go_simp
                      exact hKf _ _ (Below.refl _ _) rfl
                    | 8, _ =>
                      refine StepOk.yes _ 49 rfl rfl rfl rfl (fun _ _ h => h) [(48, some 7)] (by kernel_rfl) (fun af wf hbw hf Kf hKf => ?_)
                      obtain ⟨g48, _⟩ := hf
                      have h48 : af.tmps[48]?.getD undef = .slice (some ⟨ab, off, none⟩) 256 c := g48
                      clear g48
                      have hcv := conv c _ (Rd.below (Rd.drew (hr9)) hbw)
                      go_simp
                      exact hKf _ _ (Below.refl _ _) rfl
                    | 9, _ =>
                      refine StepOk.yes _ 50 rfl rfl rfl rfl (fun _ _ h => h) [(47, some 6), (49, some 8)] (by kernel_rfl) (fun af wf hbw hf Kf hKf => ?_)
                      obtain ⟨g47, g49, _⟩ := hf
                      have h47 : af.tmps[47]?.getD undef = .string (str (EN)) := g47
                      have h49 : af.tmps[49]?.getD undef = .string (str (b)) := g49
                      clear g47 g49
                      have hq := hqe.out
                      go_simp
                      exact hKf _ _ (Below.refl _ _) rfl
                    | 10, _ =>
                      refine StepOk.plain _ 51 rfl rfl rfl [(44, some 3), (50, some 9)] (by kernel_rfl) (fun af wf hbw hf Kf hKf => ?_)
                      obtain ⟨g44, g50, _⟩ := hf
                      have h44 : af.tmps[44]?.getD undef = .bool false := g44
                      have h50 : af.tmps[50]?.getD undef = .bool false := g50
                      clear g44 g50
                      go_simp
                      exact hKf _ _ (Below.refl _ _) rfl
                    | i + 11, h => exact absurd h (by show ¬ (i + 11 < 11); omega)
                  · intro af wF hbF hdF hsF hbaseF hfactF
                    obtain ⟨T, dsF⟩ := af
                    obtain rfl : dsF = _ := hdF
                    have e0 := hbaseF 0 (not_dst (by kernel_rfl))
                    simp only [List.getElem?_toArray, List.getElem?_cons_zero, Option.getD_some] at e0
                    have e1 := hbaseF 1 (not_dst (by kernel_rfl))
                    simp only [List.getElem?_toArray, List.getElem?_cons_zero, List.getElem?_cons_succ, Option.getD_some] at e1
                    have e2 := hbaseF 2 (not_dst (by kernel_rfl))
                    simp only [List.getElem?_toArray, List.getElem?_cons_zero, List.getElem?_cons_succ, Option.getD_some] at e2
                    have e3 := hbaseF 3 (not_dst (by kernel_rfl))
                    simp only [List.getElem?_toArray, List.getElem?_cons_zero, List.getElem?_cons_succ, Option.getD_some] at e3
                    have e4 := hbaseF 4 (not_dst (by kernel_rfl))
                    simp only [List.getElem?_toArray, List.getElem?_cons_zero, List.getElem?_cons_succ, Option.getD_some] at e4
                    have e5 := hbaseF 5 (not_dst (by kernel_rfl))
                    simp only [List.getElem?_toArray, List.getElem?_cons_zero, List.getElem?_cons_succ, Option.getD_some] at e5
                    have e6 := hbaseF 6 (not_dst (by kernel_rfl))
                    simp only [List.getElem?_toArray, List.getElem?_cons_zero, List.getElem?_cons_succ, Option.getD_some] at e6
                    have e7 := hbaseF 7 (not_dst (by kernel_rfl))
                    simp only [List.getElem?_toArray, List.getElem?_cons_zero, List.getElem?_cons_succ, Option.getD_some] at e7
                    have e8 := hbaseF 8 (not_dst (by kernel_rfl))
                    simp only [List.getElem?_toArray, List.getElem?_cons_zero, List.getElem?_cons_succ, Option.getD_some] at e8
                    have e9 := hbaseF 9 (not_dst (by kernel_rfl))
                    simp only [List.getElem?_toArray, List.getElem?_cons_zero, List.getElem?_cons_succ, Option.getD_some] at e9
                    have e10 := hbaseF 10 (not_dst (by kernel_rfl))
                    simp only [List.getElem?_toArray, List.getElem?_cons_zero, List.getElem?_cons_succ, Option.getD_some] at e10
                    have e11 := hbaseF 11 (not_dst (by kernel_rfl))
                    simp only [List.getElem?_toArray, List.getElem?_cons_zero, List.getElem?_cons_succ, Option.getD_some] at e11
                    have e12 := hbaseF 12 (not_dst (by kernel_rfl))
                    simp only [List.getElem?_toArray, List.getElem?_cons_zero, List.getElem?_cons_succ, Option.getD_some] at e12
                    have e13 := hbaseF 13 (not_dst (by kernel_rfl))
                    simp only [List.getElem?_toArray, List.getElem?_cons_zero, List.getElem?_cons_succ, Option.getD_some] at e13
                    have e14 := hbaseF 14 (not_dst (by kernel_rfl))
                    simp only [List.getElem?_toArray, List.getElem?_cons_zero, List.getElem?_cons_succ, Option.getD_some] at e14
                    have e15 := hbaseF 15 (not_dst (by kernel_rfl))
                    simp only [List.getElem?_toArray, List.getElem?_cons_zero, List.getElem?_cons_succ, Option.getD_some] at e15
                    have e16 := hbaseF 16 (not_dst (by kernel_rfl))
                    simp only [List.getElem?_toArray, List.getElem?_cons_zero, List.getElem?_cons_succ, Option.getD_some] at e16
                    have e17 := hbaseF 17 (not_dst (by kernel_rfl))
                    simp only [List.getElem?_toArray, List.getElem?_cons_zero, List.getElem?_cons_succ, Option.getD_some] at e17
                    have e18 := hbaseF 18 (not_dst (by kernel_rfl))
                    simp only [List.getElem?_toArray, List.getElem?_cons_zero, List.getElem?_cons_succ, Option.getD_some] at e18
                    have e19 := hbaseF 19 (not_dst (by kernel_rfl))
                    simp only [List.getElem?_toArray, List.getElem?_cons_zero, List.getElem?_cons_succ, Option.getD_some] at e19
                    have e20 := hbaseF 20 (not_dst (by kernel_rfl))
                    simp only [List.getElem?_toArray, List.getElem?_cons_zero, List.getElem?_cons_succ, Option.getD_some] at e20
                    have e21 := hbaseF 21 (not_dst (by kernel_rfl))
                    simp only [List.getElem?_toArray, List.getElem?_cons_zero, List.getElem?_cons_succ, Option.getD_some] at e21
                    have e22 := hbaseF 22 (not_dst (by kernel_rfl))
                    simp only [List.getElem?_toArray, List.getElem?_cons_zero, List.getElem?_cons_succ, Option.getD_some] at e22
                    have e23 := hbaseF 23 (not_dst (by kernel_rfl))
                    simp only [List.getElem?_toArray, List.getElem?_cons_zero, List.getElem?_cons_succ, Option.getD_some] at e23
                    have e24 := hbaseF 24 (not_dst (by kernel_rfl))
                    simp only [List.getElem?_toArray, List.getElem?_cons_zero, List.getElem?_cons_succ, Option.getD_some] at e24
                    have e25 := hbaseF 25 (not_dst (by kernel_rfl))
                    simp only [List.getElem?_toArray, List.getElem?_cons_zero, List.getElem?_cons_succ, Option.getD_some] at e25
                    have e26 := hbaseF 26 (not_dst (by kernel_rfl))
                    simp only [List.getElem?_toArray, List.getElem?_cons_zero, List.getElem?_cons_succ, Option.getD_some] at e26
                    have e27 := hbaseF 27 (not_dst (by kernel_rfl))
                    simp only [List.getElem?_toArray, List.getElem?_cons_zero, List.getElem?_cons_succ, Option.getD_some] at e27
                    have e28 := hbaseF 28 (not_dst (by kernel_rfl))
                    simp only [List.getElem?_toArray, List.getElem?_cons_zero, List.getElem?_cons_succ, Option.getD_some] at e28
                    have e29 := hbaseF 29 (not_dst (by kernel_rfl))
                    simp only [List.getElem?_toArray, List.getElem?_cons_zero, List.getElem?_cons_succ, Option.getD_some] at e29
                    have e30 := hbaseF 30 (not_dst (by kernel_rfl))
                    simp only [List.getElem?_toArray, List.getElem?_cons_zero, List.getElem?_cons_succ, Option.getD_some] at e30
                    have e31 := hbaseF 31 (not_dst (by kernel_rfl))
                    simp only [List.getElem?_toArray, List.getElem?_cons_zero, List.getElem?_cons_succ, Option.getD_some] at e31
                    have e32 := hbaseF 32 (not_dst (by kernel_rfl))
                    simp only [List.getElem?_toArray, List.getElem?_cons_zero, List.getElem?_cons_succ, Option.getD_some] at e32
                    have e33 := hbaseF 33 (not_dst (by kernel_rfl))
                    simp only [List.getElem?_toArray, List.getElem?_cons_zero, List.getElem?_cons_succ, Option.getD_some] at e33
                    have e34 := hbaseF 34 (not_dst (by kernel_rfl))
                    simp only [List.getElem?_toArray, List.getElem?_cons_zero, List.getElem?_cons_succ, Option.getD_some] at e34
                    have e35 := hbaseF 35 (not_dst (by kernel_rfl))
                    simp only [List.getElem?_toArray, List.getElem?_cons_zero, List.getElem?_cons_succ, Option.getD_some] at e35
                    have e36 := hbaseF 36 (not_dst (by kernel_rfl))
                    simp only [List.getElem?_toArray, List.getElem?_cons_zero, List.getElem?_cons_succ, Option.getD_some] at e36
                    have e37 := hbaseF 37 (not_dst (by kernel_rfl))
                    simp only [List.getElem?_toArray, List.getElem?_cons_zero, List.getElem?_cons_succ, Option.getD_some] at e37
                    have e38 := hbaseF 38 (not_dst (by kernel_rfl))
                    simp only [List.getElem?_toArray, List.getElem?_cons_zero, List.getElem?_cons_succ, Option.getD_some] at e38
                    have e39 := hbaseF 39 (not_dst (by kernel_rfl))
                    simp only [List.getElem?_toArray, List.getElem?_cons_zero, List.getElem?_cons_succ, Option.getD_some] at e39
                    have e40 := hbaseF 40 (not_dst (by kernel_rfl))
                    simp only [List.getElem?_toArray, List.getElem?_cons_zero, List.getElem?_cons_succ, Option.getD_some] at e40
                    have e52 := hbaseF 52 (not_dst (by kernel_rfl))
                    simp only [List.getElem?_toArray, List.getElem?_cons_zero, List.getElem?_cons_succ, Option.getD_some] at e52
                    have e53 := hbaseF 53 (not_dst (by kernel_rfl))
                    simp only [List.getElem?_toArray, List.getElem?_cons_zero, List.getElem?_cons_succ, Option.getD_some] at e53
                    have e51 := hfactF 10 51 (by decide) rfl
                    replace e51 : T[51]?.getD undef = .bool false := e51
                    clear hbaseF hfactF
                    have hT : T = #[T[0]?.getD undef, T[1]?.getD undef, T[2]?.getD undef, T[3]?.getD undef, T[4]?.getD undef, T[5]?.getD undef, T[6]?.getD undef, T[7]?.getD undef, T[8]?.getD undef, T[9]?.getD undef, T[10]?.getD undef, T[11]?.getD undef, T[12]?.getD undef, T[13]?.getD undef, T[14]?.getD undef, T[15]?.getD undef, T[16]?.getD undef, T[17]?.getD undef, T[18]?.getD undef, T[19]?.getD undef, T[20]?.getD undef, T[21]?.getD undef, T[22]?.getD undef, T[23]?.getD undef, T[24]?.getD undef, T[25]?.getD undef, T[26]?.getD undef, T[27]?.getD undef, T[28]?.getD undef, T[29]?.getD undef, T[30]?.getD undef, T[31]?.getD undef, T[32]?.getD undef, T[33]?.getD undef, T[34]?.getD undef, T[35]?.getD undef, T[36]?.getD undef, T[37]?.getD undef, T[38]?.getD undef, T[39]?.getD undef, T[40]?.getD undef, T[41]?.getD undef, T[42]?.getD undef, T[43]?.getD undef, T[44]?.getD undef, T[45]?.getD undef, T[46]?.getD undef, T[47]?.getD undef, T[48]?.getD undef, T[49]?.getD undef, T[50]?.getD undef, T[51]?.getD undef, T[52]?.getD undef, T[53]?.getD undef] := arr_eq T 54 hsF
                    clear hsF
                    rw [e0] at hT; clear e0
                    rw [e1] at hT; clear e1
                    rw [e2] at hT; clear e2
                    rw [e3] at hT; clear e3
                    rw [e4] at hT; clear e4
                    rw [e5] at hT; clear e5
                    rw [e6] at hT; clear e6
                    rw [e7] at hT; clear e7
                    rw [e8] at hT; clear e8
                    rw [e9] at hT; clear e9
                    rw [e10] at hT; clear e10
                    rw [e11] at hT; clear e11
                    rw [e12] at hT; clear e12
                    rw [e13] at hT; clear e13
                    rw [e14] at hT; clear e14
                    rw [e15] at hT; clear e15
                    rw [e16] at hT; clear e16
                    rw [e17] at hT; clear e17
                    rw [e18] at hT; clear e18
                    rw [e19] at hT; clear e19
                    rw [e20] at hT; clear e20
                    rw [e21] at hT; clear e21
                    rw [e22] at hT; clear e22
                    rw [e23] at hT; clear e23
                    rw [e24] at hT; clear e24
                    rw [e25] at hT; clear e25
                    rw [e26] at hT; clear e26
                    rw [e27] at hT; clear e27
                    rw [e28] at hT; clear e28
                    rw [e29] at hT; clear e29
                    rw [e30] at hT; clear e30
                    rw [e31] at hT; clear e31
                    rw [e32] at hT; clear e32
                    rw [e33] at hT; clear e33
                    rw [e34] at hT; clear e34
                    rw [e35] at hT; clear e35
                    rw [e36] at hT; clear e36
                    rw [e37] at hT; clear e37
                    rw [e38] at hT; clear e38
                    rw [e39] at hT; clear e39
                    rw [e40] at hT; clear e40
                    generalize T[41]?.getD undef = u41 at hT
                    generalize T[42]?.getD undef = u42 at hT
                    generalize T[43]?.getD undef = u43 at hT
                    generalize T[44]?.getD undef = u44 at hT
                    generalize T[45]?.getD undef = u45 at hT
                    generalize T[46]?.getD undef = u46 at hT
                    generalize T[47]?.getD undef = u47 at hT
                    generalize T[48]?.getD undef = u48 at hT
                    generalize T[49]?.getD undef = u49 at hT
                    generalize T[50]?.getD undef = u50 at hT
                    rw [e51] at hT; clear e51
                    rw [e52] at hT; clear e52
                    rw [e53] at hT; clear e53
                    subst hT
                    have hBx := hB9.on hbF
                    have hHx := hH9.on hbF
                    have bx : Below w.heap.size w wF := (by (have q_hbF := Below.size hbF; (try simp at q_hbF); have q_b9 := Below.size b9; (try simp at q_b9); repeat (first | exact Below.refl _ _ | (refine Below.trans ?_ (Below.mono hbF (by first | omega | (simp; omega) | simp))) | (refine Below.trans ?_ (Below.mono b9 (by first | omega | (simp; omega) | simp))) | (refine Below.setCell ?_ (by first | omega | (simp; omega) | simp) _) | (refine Below.alloc ?_ (by first | omega | (simp; omega) | simp) _) | apply Below.drew | apply below_drewN)))
                    go_wp2_with (first | (refine wpList_load_blk rfl 66 (.tmp 4) rfl (w.heap.size + 1) 0 66 (hd v0 f) (hd v0 f) _ rfl hHx (hd_self v0 f) Try.underlying66 rfl (by kernel_rfl) ?_) | (refine wpList_store_blk rfl 66 (.tmp 2) (.tmp 53) rfl w.heap.size 66 (hz 0) (hd v0 f) rfl rfl hBx rfl (by kernel_rfl) (hd_one v0 f) ?_; intro W9 hC9 hK9))
                    refine ret_cell2 (p := 2) (u := 3) rfl rfl rfl hC9 _ Try.underlying66 rfl (by kernel_rfl) rfl ⟨by rw [P1.out, P2.out, P3.out, hGt.out]; rfl, bx.trans (hK9.below bx.size (by simp))⟩
                · have hGf := Lib.hid (show G = false by rw [hGG.out, decide_eq_false hEb]; rfl)
                  have hqe := Lib.hid (show ((str EN).toList == (str b).toList) = false by
                    have : ((str EN).toList == (str b).toList) = decide (EN = b) := by rw [Bool.eq_iff_iff]; simp [str_toL]
                    rw [this]
                    exact decide_eq_false hEb)
                  clear hEb
                  refine wp_flows [(fun y_ _ => y_ = .agg (hd v0 f)), (fun y_ _ => y_ = .bool true), (fun y_ _ => y_ = .bool false), (fun y_ _ => y_ = .bool false), (fun y_ _ => y_ = .agg (hd v0 f)), (IsB (256) (EN)), (fun y_ _ => y_ = .string (str (EN))), (fun y_ _ => y_ = .slice (some ⟨ab, off, none⟩) 256 c), (fun y_ _ => y_ = .string (str (b))), (fun y_ _ => y_ = .bool true), (fun y_ _ => y_ = .bool true)] (by kernel_rfl) ⟨Stab.eq _, Stab.eq _, Stab.eq _, Stab.eq _, Stab.eq _, Stab.b _ _, Stab.eq _, Stab.eq _, Stab.eq _, Stab.eq _, Stab.eq _, trivial⟩ (by kernel_rfl) (by rfl) ?_ ?_
                  · intro kq hkq
                    match kq, hkq with
                    | 0, _ =>
                      refine StepOk.plain _ 41 rfl rfl rfl [(4, none)] (by kernel_rfl) (fun af wf hbw hf Kf hKf => ?_)
                      obtain ⟨g4, _⟩ := hf
                      have h4 : af.tmps[4]?.getD undef = .pointer (some ⟨w.heap.size + 1, 0, none⟩) := g4
                      clear g4
                      refine wp_load_blk 66 (.tmp 4) rfl (w.heap.size + 1) 0 66 (hd v0 f) (hd v0 f) _ (by simp [Act.eval, h4]) (Blk.on (Blk.drew hH9) hbw) (hd_self v0 f) Try.underlying66 rfl (by kernel_rfl) ?_
                      exact hKf _ _ ((Below.refl _ _)) (rfl)
                    | 1, _ =>
                      refine StepOk.plain _ 42 rfl rfl rfl [(41, some 0)] (by kernel_rfl) (fun af wf hbw hf Kf hKf => ?_)
                      obtain ⟨g41, _⟩ := hf
                      have h41 : af.tmps[41]?.getD undef = .agg (hd v0 f) := g41
                      clear g41
                      go_simp
                      refine (rrightR_any v0 f _ HRF.out).mono ?_
                      rintro e wN ⟨rfl, hb⟩
                      exact hKf _ _ (hb) (congrArg Value.bool HYY.out.symm)
                    | 2, _ =>
                      refine StepOk.plain _ 43 rfl rfl rfl [(42, some 1)] (by kernel_rfl) (fun af wf hbw hf Kf hKf => ?_)
                      obtain ⟨g42, _⟩ := hf
                      have h42 : af.tmps[42]?.getD undef = .bool true := g42
                      clear g42
                      go_simp
                      exact hKf _ _ (Below.refl _ _) rfl
                    | 3, _ =>
                      refine StepOk.plain _ 44 rfl rfl rfl [(43, some 2)] (by kernel_rfl) (fun af wf hbw hf Kf hKf => ?_)
                      obtain ⟨g43, _⟩ := hf
                      have h43 : af.tmps[43]?.getD undef = .bool false := g43
                      clear g43
                      go_simp
                      exact hKf _ _ (Below.refl _ _) rfl
                    | 4, _ =>
                      refine StepOk.yes _ 45 rfl rfl rfl rfl (fun _ _ h => h) [(4, none)] (by kernel_rfl) (fun af wf hbw hf Kf hKf => ?_)
                      obtain ⟨g4, _⟩ := hf
                      have h4 : af.tmps[4]?.getD undef = .pointer (some ⟨w.heap.size + 1, 0, none⟩) := g4
                      clear g4
                      refine wp_load_blk 66 (.tmp 4) rfl (w.heap.size + 1) 0 66 (hd v0 f) (hd v0 f) _ (by simp [Act.eval, h4]) (Blk.on (Blk.drew hH9) hbw) (hd_self v0 f) Try.underlying66 rfl (by kernel_rfl) ?_
                      exact hKf _ _ ((Below.refl _ _)) (rfl)
                    | 5, _ =>
                      refine StepOk.yes _ 46 rfl rfl rfl rfl (fun _ _ h => h) [(45, some 4)] (by kernel_rfl) (fun af wf hbw hf Kf hKf => ?_)
                      obtain ⟨g45, _⟩ := hf
                      have h45 : af.tmps[45]?.getD undef = .agg (hd v0 f) := g45
                      clear g45
                      go_simp
                      refine (rbytesR_any v0 f _ r0.1 r0.2 HRF.out).mono ?_
                      rintro e wN ⟨v6, rfl, hF6, hb6⟩
                      exact hKf _ _ (hb6) ((isB_of (by rw [HEN.out]; exact hF6) hENl))
                    | 6, _ =>
                      refine StepOk.yes _ 47 rfl rfl rfl rfl (fun _ _ h => h) [(46, some 5)] (by kernel_rfl) (fun af wf hbw hf Kf hKf => ?_)
                      obtain ⟨g46, _⟩ := hf
                      obtain ⟨A46, c46, h46, hR46, hn46, hm46⟩ : IsB (256) (EN) (af.tmps[46]?.getD undef) wf := g46
                      have hcv := conv c46 _ hR46
                      go_simp
                      exact hKf _ _ (Below.refl _ _) rfl
                    | 7, _ =>
                      refine StepOk.yes _ 48 rfl rfl rfl rfl (fun _ _ h => h) [(0, none)] (by kernel_rfl) (fun af wf hbw hf Kf hKf => ?_)
                      obtain ⟨g0, _⟩ := hf
                      have h0 : af.tmps[0]?.getD undef = .slice (some ⟨ab, off, none⟩) 256 c := g0
                      clear g0
                      go_simp
                      exact hKf _ _ (Below.refl _ _) rfl
                    | 8, _ =>
                      refine StepOk.yes _ 49 rfl rfl rfl rfl (fun _ _ h => h) [(48, some 7)] (by kernel_rfl) (fun af wf hbw hf Kf hKf => ?_)
                      obtain ⟨g48, _⟩ := hf
                      have h48 : af.tmps[48]?.getD undef = .slice (some ⟨ab, off, none⟩) 256 c := g48
                      clear g48
                      have hcv := conv c _ (Rd.below (Rd.drew (hr9)) hbw)
                      go_simp
                      exact hKf _ _ (Below.refl _ _) rfl
                    | 9, _ =>
                      refine StepOk.yes _ 50 rfl rfl rfl rfl (fun _ _ h => h) [(47, some 6), (49, some 8)] (by kernel_rfl) (fun af wf hbw hf Kf hKf => ?_)
                      obtain ⟨g47, g49, _⟩ := hf
                      have h47 : af.tmps[47]?.getD undef = .string (str (EN)) := g47
                      have h49 : af.tmps[49]?.getD undef = .string (str (b)) := g49
                      clear g47 g49
                      have hq := hqe.out
                      go_simp
                      exact hKf _ _ (Below.refl _ _) rfl
                    | 10, _ =>
                      refine StepOk.plain _ 51 rfl rfl rfl [(44, some 3), (50, some 9)] (by kernel_rfl) (fun af wf hbw hf Kf hKf => ?_)
                      obtain ⟨g44, g50, _⟩ := hf
                      have h44 : af.tmps[44]?.getD undef = .bool false := g44
                      have h50 : af.tmps[50]?.getD undef = .bool true := g50
                      clear g44 g50
                      go_simp
                      exact hKf _ _ (Below.refl _ _) rfl
                    | i + 11, h => exact absurd h (by show ¬ (i + 11 < 11); omega)
                  · intro af wF hbF hdF hsF hbaseF hfactF
                    obtain ⟨T, dsF⟩ := af
                    obtain rfl : dsF = _ := hdF
                    have e0 := hbaseF 0 (not_dst (by kernel_rfl))
                    simp only [List.getElem?_toArray, List.getElem?_cons_zero, Option.getD_some] at e0
                    have e1 := hbaseF 1 (not_dst (by kernel_rfl))
                    simp only [List.getElem?_toArray, List.getElem?_cons_zero, List.getElem?_cons_succ, Option.getD_some] at e1
                    have e2 := hbaseF 2 (not_dst (by kernel_rfl))
                    simp only [List.getElem?_toArray, List.getElem?_cons_zero, List.getElem?_cons_succ, Option.getD_some] at e2
                    have e3 := hbaseF 3 (not_dst (by kernel_rfl))
                    simp only [List.getElem?_toArray, List.getElem?_cons_zero, List.getElem?_cons_succ, Option.getD_some] at e3
                    have e4 := hbaseF 4 (not_dst (by kernel_rfl))
                    simp only [List.getElem?_toArray, List.getElem?_cons_zero, List.getElem?_cons_succ, Option.getD_some] at e4
                    have e5 := hbaseF 5 (not_dst (by kernel_rfl))
                    simp only [List.getElem?_toArray, List.getElem?_cons_zero, List.getElem?_cons_succ, Option.getD_some] at e5
                    have e6 := hbaseF 6 (not_dst (by kernel_rfl))
                    simp only [List.getElem?_toArray, List.getElem?_cons_zero, List.getElem?_cons_succ, Option.getD_some] at e6
                    have e7 := hbaseF 7 (not_dst (by kernel_rfl))
                    simp only [List.getElem?_toArray, List.getElem?_cons_zero, List.getElem?_cons_succ, Option.getD_some] at e7
                    have e8 := hbaseF 8 (not_dst (by kernel_rfl))
                    simp only [List.getElem?_toArray, List.getElem?_cons_zero, List.getElem?_cons_succ, Option.getD_some] at e8
                    have e9 := hbaseF 9 (not_dst (by kernel_rfl))
                    simp only [List.getElem?_toArray, List.getElem?_cons_zero, List.getElem?_cons_succ, Option.getD_some] at e9
                    have e10 := hbaseF 10 (not_dst (by kernel_rfl))
                    simp only [List.getElem?_toArray, List.getElem?_cons_zero, List.getElem?_cons_succ, Option.getD_some] at e10
                    have e11 := hbaseF 11 (not_dst (by kernel_rfl))
                    simp only [List.getElem?_toArray, List.getElem?_cons_zero, List.getElem?_cons_succ, Option.getD_some] at e11
                    have e12 := hbaseF 12 (not_dst (by kernel_rfl))
                    simp only [List.getElem?_toArray, List.getElem?_cons_zero, List.getElem?_cons_succ, Option.getD_some] at e12
                    have e13 := hbaseF 13 (not_dst (by kernel_rfl))
                    simp only [List.getElem?_toArray, List.getElem?_cons_zero, List.getElem?_cons_succ, Option.getD_some] at e13
                    have e14 := hbaseF 14 (not_dst (by kernel_rfl))
                    simp only [List.getElem?_toArray, List.getElem?_cons_zero, List.getElem?_cons_succ, Option.getD_some] at e14
                    have e15 := hbaseF 15 (not_dst (by kernel_rfl))
                    simp only [List.getElem?_toArray, List.getElem?_cons_zero, List.getElem?_cons_succ, Option.getD_some] at e15
                    have e16 := hbaseF 16 (not_dst (by kernel_rfl))
                    simp only [List.getElem?_toArray, List.getElem?_cons_zero, List.getElem?_cons_succ, Option.getD_some] at e16
                    have e17 := hbaseF 17 (not_dst (by kernel_rfl))
                    simp only [List.getElem?_toArray, List.getElem?_cons_zero, List.getElem?_cons_succ, Option.getD_some] at e17
                    have e18 := hbaseF 18 (not_dst (by kernel_rfl))
                    simp only [List.getElem?_toArray, List.getElem?_cons_zero, List.getElem?_cons_succ, Option.getD_some] at e18
                    have e19 := hbaseF 19 (not_dst (by kernel_rfl))
                    simp only [List.getElem?_toArray, List.getElem?_cons_zero, List.getElem?_cons_succ, Option.getD_some] at e19
                    have e20 := hbaseF 20 (not_dst (by kernel_rfl))
                    simp only [List.getElem?_toArray, List.getElem?_cons_zero, List.getElem?_cons_succ, Option.getD_some] at e20
                    have e21 := hbaseF 21 (not_dst (by kernel_rfl))
                    simp only [List.getElem?_toArray, List.getElem?_cons_zero, List.getElem?_cons_succ, Option.getD_some] at e21
                    have e22 := hbaseF 22 (not_dst (by kernel_rfl))
                    simp only [List.getElem?_toArray, List.getElem?_cons_zero, List.getElem?_cons_succ, Option.getD_some] at e22
                    have e23 := hbaseF 23 (not_dst (by kernel_rfl))
                    simp only [List.getElem?_toArray, List.getElem?_cons_zero, List.getElem?_cons_succ, Option.getD_some] at e23
                    have e24 := hbaseF 24 (not_dst (by kernel_rfl))
                    simp only [List.getElem?_toArray, List.getElem?_cons_zero, List.getElem?_cons_succ, Option.getD_some] at e24
                    have e25 := hbaseF 25 (not_dst (by kernel_rfl))
                    simp only [List.getElem?_toArray, List.getElem?_cons_zero, List.getElem?_cons_succ, Option.getD_some] at e25
                    have e26 := hbaseF 26 (not_dst (by kernel_rfl))
                    simp only [List.getElem?_toArray, List.getElem?_cons_zero, List.getElem?_cons_succ, Option.getD_some] at e26
                    have e27 := hbaseF 27 (not_dst (by kernel_rfl))
                    simp only [List.getElem?_toArray, List.getElem?_cons_zero, List.getElem?_cons_succ, Option.getD_some] at e27
                    have e28 := hbaseF 28 (not_dst (by kernel_rfl))
                    simp only [List.getElem?_toArray, List.getElem?_cons_zero, List.getElem?_cons_succ, Option.getD_some] at e28
                    have e29 := hbaseF 29 (not_dst (by kernel_rfl))
                    simp only [List.getElem?_toArray, List.getElem?_cons_zero, List.getElem?_cons_succ, Option.getD_some] at e29
                    have e30 := hbaseF 30 (not_dst (by kernel_rfl))
                    simp only [List.getElem?_toArray, List.getElem?_cons_zero, List.getElem?_cons_succ, Option.getD_some] at e30
                    have e31 := hbaseF 31 (not_dst (by kernel_rfl))
                    simp only [List.getElem?_toArray, List.getElem?_cons_zero, List.getElem?_cons_succ, Option.getD_some] at e31
                    have e32 := hbaseF 32 (not_dst (by kernel_rfl))
                    simp only [List.getElem?_toArray, List.getElem?_cons_zero, List.getElem?_cons_succ, Option.getD_some] at e32
                    have e33 := hbaseF 33 (not_dst (by kernel_rfl))
                    simp only [List.getElem?_toArray, List.getElem?_cons_zero, List.getElem?_cons_succ, Option.getD_some] at e33
                    have e34 := hbaseF 34 (not_dst (by kernel_rfl))
                    simp only [List.getElem?_toArray, List.getElem?_cons_zero, List.getElem?_cons_succ, Option.getD_some] at e34
                    have e35 := hbaseF 35 (not_dst (by kernel_rfl))
                    simp only [List.getElem?_toArray, List.getElem?_cons_zero, List.getElem?_cons_succ, Option.getD_some] at e35
                    have e36 := hbaseF 36 (not_dst (by kernel_rfl))
                    simp only [List.getElem?_toArray, List.getElem?_cons_zero, List.getElem?_cons_succ, Option.getD_some] at e36
                    have e37 := hbaseF 37 (not_dst (by kernel_rfl))
                    simp only [List.getElem?_toArray, List.getElem?_cons_zero, List.getElem?_cons_succ, Option.getD_some] at e37
                    have e38 := hbaseF 38 (not_dst (by kernel_rfl))
                    simp only [List.getElem?_toArray, List.getElem?_cons_zero, List.getElem?_cons_succ, Option.getD_some] at e38
                    have e39 := hbaseF 39 (not_dst (by kernel_rfl))
                    simp only [List.getElem?_toArray, List.getElem?_cons_zero, List.getElem?_cons_succ, Option.getD_some] at e39
                    have e40 := hbaseF 40 (not_dst (by kernel_rfl))
                    simp only [List.getElem?_toArray, List.getElem?_cons_zero, List.getElem?_cons_succ, Option.getD_some] at e40
                    have e52 := hbaseF 52 (not_dst (by kernel_rfl))
                    simp only [List.getElem?_toArray, List.getElem?_cons_zero, List.getElem?_cons_succ, Option.getD_some] at e52
                    have e53 := hbaseF 53 (not_dst (by kernel_rfl))
                    simp only [List.getElem?_toArray, List.getElem?_cons_zero, List.getElem?_cons_succ, Option.getD_some] at e53
                    have e51 := hfactF 10 51 (by decide) rfl
                    replace e51 : T[51]?.getD undef = .bool true := e51
                    clear hbaseF hfactF
                    have hT : T = #[T[0]?.getD undef, T[1]?.getD undef, T[2]?.getD undef, T[3]?.getD undef, T[4]?.getD undef, T[5]?.getD undef, T[6]?.getD undef, T[7]?.getD undef, T[8]?.getD undef, T[9]?.getD undef, T[10]?.getD undef, T[11]?.getD undef, T[12]?.getD undef, T[13]?.getD undef, T[14]?.getD undef, T[15]?.getD undef, T[16]?.getD undef, T[17]?.getD undef, T[18]?.getD undef, T[19]?.getD undef, T[20]?.getD undef, T[21]?.getD undef, T[22]?.getD undef, T[23]?.getD undef, T[24]?.getD undef, T[25]?.getD undef, T[26]?.getD undef, T[27]?.getD undef, T[28]?.getD undef, T[29]?.getD undef, T[30]?.getD undef, T[31]?.getD undef, T[32]?.getD undef, T[33]?.getD undef, T[34]?.getD undef, T[35]?.getD undef, T[36]?.getD undef, T[37]?.getD undef, T[38]?.getD undef, T[39]?.getD undef, T[40]?.getD undef, T[41]?.getD undef, T[42]?.getD undef, T[43]?.getD undef, T[44]?.getD undef, T[45]?.getD undef, T[46]?.getD undef, T[47]?.getD undef, T[48]?.getD undef, T[49]?.getD undef, T[50]?.getD undef, T[51]?.getD undef, T[52]?.getD undef, T[53]?.getD undef] := arr_eq T 54 hsF
                    clear hsF
                    rw [e0] at hT; clear e0
                    rw [e1] at hT; clear e1
                    rw [e2] at hT; clear e2
                    rw [e3] at hT; clear e3
                    rw [e4] at hT; clear e4
                    rw [e5] at hT; clear e5
                    rw [e6] at hT; clear e6
                    rw [e7] at hT; clear e7
                    rw [e8] at hT; clear e8
                    rw [e9] at hT; clear e9
                    rw [e10] at hT; clear e10
                    rw [e11] at hT; clear e11
                    rw [e12] at hT; clear e12
                    rw [e13] at hT; clear e13
                    rw [e14] at hT; clear e14
                    rw [e15] at hT; clear e15
                    rw [e16] at hT; clear e16
                    rw [e17] at hT; clear e17
                    rw [e18] at hT; clear e18
                    rw [e19] at hT; clear e19
                    rw [e20] at hT; clear e20
                    rw [e21] at hT; clear e21
                    rw [e22] at hT; clear e22
                    rw [e23] at hT; clear e23
                    rw [e24] at hT; clear e24
                    rw [e25] at hT; clear e25
                    rw [e26] at hT; clear e26
                    rw [e27] at hT; clear e27
                    rw [e28] at hT; clear e28
                    rw [e29] at hT; clear e29
                    rw [e30] at hT; clear e30
                    rw [e31] at hT; clear e31
                    rw [e32] at hT; clear e32
                    rw [e33] at hT; clear e33
                    rw [e34] at hT; clear e34
                    rw [e35] at hT; clear e35
                    rw [e36] at hT; clear e36
                    rw [e37] at hT; clear e37
                    rw [e38] at hT; clear e38
                    rw [e39] at hT; clear e39
                    rw [e40] at hT; clear e40
                    generalize T[41]?.getD undef = u41 at hT
                    generalize T[42]?.getD undef = u42 at hT
                    generalize T[43]?.getD undef = u43 at hT
                    generalize T[44]?.getD undef = u44 at hT
                    generalize T[45]?.getD undef = u45 at hT
                    generalize T[46]?.getD undef = u46 at hT
                    generalize T[47]?.getD undef = u47 at hT
                    generalize T[48]?.getD undef = u48 at hT
                    generalize T[49]?.getD undef = u49 at hT
                    generalize T[50]?.getD undef = u50 at hT
                    rw [e51] at hT; clear e51
                    rw [e52] at hT; clear e52
                    rw [e53] at hT; clear e53
                    subst hT
                    have hBx := hB9.on hbF
                    have bx : Below w.heap.size w wF := (by (have q_hbF := Below.size hbF; (try simp at q_hbF); have q_b9 := Below.size b9; (try simp at q_b9); repeat (first | exact Below.refl _ _ | (refine Below.trans ?_ (Below.mono hbF (by first | omega | (simp; omega) | simp))) | (refine Below.trans ?_ (Below.mono b9 (by first | omega | (simp; omega) | simp))) | (refine Below.setCell ?_ (by first | omega | (simp; omega) | simp) _) | (refine Below.alloc ?_ (by first | omega | (simp; omega) | simp) _) | apply Below.drew | apply below_drewN)))
                    go_wp2_with (refine wpList_store_blk rfl 66 (.tmp 2) (.tmp 52) rfl w.heap.size 66 (hz 0) (hz 0) rfl rfl hBx rfl (by kernel_rfl) (hz_one 0) ?_; intro W9 hC9 hK9)
                    refine ret_cell2 (p := 2) (u := 3) rfl rfl rfl hC9 _ Try.underlying66 rfl (by kernel_rfl) rfl ⟨by rw [P1.out, P2.out, P3.out, hGf.out]; rfl, bx.trans (hK9.below bx.size (by simp))⟩
          | false =>
            go_wp2_with fail
            refine wp_flows [(fun y_ _ => y_ = .agg (hd v0 f)), (fun y_ _ => y_ = .agg (hz 0)), (fun y_ _ => y_ = .bool false), (fun y_ _ => y_ = .bool false), (fun y_ _ => y_ = undef), (fun y_ _ => y_ = undef), (fun y_ _ => y_ = undef), (fun y_ _ => y_ = undef), (fun y_ _ => y_ = undef), (fun y_ _ => y_ = .bool false)] (by kernel_rfl) ⟨Stab.eq _, Stab.eq _, Stab.eq _, Stab.eq _, Stab.eq _, Stab.eq _, Stab.eq _, Stab.eq _, Stab.eq _, Stab.eq _, trivial⟩ (by kernel_rfl) (by rfl) ?_ ?_
            · intro kq hkq
              match kq, hkq with
              | 0, _ =>
                refine StepOk.plain _ 30 rfl rfl rfl [(4, none)] (by kernel_rfl) (fun af wf hbw hf Kf hKf => ?_)
                obtain ⟨g4, _⟩ := hf
                have h4 : af.tmps[4]?.getD undef = .pointer (some ⟨w.heap.size + 1, 0, none⟩) := g4
                clear g4
                refine wp_load_blk 66 (.tmp 4) rfl (w.heap.size + 1) 0 66 (hd v0 f) (hd v0 f) _ (by simp [Act.eval, h4]) (Blk.on (Blk.drew hBh) hbw) (hd_self v0 f) Try.underlying66 rfl (by kernel_rfl) ?_
                exact hKf _ _ ((Below.refl _ _)) (rfl)
              | 1, _ =>
                refine StepOk.plain _ 31 rfl rfl rfl [] (by kernel_rfl) (fun af wf hbw hf Kf hKf => ?_)
                go_simp
                exact hKf _ _ (Below.refl _ _) rfl
              | 2, _ =>
                refine StepOk.plain _ 32 rfl rfl rfl [(30, some 0), (31, some 1)] (by kernel_rfl) (fun af wf hbw hf Kf hKf => ?_)
                obtain ⟨g30, g31, _⟩ := hf
                have h30 : af.tmps[30]?.getD undef = .agg (hd v0 f) := g30
                have h31 : af.tmps[31]?.getD undef = .agg (hz 0) := g31
                clear g30 g31
                have heq1 := HEQ.out
                go_simp
                exact hKf _ _ (Below.refl _ _) rfl
              | 3, _ =>
                refine StepOk.plain _ 33 rfl rfl rfl [(32, some 2)] (by kernel_rfl) (fun af wf hbw hf Kf hKf => ?_)
                obtain ⟨g32, _⟩ := hf
                have h32 : af.tmps[32]?.getD undef = .bool false := g32
                clear g32
                go_simp
                exact hKf _ _ (Below.refl _ _) rfl
              | 4, _ => exact StepOk.no _ 34 rfl rfl rfl rfl (fun _ _ h => h) (by decide) (by kernel_rfl) (fun _ => rfl)
              | 5, _ => exact StepOk.no _ 35 rfl rfl rfl rfl (fun _ _ h => h) (by decide) (by kernel_rfl) (fun _ => rfl)
              | 6, _ => exact StepOk.no _ 36 rfl rfl rfl rfl (fun _ _ h => h) (by decide) (by kernel_rfl) (fun _ => rfl)
              | 7, _ => exact StepOk.no _ 37 rfl rfl rfl rfl (fun _ _ h => h) (by decide) (by kernel_rfl) (fun _ => rfl)
              | 8, _ => exact StepOk.no _ 38 rfl rfl rfl rfl (fun _ _ h => h) (by decide) (by kernel_rfl) (fun _ => rfl)
              | 9, _ =>
                refine StepOk.plain _ 39 rfl rfl rfl [(33, some 3), (38, some 8)] (by kernel_rfl) (fun af wf hbw hf Kf hKf => ?_)
                obtain ⟨g33, g38, _⟩ := hf
                have h33 : af.tmps[33]?.getD undef = .bool false := g33
                have h38 : af.tmps[38]?.getD undef = undef := g38
                clear g33 g38
                go_simp
                exact hKf _ _ (Below.refl _ _) rfl
              | i + 10, h => exact absurd h (by show ¬ (i + 10 < 10); omega)
            · intro af wF hbF hdF hsF hbaseF hfactF
              obtain ⟨T, dsF⟩ := af
              obtain rfl : dsF = _ := hdF
              have e0 := hbaseF 0 (not_dst (by kernel_rfl))
              simp only [List.getElem?_toArray, List.getElem?_cons_zero, Option.getD_some] at e0
              have e1 := hbaseF 1 (not_dst (by kernel_rfl))
              simp only [List.getElem?_toArray, List.getElem?_cons_zero, List.getElem?_cons_succ, Option.getD_some] at e1
              have e2 := hbaseF 2 (not_dst (by kernel_rfl))
              simp only [List.getElem?_toArray, List.getElem?_cons_zero, List.getElem?_cons_succ, Option.getD_some] at e2
              have e3 := hbaseF 3 (not_dst (by kernel_rfl))
              simp only [List.getElem?_toArray, List.getElem?_cons_zero, List.getElem?_cons_succ, Option.getD_some] at e3
              have e4 := hbaseF 4 (not_dst (by kernel_rfl))
              simp only [List.getElem?_toArray, List.getElem?_cons_zero, List.getElem?_cons_succ, Option.getD_some] at e4
              have e5 := hbaseF 5 (not_dst (by kernel_rfl))
              simp only [List.getElem?_toArray, List.getElem?_cons_zero, List.getElem?_cons_succ, Option.getD_some] at e5
              have e6 := hbaseF 6 (not_dst (by kernel_rfl))
              simp only [List.getElem?_toArray, List.getElem?_cons_zero, List.getElem?_cons_succ, Option.getD_some] at e6
              have e7 := hbaseF 7 (not_dst (by kernel_rfl))
              simp only [List.getElem?_toArray, List.getElem?_cons_zero, List.getElem?_cons_succ, Option.getD_some] at e7
              have e8 := hbaseF 8 (not_dst (by kernel_rfl))
              simp only [List.getElem?_toArray, List.getElem?_cons_zero, List.getElem?_cons_succ, Option.getD_some] at e8
              have e9 := hbaseF 9 (not_dst (by kernel_rfl))
              simp only [List.getElem?_toArray, List.getElem?_cons_zero, List.getElem?_cons_succ, Option.getD_some] at e9
              have e10 := hbaseF 10 (not_dst (by kernel_rfl))
              simp only [List.getElem?_toArray, List.getElem?_cons_zero, List.getElem?_cons_succ, Option.getD_some] at e10
              have e11 := hbaseF 11 (not_dst (by kernel_rfl))
              simp only [List.getElem?_toArray, List.getElem?_cons_zero, List.getElem?_cons_succ, Option.getD_some] at e11
              have e12 := hbaseF 12 (not_dst (by kernel_rfl))
              simp only [List.getElem?_toArray, List.getElem?_cons_zero, List.getElem?_cons_succ, Option.getD_some] at e12
              have e13 := hbaseF 13 (not_dst (by kernel_rfl))
              simp only [List.getElem?_toArray, List.getElem?_cons_zero, List.getElem?_cons_succ, Option.getD_some] at e13
              have e14 := hbaseF 14 (not_dst (by kernel_rfl))
              simp only [List.getElem?_toArray, List.getElem?_cons_zero, List.getElem?_cons_succ, Option.getD_some] at e14
              have e15 := hbaseF 15 (not_dst (by kernel_rfl))
              simp only [List.getElem?_toArray, List.getElem?_cons_zero, List.getElem?_cons_succ, Option.getD_some] at e15
              have e16 := hbaseF 16 (not_dst (by kernel_rfl))
              simp only [List.getElem?_toArray, List.getElem?_cons_zero, List.getElem?_cons_succ, Option.getD_some] at e16
              have e17 := hbaseF 17 (not_dst (by kernel_rfl))
              simp only [List.getElem?_toArray, List.getElem?_cons_zero, List.getElem?_cons_succ, Option.getD_some] at e17
              have e18 := hbaseF 18 (not_dst (by kernel_rfl))
              simp only [List.getElem?_toArray, List.getElem?_cons_zero, List.getElem?_cons_succ, Option.getD_some] at e18
              have e19 := hbaseF 19 (not_dst (by kernel_rfl))
              simp only [List.getElem?_toArray, List.getElem?_cons_zero, List.getElem?_cons_succ, Option.getD_some] at e19
              have e20 := hbaseF 20 (not_dst (by kernel_rfl))
              simp only [List.getElem?_toArray, List.getElem?_cons_zero, List.getElem?_cons_succ, Option.getD_some] at e20
              have e21 := hbaseF 21 (not_dst (by kernel_rfl))
              simp only [List.getElem?_toArray, List.getElem?_cons_zero, List.getElem?_cons_succ, Option.getD_some] at e21
              have e22 := hbaseF 22 (not_dst (by kernel_rfl))
              simp only [List.getElem?_toArray, List.getElem?_cons_zero, List.getElem?_cons_succ, Option.getD_some] at e22
              have e23 := hbaseF 23 (not_dst (by kernel_rfl))
              simp only [List.getElem?_toArray, List.getElem?_cons_zero, List.getElem?_cons_succ, Option.getD_some] at e23
              have e24 := hbaseF 24 (not_dst (by kernel_rfl))
              simp only [List.getElem?_toArray, List.getElem?_cons_zero, List.getElem?_cons_succ, Option.getD_some] at e24
              have e25 := hbaseF 25 (not_dst (by kernel_rfl))
              simp only [List.getElem?_toArray, List.getElem?_cons_zero, List.getElem?_cons_succ, Option.getD_some] at e25
              have e26 := hbaseF 26 (not_dst (by kernel_rfl))
              simp only [List.getElem?_toArray, List.getElem?_cons_zero, List.getElem?_cons_succ, Option.getD_some] at e26
              have e27 := hbaseF 27 (not_dst (by kernel_rfl))
              simp only [List.getElem?_toArray, List.getElem?_cons_zero, List.getElem?_cons_succ, Option.getD_some] at e27
              have e28 := hbaseF 28 (not_dst (by kernel_rfl))
              simp only [List.getElem?_toArray, List.getElem?_cons_zero, List.getElem?_cons_succ, Option.getD_some] at e28
              have e29 := hbaseF 29 (not_dst (by kernel_rfl))
              simp only [List.getElem?_toArray, List.getElem?_cons_zero, List.getElem?_cons_succ, Option.getD_some] at e29
              have e40 := hbaseF 40 (not_dst (by kernel_rfl))
              simp only [List.getElem?_toArray, List.getElem?_cons_zero, List.getElem?_cons_succ, Option.getD_some] at e40
              have e41 := hbaseF 41 (not_dst (by kernel_rfl))
              simp only [List.getElem?_toArray, List.getElem?_cons_zero, List.getElem?_cons_succ, Option.getD_some] at e41
              have e42 := hbaseF 42 (not_dst (by kernel_rfl))
              simp only [List.getElem?_toArray, List.getElem?_cons_zero, List.getElem?_cons_succ, Option.getD_some] at e42
              have e43 := hbaseF 43 (not_dst (by kernel_rfl))
              simp only [List.getElem?_toArray, List.getElem?_cons_zero, List.getElem?_cons_succ, Option.getD_some] at e43
              have e44 := hbaseF 44 (not_dst (by kernel_rfl))
              simp only [List.getElem?_toArray, List.getElem?_cons_zero, List.getElem?_cons_succ, Option.getD_some] at e44
              have e45 := hbaseF 45 (not_dst (by kernel_rfl))
              simp only [List.getElem?_toArray, List.getElem?_cons_zero, List.getElem?_cons_succ, Option.getD_some] at e45
              have e46 := hbaseF 46 (not_dst (by kernel_rfl))
              simp only [List.getElem?_toArray, List.getElem?_cons_zero, List.getElem?_cons_succ, Option.getD_some] at e46
              have e47 := hbaseF 47 (not_dst (by kernel_rfl))
              simp only [List.getElem?_toArray, List.getElem?_cons_zero, List.getElem?_cons_succ, Option.getD_some] at e47
              have e48 := hbaseF 48 (not_dst (by kernel_rfl))
              simp only [List.getElem?_toArray, List.getElem?_cons_zero, List.getElem?_cons_succ, Option.getD_some] at e48
              have e49 := hbaseF 49 (not_dst (by kernel_rfl))
              simp only [List.getElem?_toArray, List.getElem?_cons_zero, List.getElem?_cons_succ, Option.getD_some] at e49
              have e50 := hbaseF 50 (not_dst (by kernel_rfl))
              simp only [List.getElem?_toArray, List.getElem?_cons_zero, List.getElem?_cons_succ, Option.getD_some] at e50
              have e51 := hbaseF 51 (not_dst (by kernel_rfl))
              simp only [List.getElem?_toArray, List.getElem?_cons_zero, List.getElem?_cons_succ, Option.getD_some] at e51
              have e52 := hbaseF 52 (not_dst (by kernel_rfl))
              simp only [List.getElem?_toArray, List.getElem?_cons_zero, List.getElem?_cons_succ, Option.getD_some] at e52
              have e53 := hbaseF 53 (not_dst (by kernel_rfl))
              simp only [List.getElem?_toArray, List.getElem?_cons_zero, List.getElem?_cons_succ, Option.getD_some] at e53
              have e39 := hfactF 9 39 (by decide) rfl
              replace e39 : T[39]?.getD undef = .bool false := e39
              clear hbaseF hfactF
              have hT : T = #[T[0]?.getD undef, T[1]?.getD undef, T[2]?.getD undef, T[3]?.getD undef, T[4]?.getD undef, T[5]?.getD undef, T[6]?.getD undef, T[7]?.getD undef, T[8]?.getD undef, T[9]?.getD undef, T[10]?.getD undef, T[11]?.getD undef, T[12]?.getD undef, T[13]?.getD undef, T[14]?.getD undef, T[15]?.getD undef, T[16]?.getD undef, T[17]?.getD undef, T[18]?.getD undef, T[19]?.getD undef, T[20]?.getD undef, T[21]?.getD undef, T[22]?.getD undef, T[23]?.getD undef, T[24]?.getD undef, T[25]?.getD undef, T[26]?.getD undef, T[27]?.getD undef, T[28]?.getD undef, T[29]?.getD undef, T[30]?.getD undef, T[31]?.getD undef, T[32]?.getD undef, T[33]?.getD undef, T[34]?.getD undef, T[35]?.getD undef, T[36]?.getD undef, T[37]?.getD undef, T[38]?.getD undef, T[39]?.getD undef, T[40]?.getD undef, T[41]?.getD undef, T[42]?.getD undef, T[43]?.getD undef, T[44]?.getD undef, T[45]?.getD undef, T[46]?.getD undef, T[47]?.getD undef, T[48]?.getD undef, T[49]?.getD undef, T[50]?.getD undef, T[51]?.getD undef, T[52]?.getD undef, T[53]?.getD undef] := arr_eq T 54 hsF
              clear hsF
              rw [e0] at hT; clear e0
              rw [e1] at hT; clear e1
              rw [e2] at hT; clear e2
              rw [e3] at hT; clear e3
              rw [e4] at hT; clear e4
              rw [e5] at hT; clear e5
              rw [e6] at hT; clear e6
              rw [e7] at hT; clear e7
              rw [e8] at hT; clear e8
              rw [e9] at hT; clear e9
              rw [e10] at hT; clear e10
              rw [e11] at hT; clear e11
              rw [e12] at hT; clear e12
              rw [e13] at hT; clear e13
              rw [e14] at hT; clear e14
              rw [e15] at hT; clear e15
              rw [e16] at hT; clear e16
              rw [e17] at hT; clear e17
              rw [e18] at hT; clear e18
              rw [e19] at hT; clear e19
              rw [e20] at hT; clear e20
              rw [e21] at hT; clear e21
              rw [e22] at hT; clear e22
              rw [e23] at hT; clear e23
              rw [e24] at hT; clear e24
              rw [e25] at hT; clear e25
              rw [e26] at hT; clear e26
              rw [e27] at hT; clear e27
              rw [e28] at hT; clear e28
              rw [e29] at hT; clear e29
              generalize T[30]?.getD undef = u30 at hT
              generalize T[31]?.getD undef = u31 at hT
              generalize T[32]?.getD undef = u32 at hT
              generalize T[33]?.getD undef = u33 at hT
              generalize T[34]?.getD undef = u34 at hT
              generalize T[35]?.getD undef = u35 at hT
              generalize T[36]?.getD undef = u36 at hT
              generalize T[37]?.getD undef = u37 at hT
              generalize T[38]?.getD undef = u38 at hT
              rw [e39] at hT; clear e39
              rw [e40] at hT; clear e40
              rw [e41] at hT; clear e41
              rw [e42] at hT; clear e42
              rw [e43] at hT; clear e43
              rw [e44] at hT; clear e44
              rw [e45] at hT; clear e45
              rw [e46] at hT; clear e46
              rw [e47] at hT; clear e47
              rw [e48] at hT; clear e48
              rw [e49] at hT; clear e49
              rw [e50] at hT; clear e50
              rw [e51] at hT; clear e51
              rw [e52] at hT; clear e52
              rw [e53] at hT; clear e53
              subst hT
              have hB9 := hB0.on hbF
              have hH9 := hBh.on hbF
              have hr9 : Rd wF (some ⟨ab, off, none⟩) 256 b := Rd.below hrr hbF
              have b9 : Below w.heap.size w wF := (by (have q_hbF := Below.size hbF; (try simp at q_hbF); have q_hbel := Below.size hbel; (try simp at q_hbel); repeat (first | exact Below.refl _ _ | (refine Below.trans ?_ (Below.mono hbF (by first | omega | (simp; omega) | simp))) | (refine Below.trans ?_ (Below.mono hbel (by first | omega | (simp; omega) | simp))) | (refine Below.setCell ?_ (by first | omega | (simp; omega) | simp) _) | (refine Below.alloc ?_ (by first | omega | (simp; omega) | simp) _) | apply Below.drew | apply below_drewN)))
              clear hbF hB0 hBh hrr
              go_wp2_with fail
              cases Y with
              | false =>
                have hGf := Lib.hid (show G = false by rw [hGG.out]; rfl)
                refine wp_flows [(fun y_ _ => y_ = .agg (hd v0 f)), (fun y_ _ => y_ = .bool false), (fun y_ _ => y_ = .bool true), (fun y_ _ => y_ = .bool true), (fun y_ _ => y_ = undef), (fun y_ _ => y_ = undef), (fun y_ _ => y_ = undef), (fun y_ _ => y_ = undef), (fun y_ _ => y_ = undef), (fun y_ _ => y_ = undef), (fun y_ _ => y_ = .bool true)] (by kernel_rfl) ⟨Stab.eq _, Stab.eq _, Stab.eq _, Stab.eq _, Stab.eq _, Stab.eq _, Stab.eq _, Stab.eq _, Stab.eq _, Stab.eq _, Stab.eq _, trivial⟩ (by kernel_rfl) (by rfl) ?_ ?_
                · intro kq hkq
                  match kq, hkq with
                  | 0, _ =>
                    refine StepOk.plain _ 41 rfl rfl rfl [(4, none)] (by kernel_rfl) (fun af wf hbw hf Kf hKf => ?_)
                    obtain ⟨g4, _⟩ := hf
                    have h4 : af.tmps[4]?.getD undef = .pointer (some ⟨w.heap.size + 1, 0, none⟩) := g4
                    clear g4
                    refine wp_load_blk 66 (.tmp 4) rfl (w.heap.size + 1) 0 66 (hd v0 f) (hd v0 f) _ (by simp [Act.eval, h4]) (Blk.on (Blk.drew hH9) hbw) (hd_self v0 f) Try.underlying66 rfl (by kernel_rfl) ?_
                    exact hKf _ _ ((Below.refl _ _)) (rfl)
                  | 1, _ =>
                    refine StepOk.plain _ 42 rfl rfl rfl [(41, some 0)] (by kernel_rfl) (fun af wf hbw hf Kf hKf => ?_)
                    obtain ⟨g41, _⟩ := hf
                    have h41 : af.tmps[41]?.getD undef = .agg (hd v0 f) := g41
                    clear g41
                    go_simp
                    refine (rrightR_any v0 f _ HRF.out).mono ?_
                    rintro e wN ⟨rfl, hb⟩
                    exact hKf _ _ (hb) (congrArg Value.bool HYY.out.symm)
                  | 2, _ =>
                    refine StepOk.plain _ 43 rfl rfl rfl [(42, some 1)] (by kernel_rfl) (fun af wf hbw hf Kf hKf => ?_)
                    obtain ⟨g42, _⟩ := hf
                    have h42 : af.tmps[42]?.getD undef = .bool false := g42
                    clear g42
                    go_simp
                    exact hKf _ _ (Below.refl _ _) rfl
                  | 3, _ =>
                    refine StepOk.plain _ 44 rfl rfl rfl [(43, some 2)] (by kernel_rfl) (fun af wf hbw hf Kf hKf => ?_)
                    obtain ⟨g43, _⟩ := hf
                    have h43 : af.tmps[43]?.getD undef = .bool true := g43
                    clear g43
                    go_simp
                    exact hKf _ _ (Below.refl _ _) rfl
                  | 4, _ => exact StepOk.no _ 45 rfl rfl rfl rfl (fun _ _ h => h) (by decide) (by kernel_rfl) (fun _ => rfl)
                  | 5, _ => exact StepOk.no _ 46 rfl rfl rfl rfl (fun _ _ h => h) (by decide) (by kernel_rfl) (fun _ => rfl)
                  | 6, _ => exact StepOk.no _ 47 rfl rfl rfl rfl (fun _ _ h => h) (by decide) (by kernel_rfl) (fun _ => rfl)
                  | 7, _ => exact StepOk.no _ 48 rfl rfl rfl rfl (fun _ _ h => h) (by decide) (by kernel_rfl) (fun _ => rfl)
                  | 8, _ => exact StepOk.no _ 49 rfl rfl rfl rfl (fun _ _ h => h) (by decide) (by kernel_rfl) (fun _ => rfl)
                  | 9, _ => exact StepOk.no _ 50 rfl rfl rfl rfl (fun _ _ h => h) (by decide) (by kernel_rfl) (fun _ => rfl)
                  | 10, _ =>
                    refine StepOk.plain _ 51 rfl rfl rfl [(44, some 3), (50, some 9)] (by kernel_rfl) (fun af wf hbw hf Kf hKf => ?_)
                    obtain ⟨g44, g50, _⟩ := hf
                    have h44 : af.tmps[44]?.getD undef = .bool true := g44
                    have h50 : af.tmps[50]?.getD undef = undef := g50
                    clear g44 g50
                    go_simp
                    exact hKf _ _ (Below.refl _ _) rfl
                  | i + 11, h => exact absurd h (by show ¬ (i + 11 < 11); omega)
                · intro af wF hbF hdF hsF hbaseF hfactF
                  obtain ⟨T, dsF⟩ := af
                  obtain rfl : dsF = _ := hdF
                  have e0 := hbaseF 0 (not_dst (by kernel_rfl))
                  simp only [List.getElem?_toArray, List.getElem?_cons_zero, Option.getD_some] at e0
                  have e1 := hbaseF 1 (not_dst (by kernel_rfl))
                  simp only [List.getElem?_toArray, List.getElem?_cons_zero, List.getElem?_cons_succ, Option.getD_some] at e1
                  have e2 := hbaseF 2 (not_dst (by kernel_rfl))
                  simp only [List.getElem?_toArray, List.getElem?_cons_zero, List.getElem?_cons_succ, Option.getD_some] at e2
                  have e3 := hbaseF 3 (not_dst (by kernel_rfl))
                  simp only [List.getElem?_toArray, List.getElem?_cons_zero, List.getElem?_cons_succ, Option.getD_some] at e3
                  have e4 := hbaseF 4 (not_dst (by kernel_rfl))
                  simp only [List.getElem?_toArray, List.getElem?_cons_zero, List.getElem?_cons_succ, Option.getD_some] at e4
                  have e5 := hbaseF 5 (not_dst (by kernel_rfl))
                  simp only [List.getElem?_toArray, List.getElem?_cons_zero, List.getElem?_cons_succ, Option.getD_some] at e5
                  have e6 := hbaseF 6 (not_dst (by kernel_rfl))
                  simp only [List.getElem?_toArray, List.getElem?_cons_zero, List.getElem?_cons_succ, Option.getD_some] at e6
                  have e7 := hbaseF 7 (not_dst (by kernel_rfl))
                  simp only [List.getElem?_toArray, List.getElem?_cons_zero, List.getElem?_cons_succ, Option.getD_some] at e7
                  have e8 := hbaseF 8 (not_dst (by kernel_rfl))
                  simp only [List.getElem?_toArray, List.getElem?_cons_zero, List.getElem?_cons_succ, Option.getD_some] at e8
                  have e9 := hbaseF 9 (not_dst (by kernel_rfl))
                  simp only [List.getElem?_toArray, List.getElem?_cons_zero, List.getElem?_cons_succ, Option.getD_some] at e9
                  have e10 := hbaseF 10 (not_dst (by kernel_rfl))
                  simp only [List.getElem?_toArray, List.getElem?_cons_zero, List.getElem?_cons_succ, Option.getD_some] at e10
                  have e11 := hbaseF 11 (not_dst (by kernel_rfl))
                  simp only [List.getElem?_toArray, List.getElem?_cons_zero, List.getElem?_cons_succ, Option.getD_some] at e11
                  have e12 := hbaseF 12 (not_dst (by kernel_rfl))
                  simp only [List.getElem?_toArray, List.getElem?_cons_zero, List.getElem?_cons_succ, Option.getD_some] at e12
                  have e13 := hbaseF 13 (not_dst (by kernel_rfl))
                  simp only [List.getElem?_toArray, List.getElem?_cons_zero, List.getElem?_cons_succ, Option.getD_some] at e13
                  have e14 := hbaseF 14 (not_dst (by kernel_rfl))
                  simp only [List.getElem?_toArray, List.getElem?_cons_zero, List.getElem?_cons_succ, Option.getD_some] at e14
                  have e15 := hbaseF 15 (not_dst (by kernel_rfl))
                  simp only [List.getElem?_toArray, List.getElem?_cons_zero, List.getElem?_cons_succ, Option.getD_some] at e15
                  have e16 := hbaseF 16 (not_dst (by kernel_rfl))
                  simp only [List.getElem?_toArray, List.getElem?_cons_zero, List.getElem?_cons_succ, Option.getD_some] at e16
                  have e17 := hbaseF 17 (not_dst (by kernel_rfl))
                  simp only [List.getElem?_toArray, List.getElem?_cons_zero, List.getElem?_cons_succ, Option.getD_some] at e17
                  have e18 := hbaseF 18 (not_dst (by kernel_rfl))
                  simp only [List.getElem?_toArray, List.getElem?_cons_zero, List.getElem?_cons_succ, Option.getD_some] at e18
                  have e19 := hbaseF 19 (not_dst (by kernel_rfl))
                  simp only [List.getElem?_toArray, List.getElem?_cons_zero, List.getElem?_cons_succ, Option.getD_some] at e19
                  have e20 := hbaseF 20 (not_dst (by kernel_rfl))
                  simp only [List.getElem?_toArray, List.getElem?_cons_zero, List.getElem?_cons_succ, Option.getD_some] at e20
                  have e21 := hbaseF 21 (not_dst (by kernel_rfl))
                  simp only [List.getElem?_toArray, List.getElem?_cons_zero, List.getElem?_cons_succ, Option.getD_some] at e21
                  have e22 := hbaseF 22 (not_dst (by kernel_rfl))
                  simp only [List.getElem?_toArray, List.getElem?_cons_zero, List.getElem?_cons_succ, Option.getD_some] at e22
                  have e23 := hbaseF 23 (not_dst (by kernel_rfl))
                  simp only [List.getElem?_toArray, List.getElem?_cons_zero, List.getElem?_cons_succ, Option.getD_some] at e23
                  have e24 := hbaseF 24 (not_dst (by kernel_rfl))
                  simp only [List.getElem?_toArray, List.getElem?_cons_zero, List.getElem?_cons_succ, Option.getD_some] at e24
                  have e25 := hbaseF 25 (not_dst (by kernel_rfl))
                  simp only [List.getElem?_toArray, List.getElem?_cons_zero, List.getElem?_cons_succ, Option.getD_some] at e25
                  have e26 := hbaseF 26 (not_dst (by kernel_rfl))
                  simp only [List.getElem?_toArray, List.getElem?_cons_zero, List.getElem?_cons_succ, Option.getD_some] at e26
                  have e27 := hbaseF 27 (not_dst (by kernel_rfl))
                  simp only [List.getElem?_toArray, List.getElem?_cons_zero, List.getElem?_cons_succ, Option.getD_some] at e27
                  have e28 := hbaseF 28 (not_dst (by kernel_rfl))
                  simp only [List.getElem?_toArray, List.getElem?_cons_zero, List.getElem?_cons_succ, Option.getD_some] at e28
                  have e29 := hbaseF 29 (not_dst (by kernel_rfl))
                  simp only [List.getElem?_toArray, List.getElem?_cons_zero, List.getElem?_cons_succ, Option.getD_some] at e29
                  have e30 := hbaseF 30 (not_dst (by kernel_rfl))
                  simp only [List.getElem?_toArray, List.getElem?_cons_zero, List.getElem?_cons_succ, Option.getD_some] at e30
                  have e31 := hbaseF 31 (not_dst (by kernel_rfl))
                  simp only [List.getElem?_toArray, List.getElem?_cons_zero, List.getElem?_cons_succ, Option.getD_some] at e31
                  have e32 := hbaseF 32 (not_dst (by kernel_rfl))
                  simp only [List.getElem?_toArray, List.getElem?_cons_zero, List.getElem?_cons_succ, Option.getD_some] at e32
                  have e33 := hbaseF 33 (not_dst (by kernel_rfl))
                  simp only [List.getElem?_toArray, List.getElem?_cons_zero, List.getElem?_cons_succ, Option.getD_some] at e33
                  have e34 := hbaseF 34 (not_dst (by kernel_rfl))
                  simp only [List.getElem?_toArray, List.getElem?_cons_zero, List.getElem?_cons_succ, Option.getD_some] at e34
                  have e35 := hbaseF 35 (not_dst (by kernel_rfl))
                  simp only [List.getElem?_toArray, List.getElem?_cons_zero, List.getElem?_cons_succ, Option.getD_some] at e35
                  have e36 := hbaseF 36 (not_dst (by kernel_rfl))
                  simp only [List.getElem?_toArray, List.getElem?_cons_zero, List.getElem?_cons_succ, Option.getD_some] at e36
                  have e37 := hbaseF 37 (not_dst (by kernel_rfl))
                  simp only [List.getElem?_toArray, List.getElem?_cons_zero, List.getElem?_cons_succ, Option.getD_some] at e37
                  have e38 := hbaseF 38 (not_dst (by kernel_rfl))
                  simp only [List.getElem?_toArray, List.getElem?_cons_zero, List.getElem?_cons_succ, Option.getD_some] at e38
                  have e39 := hbaseF 39 (not_dst (by kernel_rfl))
                  simp only [List.getElem?_toArray, List.getElem?_cons_zero, List.getElem?_cons_succ, Option.getD_some] at e39
                  have e40 := hbaseF 40 (not_dst (by kernel_rfl))
                  simp only [List.getElem?_toArray, List.getElem?_cons_zero, List.getElem?_cons_succ, Option.getD_some] at e40
                  have e52 := hbaseF 52 (not_dst (by kernel_rfl))
                  simp only [List.getElem?_toArray, List.getElem?_cons_zero, List.getElem?_cons_succ, Option.getD_some] at e52
                  have e53 := hbaseF 53 (not_dst (by kernel_rfl))
                  simp only [List.getElem?_toArray, List.getElem?_cons_zero, List.getElem?_cons_succ, Option.getD_some] at e53
                  have e51 := hfactF 10 51 (by decide) rfl
                  replace e51 : T[51]?.getD undef = .bool true := e51
                  clear hbaseF hfactF
                  have hT : T = #[T[0]?.getD undef, T[1]?.getD undef, T[2]?.getD undef, T[3]?.getD undef, T[4]?.getD undef, T[5]?.getD undef, T[6]?.getD undef, T[7]?.getD undef, T[8]?.getD undef, T[9]?.getD undef, T[10]?.getD undef, T[11]?.getD undef, T[12]?.getD undef, T[13]?.getD undef, T[14]?.getD undef, T[15]?.getD undef, T[16]?.getD undef, T[17]?.getD undef, T[18]?.getD undef, T[19]?.getD undef, T[20]?.getD undef, T[21]?.getD undef, T[22]?.getD undef, T[23]?.getD undef, T[24]?.getD undef, T[25]?.getD undef, T[26]?.getD undef, T[27]?.getD undef, T[28]?.getD undef, T[29]?.getD undef, T[30]?.getD undef, T[31]?.getD undef, T[32]?.getD undef, T[33]?.getD undef, T[34]?.getD undef, T[35]?.getD undef, T[36]?.getD undef, T[37]?.getD undef, T[38]?.getD undef, T[39]?.getD undef, T[40]?.getD undef, T[41]?.getD undef, T[42]?.getD undef, T[43]?.getD undef, T[44]?.getD undef, T[45]?.getD undef, T[46]?.getD undef, T[47]?.getD undef, T[48]?.getD undef, T[49]?.getD undef, T[50]?.getD undef, T[51]?.getD undef, T[52]?.getD undef, T[53]?.getD undef] := arr_eq T 54 hsF
                  clear hsF
                  rw [e0] at hT; clear e0
                  rw [e1] at hT; clear e1
                  rw [e2] at hT; clear e2
                  rw [e3] at hT; clear e3
                  rw [e4] at hT; clear e4
                  rw [e5] at hT; clear e5
                  rw [e6] at hT; clear e6
                  rw [e7] at hT; clear e7
                  rw [e8] at hT; clear e8
                  rw [e9] at hT; clear e9
                  rw [e10] at hT; clear e10
                  rw [e11] at hT; clear e11
                  rw [e12] at hT; clear e12
                  rw [e13] at hT; clear e13
                  rw [e14] at hT; clear e14
                  rw [e15] at hT; clear e15
                  rw [e16] at hT; clear e16
                  rw [e17] at hT; clear e17
                  rw [e18] at hT; clear e18
                  rw [e19] at hT; clear e19
                  rw [e20] at hT; clear e20
                  rw [e21] at hT; clear e21
                  rw [e22] at hT; clear e22
                  rw [e23] at hT; clear e23
                  rw [e24] at hT; clear e24
                  rw [e25] at hT; clear e25
                  rw [e26] at hT; clear e26
                  rw [e27] at hT; clear e27
                  rw [e28] at hT; clear e28
                  rw [e29] at hT; clear e29
                  rw [e30] at hT; clear e30
                  rw [e31] at hT; clear e31
                  rw [e32] at hT; clear e32
                  rw [e33] at hT; clear e33
                  rw [e34] at hT; clear e34
                  rw [e35] at hT; clear e35
                  rw [e36] at hT; clear e36
                  rw [e37] at hT; clear e37
                  rw [e38] at hT; clear e38
                  rw [e39] at hT; clear e39
                  rw [e40] at hT; clear e40
                  generalize T[41]?.getD undef = u41 at hT
                  generalize T[42]?.getD undef = u42 at hT
                  generalize T[43]?.getD undef = u43 at hT
                  generalize T[44]?.getD undef = u44 at hT
                  generalize T[45]?.getD undef = u45 at hT
                  generalize T[46]?.getD undef = u46 at hT
                  generalize T[47]?.getD undef = u47 at hT
                  generalize T[48]?.getD undef = u48 at hT
                  generalize T[49]?.getD undef = u49 at hT
                  generalize T[50]?.getD undef = u50 at hT
                  rw [e51] at hT; clear e51
                  rw [e52] at hT; clear e52
                  rw [e53] at hT; clear e53
                  subst hT
                  have hBx := hB9.on hbF
                  have bx : Below w.heap.size w wF := (by (have q_hbF := Below.size hbF; (try simp at q_hbF); have q_b9 := Below.size b9; (try simp at q_b9); repeat (first | exact Below.refl _ _ | (refine Below.trans ?_ (Below.mono hbF (by first | omega | (simp; omega) | simp))) | (refine Below.trans ?_ (Below.mono b9 (by first | omega | (simp; omega) | simp))) | (refine Below.setCell ?_ (by first | omega | (simp; omega) | simp) _) | (refine Below.alloc ?_ (by first | omega | (simp; omega) | simp) _) | apply Below.drew | apply below_drewN)))
                  go_wp2_with (refine wpList_store_blk rfl 66 (.tmp 2) (.tmp 52) rfl w.heap.size 66 (hz 0) (hz 0) rfl rfl hBx rfl (by kernel_rfl) (hz_one 0) ?_; intro W9 hC9 hK9)
                  refine ret_cell2 (p := 2) (u := 3) rfl rfl rfl hC9 _ Try.underlying66 rfl (by kernel_rfl) rfl ⟨by rw [P1.out, P2.out, P3.out, hGf.out]; rfl, bx.trans (hK9.below bx.size (by simp))⟩
              | true =>
                have hENl : EN.length = 256 := by rw [HEN.out]; exact encR_len v0 f
                by_cases hEb : EN = b
                · have hGt := Lib.hid (show G = true by rw [hGG.out, decide_eq_true hEb]; rfl)
                  have hqe := Lib.hid (show ((str EN).toList == (str b).toList) = true by rw [hEb]; simp)
                  clear hEb
                  refine wp_flows [(fun y_ _ => y_ = .agg (hd v0 f)), (fun y_ _ => y_ = .bool true), (fun y_ _ => y_ = .bool false), (fun y_ _ => y_ = .bool false), (fun y_ _ => y_ = .agg (hd v0 f)), (IsB (256) (EN)), (fun y_ _ => y_ = .string (str (EN))), (fun y_ _ => y_ = .slice (some ⟨ab, off, none⟩) 256 c), (fun y_ _ => y_ = .string (str (b))), (fun y_ _ => y_ = .bool false), (fun y_ _ => y_ = .bool false)] (by kernel_rfl) ⟨Stab.eq _, Stab.eq _, Stab.eq _, Stab.eq _, Stab.eq _, Stab.b _ _, Stab.eq _, Stab.eq _, Stab.eq _, Stab.eq _, Stab.eq _, trivial⟩ (by kernel_rfl) (by rfl) ?_ ?_
                  · intro kq hkq
                    match kq, hkq with
                    | 0, _ =>
                      refine StepOk.plain _ 41 rfl rfl rfl [(4, none)] (by kernel_rfl) (fun af wf hbw hf Kf hKf => ?_)
                      obtain ⟨g4, _⟩ := hf
                      have h4 : af.tmps[4]?.getD undef = .pointer (some ⟨w.heap.size + 1, 0, none⟩) := g4
                      clear g4
                      refine wp_load_blk 66 (.tmp 4) rfl (w.heap.size + 1) 0 66 (hd v0 f) (hd v0 f) _ (by simp [Act.eval, h4]) (Blk.on (Blk.drew hH9) hbw) (hd_self v0 f) Try.underlying66 rfl (by kernel_rfl) ?_
                      exact hKf _ _ ((Below.refl _ _)) (rfl)
                    | 1, _ =>
                      refine StepOk.plain _ 42 rfl rfl rfl [(41, some 0)] (by kernel_rfl) (fun af wf hbw hf Kf hKf => ?_)
                      obtain ⟨g41, _⟩ := hf
                      have h41 : af.tmps[41]?.getD undef = .agg (hd v0 f) := g41
                      clear g41
                      go_simp
                      refine (rrightR_any v0 f _ HRF.out).mono ?_
                      rintro e wN ⟨rfl, hb⟩
                      exact hKf _ _ (hb) (congrArg Value.bool HYY.out.symm)
                    | 2, _ =>
                      refine StepOk.plain _ 43 rfl rfl rfl [(42, some 1)] (by kernel_rfl) (fun af wf hbw hf Kf hKf => ?_)
                      obtain ⟨g42, _⟩ := hf
                      have h42 : af.tmps[42]?.getD undef = .bool true := g42
                      clear g42
                      go_simp
                      exact hKf _ _ (Below.refl _ _) rfl
                    | 3, _ =>
                      refine StepOk.plain _ 44 rfl rfl rfl [(43, some 2)] (by kernel_rfl) (fun af wf hbw hf Kf hKf => ?_)
                      obtain ⟨g43, _⟩ := hf
                      have h43 : af.tmps[43]?.getD undef = .bool false := g43
                      clear g43
                      go_simp
                      exact hKf _ _ (Below.refl _ _) rfl
                    | 4, _ =>
                      refine StepOk.yes _ 45 rfl rfl rfl rfl (fun _ _ h => h) [(4, none)] (by kernel_rfl) (fun af wf hbw hf Kf hKf => ?_)
                      obtain ⟨g4, _⟩ := hf
                      have h4 : af.tmps[4]?.getD undef = .pointer (some ⟨w.heap.size + 1, 0, none⟩) := g4
                      clear g4
                      refine wp_load_blk 66 (.tmp 4) rfl (w.heap.size + 1) 0 66 (hd v0 f) (hd v0 f) _ (by simp [Act.eval, h4]) (Blk.on (Blk.drew hH9) hbw) (hd_self v0 f) Try.underlying66 rfl (by kernel_rfl) ?_
                      exact hKf _ _ ((Below.refl _ _)) (rfl)
                    | 5, _ =>
                      refine StepOk.yes _ 46 rfl rfl rfl rfl (fun _ _ h => h) [(45, some 4)] (by kernel_rfl) (fun af wf hbw hf Kf hKf => ?_)
                      obtain ⟨g45, _⟩ := hf
                      have h45 : af.tmps[45]?.getD undef = .agg (hd v0 f) := g45
                      clear g45
                      go_simp
                      refine (rbytesR_any v0 f _ r0.1 r0.2 HRF.out).mono ?_
                      rintro e wN ⟨v6, rfl, hF6, hb6⟩
                      exact hKf _ _ (hb6) ((isB_of (by rw [HEN.out]; exact hF6) hENl))
                    | 6, _ =>
                      refine StepOk.yes _ 47 rfl rfl rfl rfl (fun _ _ h => h) [(46, some 5)] (by kernel_rfl) (fun af wf hbw hf Kf hKf => ?_)
                      obtain ⟨g46, _⟩ := hf
                      obtain ⟨A46, c46, h46, hR46, hn46, hm46⟩ : IsB (256) (EN) (af.tmps[46]?.getD undef) wf := g46
                      have hcv := conv c46 _ hR46
                      go_simp
                      exact hKf _ _ (Below.refl _ _) rfl
                    | 7, _ =>
                      refine StepOk.yes _ 48 rfl rfl rfl rfl (fun _ _ h => h) [(0, none)] (by kernel_rfl) (fun af wf hbw hf Kf hKf => ?_)
                      obtain ⟨g0, _⟩ := hf
                      have h0 : af.tmps[0]?.getD undef = .slice (some ⟨ab, off, none⟩) 256 c := g0
                      clear g0
                      go_simp
                      exact hKf _ _ (Below.refl _ _) rfl
                    | 8, _ =>
                      refine StepOk.yes _ 49 rfl rfl rfl rfl (fun _ _ h => h) [(48, some 7)] (by kernel_rfl) (fun af wf hbw hf Kf hKf => ?_)
                      obtain ⟨g48, _⟩ := hf
                      have h48 : af.tmps[48]?.getD undef = .slice (some ⟨ab, off, none⟩) 256 c := g48
                      clear g48
                      have hcv := conv c _ (Rd.below (Rd.drew (hr9)) hbw)
                      go_simp
                      exact hKf _ _ (Below.refl _ _) rfl
                    | 9, _ =>
                      refine StepOk.yes _ 50 rfl rfl rfl rfl (fun _ _ h => h) [(47, some 6), (49, some 8)] (by kernel_rfl) (fun af wf hbw hf Kf hKf => ?_)
                      obtain ⟨g47, g49, _⟩ := hf
                      have h47 : af.tmps[47]?.getD undef = .string (str (EN)) := g47
                      have h49 : af.tmps[49]?.getD undef = .string (str (b)) := g49
                      clear g47 g49
                      have hq := hqe.out
                      go_simp
                      exact hKf _ _ (Below.refl _ _) rfl
                    | 10, _ =>
                      refine StepOk.plain _ 51 rfl rfl rfl [(44, some 3), (50, some 9)] (by kernel_rfl) (fun af wf hbw hf Kf hKf => ?_)
                      obtain ⟨g44, g50, _⟩ := hf
                      have h44 : af.tmps[44]?.getD undef = .bool false := g44
                      have h50 : af.tmps[50]?.getD undef = .bool false := g50
                      clear g44 g50
                      go_simp
                      exact hKf _ _ (Below.refl _ _) rfl
                    | i + 11, h => exact absurd h (by show ¬ (i + 11 < 11); omega)
                  · intro af wF hbF hdF hsF hbaseF hfactF
                    obtain ⟨T, dsF⟩ := af
                    obtain rfl : dsF = _ := hdF
                    have e0 := hbaseF 0 (not_dst (by kernel_rfl))
                    simp only [List.getElem?_toArray, List.getElem?_cons_zero, Option.getD_some] at e0
                    have e1 := hbaseF 1 (not_dst (by kernel_rfl))
                    simp only [List.getElem?_toArray, List.getElem?_cons_zero, List.getElem?_cons_succ, Option.getD_some] at e1
                    have e2 := hbaseF 2 (not_dst (by kernel_rfl))
                    simp only [List.getElem?_toArray, List.getElem?_cons_zero, List.getElem?_cons_succ, Option.getD_some] at e2
                    have e3 := hbaseF 3 (not_dst (by kernel_rfl))
                    simp only [List.getElem?_toArray, List.getElem?_cons_zero, List.getElem?_cons_succ, Option.getD_some] at e3
                    have e4 := hbaseF 4 (not_dst (by kernel_rfl))
                    simp only [List.getElem?_toArray, List.getElem?_cons_zero, List.getElem?_cons_succ, Option.getD_some] at e4
                    have e5 := hbaseF 5 (not_dst (by kernel_rfl))
                    simp only [List.getElem?_toArray, List.getElem?_cons_zero, List.getElem?_cons_succ, Option.getD_some] at e5
                    have e6 := hbaseF 6 (not_dst (by kernel_rfl))
                    simp only [List.getElem?_toArray, List.getElem?_cons_zero, List.getElem?_cons_succ, Option.getD_some] at e6
                    have e7 := hbaseF 7 (not_dst (by kernel_rfl))
                    simp only [List.getElem?_toArray, List.getElem?_cons_zero, List.getElem?_cons_succ, Option.getD_some] at e7
                    have e8 := hbaseF 8 (not_dst (by kernel_rfl))
                    simp only [List.getElem?_toArray, List.getElem?_cons_zero, List.getElem?_cons_succ, Option.getD_some] at e8
                    have e9 := hbaseF 9 (not_dst (by kernel_rfl))
                    simp only [List.getElem?_toArray, List.getElem?_cons_zero, List.getElem?_cons_succ, Option.getD_some] at e9
                    have e10 := hbaseF 10 (not_dst (by kernel_rfl))
                    simp only [List.getElem?_toArray, List.getElem?_cons_zero, List.getElem?_cons_succ, Option.getD_some] at e10
                    have e11 := hbaseF 11 (not_dst (by kernel_rfl))
                    simp only [List.getElem?_toArray, List.getElem?_cons_zero, List.getElem?_cons_succ, Option.getD_some] at e11
                    have e12 := hbaseF 12 (not_dst (by kernel_rfl))
                    simp only [List.getElem?_toArray, List.getElem?_cons_zero, List.getElem?_cons_succ, Option.getD_some] at e12
                    have e13 := hbaseF 13 (not_dst (by kernel_rfl))
                    simp only [List.getElem?_toArray, List.getElem?_cons_zero, List.getElem?_cons_succ, Option.getD_some] at e13
                    have e14 := hbaseF 14 (not_dst (by kernel_rfl))
                    simp only [List.getElem?_toArray, List.getElem?_cons_zero, List.getElem?_cons_succ, Option.getD_some] at e14
                    have e15 := hbaseF 15 (not_dst (by kernel_rfl))
                    simp only [List.getElem?_toArray, List.getElem?_cons_zero, List.getElem?_cons_succ, Option.getD_some] at e15
                    have e16 := hbaseF 16 (not_dst (by kernel_rfl))
                    simp only [List.getElem?_toArray, List.getElem?_cons_zero, List.getElem?_cons_succ, Option.getD_some] at e16
                    have e17 := hbaseF 17 (not_dst (by kernel_rfl))
                    simp only [List.getElem?_toArray, List.getElem?_cons_zero, List.getElem?_cons_succ, Option.getD_some] at e17
                    have e18 := hbaseF 18 (not_dst (by kernel_rfl))
                    simp only [List.getElem?_toArray, List.getElem?_cons_zero, List.getElem?_cons_succ, Option.getD_some] at e18
                    have e19 := hbaseF 19 (not_dst (by kernel_rfl))
                    simp only [List.getElem?_toArray, List.getElem?_cons_zero, List.getElem?_cons_succ, Option.getD_some] at e19
                    have e20 := hbaseF 20 (not_dst (by kernel_rfl))
                    simp only [List.getElem?_toArray, List.getElem?_cons_zero, List.getElem?_cons_succ, Option.getD_some] at e20
                    have e21 := hbaseF 21 (not_dst (by kernel_rfl))
                    simp only [List.getElem?_toArray, List.getElem?_cons_zero, List.getElem?_cons_succ, Option.getD_some] at e21
                    have e22 := hbaseF 22 (not_dst (by kernel_rfl))
                    simp only [List.getElem?_toArray, List.getElem?_cons_zero, List.getElem?_cons_succ, Option.getD_some] at e22
                    have e23 := hbaseF 23 (not_dst (by kernel_rfl))
                    simp only [List.getElem?_toArray, List.getElem?_cons_zero, List.getElem?_cons_succ, Option.getD_some] at e23
                    have e24 := hbaseF 24 (not_dst (by kernel_rfl))
                    simp only [List.getElem?_toArray, List.getElem?_cons_zero, List.getElem?_cons_succ, Option.getD_some] at e24
                    have e25 := hbaseF 25 (not_dst (by kernel_rfl))
                    simp only [List.getElem?_toArray, List.getElem?_cons_zero, List.getElem?_cons_succ, Option.getD_some] at e25
                    have e26 := hbaseF 26 (not_dst (by kernel_rfl))
                    simp only [List.getElem?_toArray, List.getElem?_cons_zero, List.getElem?_cons_succ, Option.getD_some] at e26
                    have e27 := hbaseF 27 (not_dst (by kernel_rfl))
                    simp only [List.getElem?_toArray, List.getElem?_cons_zero, List.getElem?_cons_succ, Option.getD_some] at e27
                    have e28 := hbaseF 28 (not_dst (by kernel_rfl))
                    simp only [List.getElem?_toArray, List.getElem?_cons_zero, List.getElem?_cons_succ, Option.getD_some] at e28
                    have e29 := hbaseF 29 (not_dst (by kernel_rfl))
                    simp only [List.getElem?_toArray, List.getElem?_cons_zero, List.getElem?_cons_succ, Option.getD_some] at e29
                    have e30 := hbaseF 30 (not_dst (by kernel_rfl))
                    simp only [List.getElem?_toArray, List.getElem?_cons_zero, List.getElem?_cons_succ, Option.getD_some] at e30
                    have e31 := hbaseF 31 (not_dst (by kernel_rfl))
                    simp only [List.getElem?_toArray, List.getElem?_cons_zero, List.getElem?_cons_succ, Option.getD_some] at e31
                    have e32 := hbaseF 32 (not_dst (by kernel_rfl))
                    simp only [List.getElem?_toArray, List.getElem?_cons_zero, List.getElem?_cons_succ, Option.getD_some] at e32
                    have e33 := hbaseF 33 (not_dst (by kernel_rfl))
                    simp only [List.getElem?_toArray, List.getElem?_cons_zero, List.getElem?_cons_succ, Option.getD_some] at e33
                    have e34 := hbaseF 34 (not_dst (by kernel_rfl))
                    simp only [List.getElem?_toArray, List.getElem?_cons_zero, List.getElem?_cons_succ, Option.getD_some] at e34
                    have e35 := hbaseF 35 (not_dst (by kernel_rfl))
                    simp only [List.getElem?_toArray, List.getElem?_cons_zero, List.getElem?_cons_succ, Option.getD_some] at e35
                    have e36 := hbaseF 36 (not_dst (by kernel_rfl))
                    simp only [List.getElem?_toArray, List.getElem?_cons_zero, List.getElem?_cons_succ, Option.getD_some] at e36
                    have e37 := hbaseF 37 (not_dst (by kernel_rfl))
                    simp only [List.getElem?_toArray, List.getElem?_cons_zero, List.getElem?_cons_succ, Option.getD_some] at e37
                    have e38 := hbaseF 38 (not_dst (by kernel_rfl))
                    simp only [List.getElem?_toArray, List.getElem?_cons_zero, List.getElem?_cons_succ, Option.getD_some] at e38
                    have e39 := hbaseF 39 (not_dst (by kernel_rfl))
                    simp only [List.getElem?_toArray, List.getElem?_cons_zero, List.getElem?_cons_succ, Option.getD_some] at e39
                    have e40 := hbaseF 40 (not_dst (by kernel_rfl))
                    simp only [List.getElem?_toArray, List.getElem?_cons_zero, List.getElem?_cons_succ, Option.getD_some] at e40
                    have e52 := hbaseF 52 (not_dst (by kernel_rfl))
                    simp only [List.getElem?_toArray, List.getElem?_cons_zero, List.getElem?_cons_succ, Option.getD_some] at e52
                    have e53 := hbaseF 53 (not_dst (by kernel_rfl))
                    simp only [List.getElem?_toArray, List.getElem?_cons_zero, List.getElem?_cons_succ, Option.getD_some] at e53
                    have e51 := hfactF 10 51 (by decide) rfl
                    replace e51 : T[51]?.getD undef = .bool false := e51
                    clear hbaseF hfactF
                    have hT : T = #[T[0]?.getD undef, T[1]?.getD undef, T[2]?.getD undef, T[3]?.getD undef, T[4]?.getD undef, T[5]?.getD undef, T[6]?.getD undef, T[7]?.getD undef, T[8]?.getD undef, T[9]?.getD undef, T[10]?.getD undef, T[11]?.getD undef, T[12]?.getD undef, T[13]?.getD undef, T[14]?.getD undef, T[15]?.getD undef, T[16]?.getD undef, T[17]?.getD undef, T[18]?.getD undef, T[19]?.getD undef, T[20]?.getD undef, T[21]?.getD undef, T[22]?.getD undef, T[23]?.getD undef, T[24]?.getD undef, T[25]?.getD undef, T[26]?.getD undef, T[27]?.getD undef, T[28]?.getD undef, T[29]?.getD undef, T[30]?.getD undef, T[31]?.getD undef, T[32]?.getD undef, T[33]?.getD undef, T[34]?.getD undef, T[35]?.getD undef, T[36]?.getD undef, T[37]?.getD undef, T[38]?.getD undef, T[39]?.getD undef, T[40]?.getD undef, T[41]?.getD undef, T[42]?.getD undef, T[43]?.getD undef, T[44]?.getD undef, T[45]?.getD undef, T[46]?.getD undef, T[47]?.getD undef, T[48]?.getD undef, T[49]?.getD undef, T[50]?.getD undef, T[51]?.getD undef, T[52]?.getD undef, T[53]?.getD undef] := arr_eq T 54 hsF
                    clear hsF
                    rw [e0] at hT; clear e0
                    rw [e1] at hT; clear e1
                    rw [e2] at hT; clear e2
                    rw [e3] at hT; clear e3
                    rw [e4] at hT; clear e4
                    rw [e5] at hT; clear e5
                    rw [e6] at hT; clear e6
                    rw [e7] at hT; clear e7
                    rw [e8] at hT; clear e8
                    rw [e9] at hT; clear e9
                    rw [e10] at hT; clear e10
                    rw [e11] at hT; clear e11
                    rw [e12] at hT; clear e12
                    rw [e13] at hT; clear e13
                    rw [e14] at hT; clear e14
                    rw [e15] at hT; clear e15
                    rw [e16] at hT; clear e16
                    rw [e17] at hT; clear e17
                    rw [e18] at hT; clear e18
                    rw [e19] at hT; clear e19
                    rw [e20] at hT; clear e20
                    rw [e21] at hT; clear e21
                    rw [e22] at hT; clear e22
                    rw [e23] at hT; clear e23
                    rw [e24] at hT; clear e24
                    rw [e25] at hT; clear e25
                    rw [e26] at hT; clear e26
                    rw [e27] at hT; clear e27
                    rw [e28] at hT; clear e28
                    rw [e29] at hT; clear e29
                    rw [e30] at hT; clear e30
                    rw [e31] at hT; clear e31
                    rw [e32] at hT; clear e32
                    rw [e33] at hT; clear e33
                    rw [e34] at hT; clear e34
                    rw [e35] at hT; clear e35
                    rw [e36] at hT; clear e36
                    rw [e37] at hT; clear e37
                    rw [e38] at hT; clear e38
                    rw [e39] at hT; clear e39
                    rw [e40] at hT; clear e40
                    generalize T[41]?.getD undef = u41 at hT
                    generalize T[42]?.getD undef = u42 at hT
                    generalize T[43]?.getD undef = u43 at hT
                    generalize T[44]?.getD undef = u44 at hT
                    generalize T[45]?.getD undef = u45 at hT
                    generalize T[46]?.getD undef = u46 at hT
                    generalize T[47]?.getD undef = u47 at hT
                    generalize T[48]?.getD undef = u48 at hT
                    generalize T[49]?.getD undef = u49 at hT
                    generalize T[50]?.getD undef = u50 at hT
                    rw [e51] at hT; clear e51
                    rw [e52] at hT; clear e52
                    rw [e53] at hT; clear e53
                    subst hT
                    have hBx := hB9.on hbF
                    have hHx := hH9.on hbF
                    have bx : Below w.heap.size w wF := (by (have q_hbF := Below.size hbF; (try simp at q_hbF); have q_b9 := Below.size b9; (try simp at q_b9); repeat (first | exact Below.refl _ _ | (refine Below.trans ?_ (Below.mono hbF (by first | omega | (simp; omega) | simp))) | (refine Below.trans ?_ (Below.mono b9 (by first | omega | (simp; omega) | simp))) | (refine Below.setCell ?_ (by first | omega | (simp; omega) | simp) _) | (refine Below.alloc ?_ (by first | omega | (simp; omega) | simp) _) | apply Below.drew | apply below_drewN)))
                    go_wp2_with (first | (refine wpList_load_blk rfl 66 (.tmp 4) rfl (w.heap.size + 1) 0 66 (hd v0 f) (hd v0 f) _ rfl hHx (hd_self v0 f) Try.underlying66 rfl (by kernel_rfl) ?_) | (refine wpList_store_blk rfl 66 (.tmp 2) (.tmp 53) rfl w.heap.size 66 (hz 0) (hd v0 f) rfl rfl hBx rfl (by kernel_rfl) (hd_one v0 f) ?_; intro W9 hC9 hK9))
                    refine ret_cell2 (p := 2) (u := 3) rfl rfl rfl hC9 _ Try.underlying66 rfl (by kernel_rfl) rfl ⟨by rw [P1.out, P2.out, P3.out, hGt.out]; rfl, bx.trans (hK9.below bx.size (by simp))⟩
                · have hGf := Lib.hid (show G = false by rw [hGG.out, decide_eq_false hEb]; rfl)
                  have hqe := Lib.hid (show ((str EN).toList == (str b).toList) = false by
                    have : ((str EN).toList == (str b).toList) = decide (EN = b) := by rw [Bool.eq_iff_iff]; simp [str_toL]
                    rw [this]
                    exact decide_eq_false hEb)
                  clear hEb
                  refine wp_flows [(fun y_ _ => y_ = .agg (hd v0 f)), (fun y_ _ => y_ = .bool true), (fun y_ _ => y_ = .bool false), (fun y_ _ => y_ = .bool false), (fun y_ _ => y_ = .agg (hd v0 f)), (IsB (256) (EN)), (fun y_ _ => y_ = .string (str (EN))), (fun y_ _ => y_ = .slice (some ⟨ab, off, none⟩) 256 c), (fun y_ _ => y_ = .string (str (b))), (fun y_ _ => y_ = .bool true), (fun y_ _ => y_ = .bool true)] (by kernel_rfl) ⟨Stab.eq _, Stab.eq _, Stab.eq _, Stab.eq _, Stab.eq _, Stab.b _ _, Stab.eq _, Stab.eq _, Stab.eq _, Stab.eq _, Stab.eq _, trivial⟩ (by kernel_rfl) (by rfl) ?_ ?_
                  · intro kq hkq
                    match kq, hkq with
                    | 0, _ =>
                      refine StepOk.plain _ 41 rfl rfl rfl [(4, none)] (by kernel_rfl) (fun af wf hbw hf Kf hKf => ?_)
                      obtain ⟨g4, _⟩ := hf
                      have h4 : af.tmps[4]?.getD undef = .pointer (some ⟨w.heap.size + 1, 0, none⟩) := g4
                      clear g4
                      refine wp_load_blk 66 (.tmp 4) rfl (w.heap.size + 1) 0 66 (hd v0 f) (hd v0 f) _ (by simp [Act.eval, h4]) (Blk.on (Blk.drew hH9) hbw) (hd_self v0 f) Try.underlying66 rfl (by kernel_rfl) ?_
                      exact hKf _ _ ((Below.refl _ _)) (rfl)
                    | 1, _ =>
                      refine StepOk.plain _ 42 rfl rfl rfl [(41, some 0)] (by kernel_rfl) (fun af wf hbw hf Kf hKf => ?_)
                      obtain ⟨g41, _⟩ := hf
                      have h41 : af.tmps[41]?.getD undef = .agg (hd v0 f) := g41
                      clear g41
                      go_simp
                      refine (rrightR_any v0 f _ HRF.out).mono ?_
                      rintro e wN ⟨rfl, hb⟩
                      exact hKf _ _ (hb) (congrArg Value.bool HYY.out.symm)
                    | 2, _ =>
                      refine StepOk.plain _ 43 rfl rfl rfl [(42, some 1)] (by kernel_rfl) (fun af wf hbw hf Kf hKf => ?_)
                      obtain ⟨g42, _⟩ := hf
                      have h42 : af.tmps[42]?.getD undef = .bool true := g42
                      clear g42
                      go_simp
                      exact hKf _ _ (Below.refl _ _) rfl
                    | 3, _ =>
                      refine StepOk.plain _ 44 rfl rfl rfl [(43, some 2)] (by kernel_rfl) (fun af wf hbw hf Kf hKf => ?_)
                      obtain ⟨g43, _⟩ := hf
                      have h43 : af.tmps[43]?.getD undef = .bool false := g43
                      clear g43
                      go_simp
                      exact hKf _ _ (Below.refl _ _) rfl
                    | 4, _ =>
                      refine StepOk.yes _ 45 rfl rfl rfl rfl (fun _ _ h => h) [(4, none)] (by kernel_rfl) (fun af wf hbw hf Kf hKf => ?_)
                      obtain ⟨g4, _⟩ := hf
                      have h4 : af.tmps[4]?.getD undef = .pointer (some ⟨w.heap.size + 1, 0, none⟩) := g4
                      clear g4
                      refine wp_load_blk 66 (.tmp 4) rfl (w.heap.size + 1) 0 66 (hd v0 f) (hd v0 f) _ (by simp [Act.eval, h4]) (Blk.on (Blk.drew hH9) hbw) (hd_self v0 f) Try.underlying66 rfl (by kernel_rfl) ?_
                      exact hKf _ _ ((Below.refl _ _)) (rfl)
                    | 5, _ =>
                      refine StepOk.yes _ 46 rfl rfl rfl rfl (fun _ _ h => h) [(45, some 4)] (by kernel_rfl) (fun af wf hbw hf Kf hKf => ?_)
                      obtain ⟨g45, _⟩ := hf
                      have h45 : af.tmps[45]?.getD undef = .agg (hd v0 f) := g45
                      clear g45
                      go_simp
                      refine (rbytesR_any v0 f _ r0.1 r0.2 HRF.out).mono ?_
                      rintro e wN ⟨v6, rfl, hF6, hb6⟩
                      exact hKf _ _ (hb6) ((isB_of (by rw [HEN.out]; exact hF6) hENl))
                    | 6, _ =>
                      refine StepOk.yes _ 47 rfl rfl rfl rfl (fun _ _ h => h) [(46, some 5)] (by kernel_rfl) (fun af wf hbw hf Kf hKf => ?_)
                      obtain ⟨g46, _⟩ := hf
                      obtain ⟨A46, c46, h46, hR46, hn46, hm46⟩ : IsB (256) (EN) (af.tmps[46]?.getD undef) wf := g46
                      have hcv := conv c46 _ hR46
                      go_simp
                      exact hKf _ _ (Below.refl _ _) rfl
                    | 7, _ =>
                      refine StepOk.yes _ 48 rfl rfl rfl rfl (fun _ _ h => h) [(0, none)] (by kernel_rfl) (fun af wf hbw hf Kf hKf => ?_)
                      obtain ⟨g0, _⟩ := hf
                      have h0 : af.tmps[0]?.getD undef = .slice (some ⟨ab, off, none⟩) 256 c := g0
                      clear g0
                      go_simp
                      exact hKf _ _ (Below.refl _ _) rfl
                    | 8, _ =>
                      refine StepOk.yes _ 49 rfl rfl rfl rfl (fun _ _ h => h) [(48, some 7)] (by kernel_rfl) (fun af wf hbw hf Kf hKf => ?_)
                      obtain ⟨g48, _⟩ := hf
                      have h48 : af.tmps[48]?.getD undef = .slice (some ⟨ab, off, none⟩) 256 c := g48
                      clear g48
                      have hcv := conv c _ (Rd.below (Rd.drew (hr9)) hbw)
                      go_simp
                      exact hKf _ _ (Below.refl _ _) rfl
                    | 9, _ =>
                      refine StepOk.yes _ 50 rfl rfl rfl rfl (fun _ _ h => h) [(47, some 6), (49, some 8)] (by kernel_rfl) (fun af wf hbw hf Kf hKf => ?_)
                      obtain ⟨g47, g49, _⟩ := hf
                      have h47 : af.tmps[47]?.getD undef = .string (str (EN)) := g47
                      have h49 : af.tmps[49]?.getD undef = .string (str (b)) := g49
                      clear g47 g49
                      have hq := hqe.out
                      go_simp
                      exact hKf _ _ (Below.refl _ _) rfl
                    | 10, _ =>
                      refine StepOk.plain _ 51 rfl rfl rfl [(44, some 3), (50, some 9)] (by kernel_rfl) (fun af wf hbw hf Kf hKf => ?_)
                      obtain ⟨g44, g50, _⟩ := hf
                      have h44 : af.tmps[44]?.getD undef = .bool false := g44
                      have h50 : af.tmps[50]?.getD undef = .bool true := g50
                      clear g44 g50
                      go_simp
                      exact hKf _ _ (Below.refl _ _) rfl
                    | i + 11, h => exact absurd h (by show ¬ (i + 11 < 11); omega)
                  · intro af wF hbF hdF hsF hbaseF hfactF
                    obtain ⟨T, dsF⟩ := af
                    obtain rfl : dsF = _ := hdF
                    have e0 := hbaseF 0 (not_dst (by kernel_rfl))
                    simp only [List.getElem?_toArray, List.getElem?_cons_zero, Option.getD_some] at e0
                    have e1 := hbaseF 1 (not_dst (by kernel_rfl))
                    simp only [List.getElem?_toArray, List.getElem?_cons_zero, List.getElem?_cons_succ, Option.getD_some] at e1
                    have e2 := hbaseF 2 (not_dst (by kernel_rfl))
                    simp only [List.getElem?_toArray, List.getElem?_cons_zero, List.getElem?_cons_succ, Option.getD_some] at e2
                    have e3 := hbaseF 3 (not_dst (by kernel_rfl))
                    simp only [List.getElem?_toArray, List.getElem?_cons_zero, List.getElem?_cons_succ, Option.getD_some] at e3
                    have e4 := hbaseF 4 (not_dst (by kernel_rfl))
                    simp only [List.getElem?_toArray, List.getElem?_cons_zero, List.getElem?_cons_succ, Option.getD_some] at e4
                    have e5 := hbaseF 5 (not_dst (by kernel_rfl))
                    simp only [List.getElem?_toArray, List.getElem?_cons_zero, List.getElem?_cons_succ, Option.getD_some] at e5
                    have e6 := hbaseF 6 (not_dst (by kernel_rfl))
                    simp only [List.getElem?_toArray, List.getElem?_cons_zero, List.getElem?_cons_succ, Option.getD_some] at e6
                    have e7 := hbaseF 7 (not_dst (by kernel_rfl))
                    simp only [List.getElem?_toArray, List.getElem?_cons_zero, List.getElem?_cons_succ, Option.getD_some] at e7
                    have e8 := hbaseF 8 (not_dst (by kernel_rfl))
                    simp only [List.getElem?_toArray, List.getElem?_cons_zero, List.getElem?_cons_succ, Option.getD_some] at e8
                    have e9 := hbaseF 9 (not_dst (by kernel_rfl))
                    simp only [List.getElem?_toArray, List.getElem?_cons_zero, List.getElem?_cons_succ, Option.getD_some] at e9
                    have e10 := hbaseF 10 (not_dst (by kernel_rfl))
                    simp only [List.getElem?_toArray, List.getElem?_cons_zero, List.getElem?_cons_succ, Option.getD_some] at e10
                    have e11 := hbaseF 11 (not_dst (by kernel_rfl))
                    simp only [List.getElem?_toArray, List.getElem?_cons_zero, List.getElem?_cons_succ, Option.getD_some] at e11
                    have e12 := hbaseF 12 (not_dst (by kernel_rfl))
                    simp only [List.getElem?_toArray, List.getElem?_cons_zero, List.getElem?_cons_succ, Option.getD_some] at e12
                    have e13 := hbaseF 13 (not_dst (by kernel_rfl))
                    simp only [List.getElem?_toArray, List.getElem?_cons_zero, List.getElem?_cons_succ, Option.getD_some] at e13
                    have e14 := hbaseF 14 (not_dst (by kernel_rfl))
                    simp only [List.getElem?_toArray, List.getElem?_cons_zero, List.getElem?_cons_succ, Option.getD_some] at e14
                    have e15 := hbaseF 15 (not_dst (by kernel_rfl))
                    simp only [List.getElem?_toArray, List.getElem?_cons_zero, List.getElem?_cons_succ, Option.getD_some] at e15
                    have e16 := hbaseF 16 (not_dst (by kernel_rfl))
                    simp only [List.getElem?_toArray, List.getElem?_cons_zero, List.getElem?_cons_succ, Option.getD_some] at e16
                    have e17 := hbaseF 17 (not_dst (by kernel_rfl))
                    simp only [List.getElem?_toArray, List.getElem?_cons_zero, List.getElem?_cons_succ, Option.getD_some] at e17
                    have e18 := hbaseF 18 (not_dst (by kernel_rfl))
                    simp only [List.getElem?_toArray, List.getElem?_cons_zero, List.getElem?_cons_succ, Option.getD_some] at e18
                    have e19 := hbaseF 19 (not_dst (by kernel_rfl))
                    simp only [List.getElem?_toArray, List.getElem?_cons_zero, List.getElem?_cons_succ, Option.getD_some] at e19
                    have e20 := hbaseF 20 (not_dst (by kernel_rfl))
                    simp only [List.getElem?_toArray, List.getElem?_cons_zero, List.getElem?_cons_succ, Option.getD_some] at e20
                    have e21 := hbaseF 21 (not_dst (by kernel_rfl))
                    simp only [List.getElem?_toArray, List.getElem?_cons_zero, List.getElem?_cons_succ, Option.getD_some] at e21
                    have e22 := hbaseF 22 (not_dst (by kernel_rfl))
                    simp only [List.getElem?_toArray, List.getElem?_cons_zero, List.getElem?_cons_succ, Option.getD_some] at e22
                    have e23 := hbaseF 23 (not_dst (by kernel_rfl))
                    simp only [List.getElem?_toArray, List.getElem?_cons_zero, List.getElem?_cons_succ, Option.getD_some] at e23
                    have e24 := hbaseF 24 (not_dst (by kernel_rfl))
                    simp only [List.getElem?_toArray, List.getElem?_cons_zero, List.getElem?_cons_succ, Option.getD_some] at e24
                    have e25 := hbaseF 25 (not_dst (by kernel_rfl))
                    simp only [List.getElem?_toArray, List.getElem?_cons_zero, List.getElem?_cons_succ, Option.getD_some] at e25
                    have e26 := hbaseF 26 (not_dst (by kernel_rfl))
                    simp only [List.getElem?_toArray, List.getElem?_cons_zero, List.getElem?_cons_succ, Option.getD_some] at e26
                    have e27 := hbaseF 27 (not_dst (by kernel_rfl))
                    simp only [List.getElem?_toArray, List.getElem?_cons_zero, List.getElem?_cons_succ, Option.getD_some] at e27
                    have e28 := hbaseF 28 (not_dst (by kernel_rfl))
                    simp only [List.getElem?_toArray, List.getElem?_cons_zero, List.getElem?_cons_succ, Option.getD_some] at e28
                    have e29 := hbaseF 29 (not_dst (by kernel_rfl))
                    simp only [List.getElem?_toArray, List.getElem?_cons_zero, List.getElem?_cons_succ, Option.getD_some] at e29
                    have e30 := hbaseF 30 (not_dst (by kernel_rfl))
                    simp only [List.getElem?_toArray, List.getElem?_cons_zero, List.getElem?_cons_succ, Option.getD_some] at e30
                    have e31 := hbaseF 31 (not_dst (by kernel_rfl))
                    simp only [List.getElem?_toArray, List.getElem?_cons_zero, List.getElem?_cons_succ, Option.getD_some] at e31
                    have e32 := hbaseF 32 (not_dst (by kernel_rfl))
                    simp only [List.getElem?_toArray, List.getElem?_cons_zero, List.getElem?_cons_succ, Option.getD_some] at e32
                    have e33 := hbaseF 33 (not_dst (by kernel_rfl))
                    simp only [List.getElem?_toArray, List.getElem?_cons_zero, List.getElem?_cons_succ, Option.getD_some] at e33
                    have e34 := hbaseF 34 (not_dst (by kernel_rfl))
                    simp only [List.getElem?_toArray, List.getElem?_cons_zero, List.getElem?_cons_succ, Option.getD_some] at e34
                    have e35 := hbaseF 35 (not_dst (by kernel_rfl))
                    simp only [List.getElem?_toArray, List.getElem?_cons_zero, List.getElem?_cons_succ, Option.getD_some] at e35
                    have e36 := hbaseF 36 (not_dst (by kernel_rfl))
                    simp only [List.getElem?_toArray, List.getElem?_cons_zero, List.getElem?_cons_succ, Option.getD_some] at e36
                    have e37 := hbaseF 37 (not_dst (by kernel_rfl))
                    simp only [List.getElem?_toArray, List.getElem?_cons_zero, List.getElem?_cons_succ, Option.getD_some] at e37
                    have e38 := hbaseF 38 (not_dst (by kernel_rfl))
                    simp only [List.getElem?_toArray, List.getElem?_cons_zero, List.getElem?_cons_succ, Option.getD_some] at e38
                    have e39 := hbaseF 39 (not_dst (by kernel_rfl))
                    simp only [List.getElem?_toArray, List.getElem?_cons_zero, List.getElem?_cons_succ, Option.getD_some] at e39
                    have e40 := hbaseF 40 (not_dst (by kernel_rfl))
                    simp only [List.getElem?_toArray, List.getElem?_cons_zero, List.getElem?_cons_succ, Option.getD_some] at e40
                    have e52 := hbaseF 52 (not_dst (by kernel_rfl))
                    simp only [List.getElem?_toArray, List.getElem?_cons_zero, List.getElem?_cons_succ, Option.getD_some] at e52
                    have e53 := hbaseF 53 (not_dst (by kernel_rfl))
                    simp only [List.getElem?_toArray, List.getElem?_cons_zero, List.getElem?_cons_succ, Option.getD_some] at e53
                    have e51 := hfactF 10 51 (by decide) rfl
                    replace e51 : T[51]?.getD undef = .bool true := e51
                    clear hbaseF hfactF
                    have hT : T = #[T[0]?.getD undef, T[1]?.getD undef, T[2]?.getD undef, T[3]?.getD undef, T[4]?.getD undef, T[5]?.getD undef, T[6]?.getD undef, T[7]?.getD undef, T[8]?.getD undef, T[9]?.getD undef, T[10]?.getD undef, T[11]?.getD undef, T[12]?.getD undef, T[13]?.getD undef, T[14]?.getD undef, T[15]?.getD undef, T[16]?.getD undef, T[17]?.getD undef, T[18]?.getD undef, T[19]?.getD undef, T[20]?.getD undef, T[21]?.getD undef, T[22]?.getD undef, T[23]?.getD undef, T[24]?.getD undef, T[25]?.getD undef, T[26]?.getD undef, T[27]?.getD undef, T[28]?.getD undef, T[29]?.getD undef, T[30]?.getD undef, T[31]?.getD undef, T[32]?.getD undef, T[33]?.getD undef, T[34]?.getD undef, T[35]?.getD undef, T[36]?.getD undef, T[37]?.getD undef, T[38]?.getD undef, T[39]?.getD undef, T[40]?.getD undef, T[41]?.getD undef, T[42]?.getD undef, T[43]?.getD undef, T[44]?.getD undef, T[45]?.getD undef, T[46]?.getD undef, T[47]?.getD undef, T[48]?.getD undef, T[49]?.getD undef, T[50]?.getD undef, T[51]?.getD undef, T[52]?.getD undef, T[53]?.getD undef] := arr_eq T 54 hsF
                    clear hsF
                    rw [e0] at hT; clear e0
                    rw [e1] at hT; clear e1
                    rw [e2] at hT; clear e2
                    rw [e3] at hT; clear e3
                    rw [e4] at hT; clear e4
                    rw [e5] at hT; clear e5
                    rw [e6] at hT; clear e6
                    rw [e7] at hT; clear e7
                    rw [e8] at hT; clear e8
                    rw [e9] at hT; clear e9
                    rw [e10] at hT; clear e10
                    rw [e11] at hT; clear e11
                    rw [e12] at hT; clear e12
                    rw [e13] at hT; clear e13
                    rw [e14] at hT; clear e14
                    rw [e15] at hT; clear e15
                    rw [e16] at hT; clear e16
                    rw [e17] at hT; clear e17
                    rw [e18] at hT; clear e18
                    rw [e19] at hT; clear e19
                    rw [e20] at hT; clear e20
                    rw [e21] at hT; clear e21
                    rw [e22] at hT; clear e22
                    rw [e23] at hT; clear e23
                    rw [e24] at hT; clear e24
                    rw [e25] at hT; clear e25
                    rw [e26] at hT; clear e26
                    rw [e27] at hT; clear e27
                    rw [e28] at hT; clear e28
                    rw [e29] at hT; clear e29
                    rw [e30] at hT; clear e30
                    rw [e31] at hT; clear e31
                    rw [e32] at hT; clear e32
                    rw [e33] at hT; clear e33
                    rw [e34] at hT; clear e34
                    rw [e35] at hT; clear e35
                    rw [e36] at hT; clear e36
                    rw [e37] at hT; clear e37
                    rw [e38] at hT; clear e38
                    rw [e39] at hT; clear e39
                    rw [e40] at hT; clear e40
                    generalize T[41]?.getD undef = u41 at hT
                    generalize T[42]?.getD undef = u42 at hT
                    generalize T[43]?.getD undef = u43 at hT
                    generalize T[44]?.getD undef = u44 at hT
                    generalize T[45]?.getD undef = u45 at hT
                    generalize T[46]?.getD undef = u46 at hT
                    generalize T[47]?.getD undef = u47 at hT
                    generalize T[48]?.getD undef = u48 at hT
                    generalize T[49]?.getD undef = u49 at hT
                    generalize T[50]?.getD undef = u50 at hT
                    rw [e51] at hT; clear e51
                    rw [e52] at hT; clear e52
                    rw [e53] at hT; clear e53
                    subst hT
                    have hBx := hB9.on hbF
                    have bx : Below w.heap.size w wF := (by (have q_hbF := Below.size hbF; (try simp at q_hbF); have q_b9 := Below.size b9; (try simp at q_b9); repeat (first | exact Below.refl _ _ | (refine Below.trans ?_ (Below.mono hbF (by first | omega | (simp; omega) | simp))) | (refine Below.trans ?_ (Below.mono b9 (by first | omega | (simp; omega) | simp))) | (refine Below.setCell ?_ (by first | omega | (simp; omega) | simp) _) | (refine Below.alloc ?_ (by first | omega | (simp; omega) | simp) _) | apply Below.drew | apply below_drewN)))
                    go_wp2_with (refine wpList_store_blk rfl 66 (.tmp 2) (.tmp 52) rfl w.heap.size 66 (hz 0) (hz 0) rfl rfl hBx rfl (by kernel_rfl) (hz_one 0) ?_; intro W9 hC9 hK9)
                    refine ret_cell2 (p := 2) (u := 3) rfl rfl rfl hC9 _ Try.underlying66 rfl (by kernel_rfl) rfl ⟨by rw [P1.out, P2.out, P3.out, hGf.out]; rfl, bx.trans (hK9.below bx.size (by simp))⟩
  · obtain ⟨p1, p2, p3⟩ := par_len (b := b) (by rw [hbl]; exact h256)
    have P1 := Lib.hid p1
    have P2 := Lib.hid p2
    have P3 := Lib.hid p3
    have q1 : ¬ (n : Int) = 256 := by omega
    clear p1 p2 p3
    go_enter Try.func46, Try.ntmps46
    go_wp2_with (refine wpList_store_blk rfl 66 (.tmp 2) (.tmp 9) rfl w.heap.size 66 (hz 0) (hz 0) rfl rfl H0 rfl (by kernel_rfl) (hz_one 0) ?_; intro W9 hB9 hK9)
    refine ret_cell2 (p := 2) (u := 3) rfl rfl rfl hB9 _ Try.underlying66 rfl (by kernel_rfl) rfl ⟨by rw [P1.out, P2.out, P3.out]; rfl, hb0.trans (hK9.below hb0.size (by simp))⟩
end Go.Proofs.Ytdnjlhcmihmgdaa
