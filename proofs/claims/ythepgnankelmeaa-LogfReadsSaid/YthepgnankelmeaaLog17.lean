/- Logs: blocks' log, by the document: Parse. -/
import Derived.Test.YthepgnankelmeaaLog16
namespace Go.Proofs.Ythepgnankelmeaa
open Go.RowKit

theorem Rd.sub {w : World} {ab off n : Nat} {l : List UInt8} (h : Rd w (some ⟨ab, off, none⟩) n l) (j m : Nat) (hj : j + m ≤ n) : Rd w (some ⟨ab, off + j, none⟩) m ((l.take (j + m)).drop j) := by
  have hl := h.1
  refine ⟨by simp; omega, fun hm => ?_⟩
  obtain ⟨b', o', hA, hlt, hc⟩ := h.2 (by omega)
  injection hA with hA
  injection hA with e1 e2
  subst e1 e2
  refine ⟨ab, off + j, rfl, hlt, fun i u hi => ?_⟩
  rw [List.getElem?_drop, List.getElem?_take] at hi
  split at hi
  · rw [Nat.add_assoc]
    exact hc (j + i) u hi
  · cases hi
/-- A row whose first is bytes of 256. -/
def IsFst (n : Nat) (l : List UInt8) (v : Value) (W : World) : Prop := ∃ b o c A' c', v = .slice (some ⟨b, o, none⟩) n c ∧ b < W.heap.size ∧ W.cell? ⟨b, o, none⟩ = some (.slice A' 256 c') ∧ Rd W A' 256 l ∧ 256 ≤ c' ∧ c' ≤ maxLen
theorem IsFst.stab (n : Nat) (l : List UInt8) : Stab (IsFst n l) := fun _ _ _ hb ⟨b, o, c, A', c', e, h1, h2, h3, h4⟩ => ⟨b, o, c, A', c', e, Nat.lt_of_lt_of_le h1 hb.size, (hb.cell (p := ⟨b, o, none⟩) h1).trans h2, h3.below hb, h4⟩
theorem IsFst.of {n : Nat} {l : List UInt8} {ls : List (List UInt8)} {A : Option Addr} {c : Nat} {W : World} (h : RdSS W A n (l :: ls)) (hl : l.length = 256) : IsFst n l (.slice A n c) W := by
  have hn : 0 < n := by have := h.len; simp at this; omega
  obtain ⟨b, o, rfl, hb, hc⟩ := h.2 hn
  obtain ⟨A', c', h1, h2, h3⟩ := hc 0 l rfl
  rw [hl] at h1 h2 h3
  exact ⟨b, o, c, A', c', rfl, hb, h1, h2, h3⟩
def IsPtr (l : List UInt8) (v : Value) (W : World) : Prop := ∃ b o A' c', v = .pointer (some ⟨b, o, none⟩) ∧ b < W.heap.size ∧ W.cell? ⟨b, o, none⟩ = some (.slice A' 256 c') ∧ Rd W A' 256 l ∧ 256 ≤ c' ∧ c' ≤ maxLen
theorem IsPtr.stab (l : List UInt8) : Stab (IsPtr l) := fun _ _ _ hb ⟨b, o, A', c', e, h1, h2, h3, h4⟩ => ⟨b, o, A', c', e, Nat.lt_of_lt_of_le h1 hb.size, (hb.cell (p := ⟨b, o, none⟩) h1).trans h2, h3.below hb, h4⟩
/-- A record of known cells in a row of its own. -/
def IsBx {η : Type} (E : Enc η) (gs : List Nat) (h : η) (y : Value) (W : World) : Prop := ∃ b, y = .slice (some ⟨b, 0, none⟩) 1 1 ∧ b ∉ gs ∧ RdG E W (some ⟨b, 0, none⟩) 1 [h]
theorem IsBx.stab {η : Type} (E : Enc η) (gs : List Nat) (h : η) : StabW gs (IsBx E gs h) := fun _ _ _ hb ⟨b, e, hbn, hR⟩ => ⟨b, e, hbn, hR.keptN hb hbn⟩

/-- A parse's end: the log, and whether there is one. -/
def ParsedD (p t : Int) (b : List UInt8) (bs : List (List UInt8)) (B0 : Nat) (w : World) (e : Ending) (w' : World) : Prop :=
  ∃ v, e = .returned (.tuple #[.agg #[.int .u64 (parC p t b bs), v], .bool (goodL p t b bs)]) ∧ OwnR entK 99 w.heap.size B0 5 w' v (parS p t b bs) ∧ Below w.heap.size w w'
theorem isfst_of {T T2 : TypeId} {Br B k : Nat} {C : Int} {es : List Ent} {v : Value} {W : World} (h : OwnR ssK T2 Br B T W v (encL C es)) (hk : es.length = k) : IsFst (1 + k) (headL C es) v W := by
  obtain ⟨A, c, rfl, hr, _, _⟩ := h.rd (1 + k) (by rw [encL_len, hk])
  exact IsFst.of hr.toSS (headL_len _ _)
set_option maxRecDepth 100000 in
set_option maxHeartbeats 16000000 in
theorem rlparse_any (p t : Int) (A : Option Addr) (n c B0 : Nat) (b : List UInt8) (bs : List (List UInt8)) (w : World) (hr0 : RdR ssK B0 5 w A n (b :: bs)) (hB00 : B0 ≤ w.heap.size) (hm : gmay p t = true) (hn : (n : Int) = 1 + t) (ha : (b :: bs).any shortB = false) :
    Calls Try.prog 55 #[.agg #[.int .i64 p, .int .i64 t], .slice A n c] w (ParsedD p t b bs B0 w) := by
  have hr := hr0.toSS
  obtain ⟨_, _, t1, t2⟩ := gmay_true hm
  have hb256 : b.length = 256 := by
    rw [List.any_cons, Bool.or_eq_false_iff] at ha
    simpa [shortB] using ha.1
  have hall : ∀ (k : Nat) (L : List UInt8), bs[k]? = some L → L.length = 256 := by
    intro k L hL
    rw [List.any_eq_false] at ha
    have h_ := ha L (List.mem_cons_of_mem _ (List.mem_of_getElem? hL))
    simpa [shortB] using h_
  have hbsl : bs.length + 1 = n := by have := hr.len; simpa using this
  obtain ⟨tN, htN⟩ := Int.eq_ofNat_of_zero_le (show 0 ≤ t by omega)
  have t3 : tN ≤ 24 := by omega
  have hntN : n = 1 + tN := by omega
  obtain ⟨bl, off, A0, n0', c0', L0, rfl, hbl, hL0, hcell0, hX0, hc00, hc01⟩ := hr0.ss (k := 0) (by omega)
  obtain rfl : b = L0 := by simpa using hL0
  obtain rfl : n0' = 256 := by rw [← hX0.1.len]; exact hb256
  obtain ⟨a0, o0, rfl, ha0, hcb⟩ := hX0.1.2 (by omega)
  have HN := Lib.hid hntN
  have HTN := Lib.hid htN
  have n1 : (1 : Int) ≤ n := by omega
  have n0 : (0 : Int) < n := by omega
  have n0n : 0 < n := by omega
  have nn : n ≤ 25 := by omega
  unfold maxLen at hc01
  clear ha hn hntN htN hL0 hr
  have hg8 := hX0.1.sub 8 8 (by omega)
  have hg16 := hX0.1.sub 16 2 (by omega)
  have cell0 : w.cell? ⟨bl, off, none⟩ = some (.slice (some ⟨a0, o0, none⟩) 256 c0') := hcell0
  have G0 : Blk ((w.alloc (.cells #[.int .i64 p, .int .i64 t] 23)).alloc (.cells #[.int .u64 0, .slice none 0 0] 49)) w.heap.size 23 #[.int .i64 p, .int .i64 t] := (Blk.new _ _ _).alloc _
  have R0 : Blk ((w.alloc (.cells #[.int .i64 p, .int .i64 t] 23)).alloc (.cells #[.int .u64 0, .slice none 0 0] 49)) (w.heap.size + 1) 49 #[.int .u64 0, .slice none 0 0] := by
    simpa using Blk.new (w.alloc (.cells #[.int .i64 p, .int .i64 t] 23)) 49 #[.int .u64 0, .slice none 0 0]
  obtain ⟨wb, hwb⟩ : ∃ wb, wb = (w.alloc (.cells #[.int .i64 p, .int .i64 t] 23)).alloc (.cells #[.int .u64 0, .slice none 0 0] 49) := ⟨_, rfl⟩
  have bb : Below w.heap.size w wb := by rw [hwb]; exact (by (repeat (first | exact Below.refl _ _ | (refine Below.setCell ?_ (by first | omega | (simp; omega) | simp) _) | (refine Below.alloc ?_ (by first | omega | (simp; omega) | simp) _) | apply Below.drew | apply below_drewN)))
  have hwbs : wb.heap.size = w.heap.size + 1 + 1 := by rw [hwb]; simp
  rw [← hwb] at G0 R0
  have HWBS := Lib.hid hwbs
  clear hwbs
  go_enter Try.func55, Try.ntmps55
  go_wp2_with fail
  refine (rget_short (some ⟨a0, o0 + 8, none⟩) 8 _ _ _ (hg8.below (by (repeat (first | exact Below.refl _ _ | (refine Below.setCell ?_ (by first | omega | (simp; omega) | simp) _) | (refine Below.alloc ?_ (by first | omega | (simp; omega) | simp) _) | apply Below.drew | apply below_drewN)))) (by omega)).mono ?_
  rintro e w1 ⟨rfl, hw1⟩
  rw [← hwb] at hw1
  subst hw1
  obtain ⟨C, hC⟩ : ∃ C, C = cntB b := ⟨_, rfl⟩
  have HC := Lib.hid hC
  have hC2 : (getL ((b.take (8 + 8)).drop 8) : Int) = C := by rw [hC, List.drop_take]; rfl
  rw [hC2]
  obtain ⟨hC0, hC1⟩ := cntB_range b
  rw [← hC] at hC0 hC1
  clear hC hC2 hwb hg8
  have cell1 : wb.cell? ⟨bl, off, none⟩ = some (.slice (some ⟨a0, o0, none⟩) 256 c0') := (bb.cell (p := ⟨bl, off, none⟩) hbl).trans cell0
  have hbl1 : bl < wb.heap.size := by have := HWBS.out; omega
  go_wp2_with fail
  obtain ⟨L, hL⟩ : ∃ L, L = wb.heap.size := ⟨_, rfl⟩
  have hLw : w.heap.size + 1 < L := by have := HWBS.out; omega
  obtain ⟨wc, hwc⟩ : ∃ wc, wc = wb.alloc (.cells #[.int .u64 C, .slice none 0 0] 49) := ⟨_, rfl⟩
  have bc : Below w.heap.size w wc := by rw [hwc]; exact (by (have q_bb := Below.size bb; (try simp at q_bb); repeat (first | exact Below.refl _ _ | (refine Below.trans ?_ (Below.mono bb (by first | omega | (simp; omega) | simp))) | (refine Below.setCell ?_ (by first | omega | (simp; omega) | simp) _) | (refine Below.alloc ?_ (by first | omega | (simp; omega) | simp) _) | apply Below.drew | apply below_drewN)))
  have G1 : Blk wc w.heap.size 23 #[.int .i64 p, .int .i64 t] := by rw [hwc]; exact G0.alloc _
  have R1 : Blk wc (w.heap.size + 1) 49 #[.int .u64 0, .slice none 0 0] := by rw [hwc]; exact R0.alloc _
  have B1 : Blk wc L 49 #[.int .u64 C, .slice none 0 0] := by rw [hwc, hL]; exact Blk.new _ _ _
  rw [← hwc]
  refine (rget_short (some ⟨a0, o0 + 16, none⟩) 2 _ _ _ (hg16.below bc) (by omega)).mono ?_
  rintro e w2 ⟨rfl, hw2⟩
  subst hw2
  rw [← hL]
  obtain ⟨N, hN⟩ : ∃ N, N = nB b := ⟨_, rfl⟩
  have HNB := Lib.hid hN
  have hN2 : getL ((b.take (16 + 2)).drop 16) = N := by rw [hN, List.drop_take]; rfl
  rw [hN2]
  have hN3 : N < 65536 := by rw [hN]; exact nB_lt b
  have hN4 : (N : Int) < 65536 := by omega
  have zL := B1.lt
  have cG := G1.cell
  clear hN hN2 G0 R0 hwc bb hg16 cell1 hbl1 hL
  by_cases hN1 : 1 ≤ N ∧ N ≤ tN
  · obtain ⟨hN1, hNt⟩ := hN1
    have q1 : (1 : Int) ≤ N := by omega
    have q2 : (N : Int) ≤ t := by have := HTN.out; omega
    have q3 : (decide ((N : Int) < 1) || decide (t < (N : Int))) = false := by rw [decide_eq_false (by omega), decide_eq_false (by omega)]; rfl
    go_upto_if 28 with fail
    clear q3
    go_wp2_with fail
    go_loopw [8] (fun i wr => ∃ k : Nat, k ≤ N ∧ i = .int .i64 k ∧ (∃ v, Blk wr L 49 #[.int .u64 C, v] ∧ OwnR entK 99 (L + 1) B0 5 wr v (esB b bs k)) ∧ Blk wr w.heap.size 23 #[.int .i64 p, .int .i64 t] ∧ Blk wr (w.heap.size + 1) 49 #[.int .u64 0, .slice none 0 0] ∧ Below w.heap.size w wr) (fun i _ => N - (intOf i).toNat)
    case atStart => exact ⟨0, by omega, rfl, ⟨_, B1, OwnR.nil _⟩, G1, R1, bc⟩
    case round =>
      clear B1 G1 R1 bc cG zL
      obtain ⟨k, hk1, rfl, ⟨v, hBL, hO⟩, hG, hR, hbel⟩ := hrel
      have hbz := hbel.size
      have cG := hG.cell
      have zL := hBL.lt
      have hbl2 : bl < wr.heap.size := by omega
      have hck0 : wr.cell? ⟨bl, off, none⟩ = some (.slice (some ⟨a0, o0, none⟩) 256 c0') := (hbel.cell (p := ⟨bl, off, none⟩) hbl).trans cell0
      by_cases hlt : k < N
      · have q3 : (k : Int) < N := by omega
        have hkl : (esB b bs k).length = k := esB_len _ _ _
        obtain ⟨bl', off', Ak, nk, ck, Lk, hA2, _, hLk0, hcellk, hXk, hck0', hck1⟩ := hr0.ss (k := k + 1) (by have := HN.out; omega)
        injection hA2 with hA2
        injection hA2 with e1 e2
        subst e1 e2
        have hLk : bs[k]? = some Lk := by simpa using hLk0
        have hLl : Lk.length = 256 := hall k Lk hLk
        obtain rfl : nk = 256 := by rw [← hXk.1.len]; exact hLl
        have hent : entB b bs k = (keyB b k, Lk) := by unfold entB; rw [List.getD, hLk]; rfl
        have hst := Lib.hid (show esB b bs k ++ [(keyB b k, Lk)] = esB b bs (k + 1) by rw [esB_step, hent])
        obtain ⟨K, hK⟩ : ∃ K, K = keyB b k := ⟨_, rfl⟩
        obtain ⟨hK0, hK1⟩ := keyB_range b k
        rw [← hK] at hK0 hK1
        have hst' := Lib.hid (show esB b bs k ++ [(K, Lk)] = esB b bs (k + 1) by rw [hK]; exact hst.out)
        obtain ⟨J, hJ⟩ : ∃ J, J = 18 + 2 * k := ⟨_, rfl⟩
        have HK := Lib.hid (show (getL ((b.take (J + 2)).drop J) : Int) = K by
          rw [hK, List.drop_take, show J + 2 - J = 2 from by omega, hJ]
          rfl)
        have hgk := (hX0.1.sub J 2 (by omega)).below hbel
        obtain ⟨es, hes⟩ : ∃ es, es = esB b bs k := ⟨_, rfl⟩
        rw [← hes] at hO hst' hkl
        obtain ⟨gs, gL, gv, hg3, hg4, hg5, hg6⟩ := hO.blocks (B0 := w.heap.size) hBL (by decide) (by decide) (by omega) (by omega)
        have glow : ∀ x, x < w.heap.size + 2 → x ∉ gs := fun x hx h_ => by have := hg5 x h_; omega
        have hRk : RdN wr gs Ak 256 Lk := (hXk.below hbel).rdn (fun x hx => by have := hg4 x hx; omega) hg6
        have hXw := hXk.below hbel
        have hck : wr.cell? ⟨bl, off + (k + 1), none⟩ = some (.slice Ak 256 ck) := (hbel.cell (p := ⟨bl, off + (k + 1), none⟩) hbl).trans hcellk
        have hbg : bl ∉ gs := glow bl (by omega)
        have hag : a0 ∉ gs ∨ True := .inr trivial
        have hgN : RdN wr gs (some ⟨a0, o0 + J, none⟩) 2 ((b.take (J + 2)).drop J) := by
          have h_ := (hX0.below hbel).rdn (gs := gs) (fun x hx => by have := hg4 x hx; omega) hg6
          refine ⟨hgk, fun ad h0 hA => ?_⟩
          injection hA with hA
          subst hA
          exact h_.2 ⟨a0, o0, none⟩ (by omega) rfl
        have j1 : (J : Int) = 18 + 2 * (k : Int) := by omega
        have j2 : J + 2 ≤ 256 := by omega
        have J1 := Lib.hid j1
        have HN4 : k + 1 < n := by have := HN.out; omega
        clear hLk0 hLk hent hst hK hes hJ hcellk hXk hgk j1
        go_wp2_with fail
        refine wp_flv [(fun y_ _ => y_ = .pointer (some ⟨L, 1, none⟩)), (fun y_ _ => y_ = v), (fun y_ _ => y_ = .slice (some ⟨bl, off, none⟩) n c), (fun y_ _ => y_ = .pointer (some ⟨bl, off, none⟩)), (fun y_ _ => y_ = .slice (some ⟨a0, o0, none⟩) 256 c0'), (fun y_ _ => y_ = .int .i64 (k : Int)), (fun y_ _ => y_ = .int .i64 (2 * (k : Int))), (fun y_ _ => y_ = .int .i64 (J : Int)), (fun y_ _ => y_ = .int .i64 (k : Int)), (fun y_ _ => y_ = .int .i64 (2 * (k : Int))), (fun y_ _ => y_ = .int .i64 ((J : Int) + 2)), (fun y_ _ => y_ = .slice (some ⟨a0, o0 + J, none⟩) 2 (c0' - J)), (fun y_ _ => y_ = .int .u64 K), (fun y_ _ => y_ = .int .i64 K), (fun y_ _ => y_ = .slice (some ⟨bl, off, none⟩) n c), (fun y_ _ => y_ = .int .i64 (k : Int)), (fun y_ _ => y_ = .int .i64 (1 + (k : Int))), (fun y_ _ => y_ = .pointer (some ⟨bl, off + (k + 1), none⟩)), (fun y_ _ => y_ = .slice Ak 256 ck), (fun y_ _ => y_ = .agg #[.int .i64 K, .slice Ak 256 ck]), IsBx entE gs (K, (Ak, 256, ck)), (fun _ _ => True), (fun y_ _ => y_ = .pointer (some ⟨L, 1, none⟩)), (fun _ _ => True)] gs (RecInv entK 99 49 (L + 1) B0 5 L (fun u => #[.int .u64 C, u]) v es (es ++ [(K, Lk)])) [21, 23] (by kernel_rfl) ⟨StabW.eq _ _, StabW.eq _ _, StabW.eq _ _, StabW.eq _ _, StabW.eq _ _, StabW.eq _ _, StabW.eq _ _, StabW.eq _ _, StabW.eq _ _, StabW.eq _ _, StabW.eq _ _, StabW.eq _ _, StabW.eq _ _, StabW.eq _ _, StabW.eq _ _, StabW.eq _ _, StabW.eq _ _, StabW.eq _ _, StabW.eq _ _, StabW.eq _ _, IsBx.stab _ _ _, StabW.any _, StabW.eq _ _, StabW.any _, trivial⟩ (RecInv.stab) (⟨hBL, hO⟩) (by kernel_rfl) (by kernel_rfl) (by kernel_rfl) (by rfl) ?_ ?_
        · intro kq hkq
          match kq, hkq with
          | 0, _ =>
            refine StepV.plain _ rfl rfl rfl [(6, none)] (by kernel_rfl) (fun af wf hbw hz hf Kf hKf => ?_)
            obtain ⟨g6, _⟩ := hf
            have h6 : af.tmps[6]?.getD undef = .pointer (some ⟨L, 0, none⟩) := g6
            clear g6
            go_simp
            exact hKf _ _ (Below.refl _ _) rfl
          | 1, _ =>
            refine StepV.plain _ rfl rfl rfl [(35, some 0)] (by kernel_rfl) (fun af wf hbw hz hf Kf hKf => ?_)
            obtain ⟨g35, _⟩ := hf
            have h35 : af.tmps[35]?.getD undef = .pointer (some ⟨L, 1, none⟩) := g35
            clear g35
            obtain ⟨_, hz0, _⟩ := hz 21 rfl (by kernel_rfl)
            have cB9 := hz0.cell
            go_simp
            exact hKf _ _ (Below.refl _ _) rfl
          | 2, _ =>
            refine StepV.plain _ rfl rfl rfl [(1, none)] (by kernel_rfl) (fun af wf hbw hz hf Kf hKf => ?_)
            obtain ⟨g1, _⟩ := hf
            have h1 : af.tmps[1]?.getD undef = .slice (some ⟨bl, off, none⟩) n c := g1
            clear g1
            go_simp
            exact hKf _ _ (Below.refl _ _) rfl
          | 3, _ =>
            refine StepV.plain _ rfl rfl rfl [(37, some 2)] (by kernel_rfl) (fun af wf hbw hz hf Kf hKf => ?_)
            obtain ⟨g37, _⟩ := hf
            have h37 : af.tmps[37]?.getD undef = .slice (some ⟨bl, off, none⟩) n c := g37
            clear g37
            go_simp
            exact hKf _ _ (Below.refl _ _) rfl
          | 4, _ =>
            refine StepV.plain _ rfl rfl rfl [(38, some 3)] (by kernel_rfl) (fun af wf hbw hz hf Kf hKf => ?_)
            obtain ⟨g38, _⟩ := hf
            have h38 : af.tmps[38]?.getD undef = .pointer (some ⟨bl, off, none⟩) := g38
            clear g38
            have hcx : wf.cell? ⟨bl, off, none⟩ = some (.slice (some ⟨a0, o0, none⟩) 256 c0') := by rw [World.cell?_of_block (hbw.block bl hbl2 hbg)]; exact hck0
            go_simp
            exact hKf _ _ (Below.refl _ _) rfl
          | 5, _ =>
            refine StepV.plain _ rfl rfl rfl [(8, none)] (by kernel_rfl) (fun af wf hbw hz hf Kf hKf => ?_)
            obtain ⟨g8, _⟩ := hf
            have h8 : af.tmps[8]?.getD undef = .int .i64 (k : Int) := g8
            clear g8
            go_simp
            exact hKf _ _ (Below.refl _ _) rfl
          | 6, _ =>
            refine StepV.plain _ rfl rfl rfl [(40, some 5)] (by kernel_rfl) (fun af wf hbw hz hf Kf hKf => ?_)
            obtain ⟨g40, _⟩ := hf
            have h40 : af.tmps[40]?.getD undef = .int .i64 (k : Int) := g40
            clear g40
            have hw6 : IntKind.i64.wrap (2 * (k : Int)) = 2 * (k : Int) := IntWalk.i64_in _ (by omega)
            go_simp
            exact hKf _ _ (Below.refl _ _) rfl
          | 7, _ =>
            refine StepV.plain _ rfl rfl rfl [(41, some 6)] (by kernel_rfl) (fun af wf hbw hz hf Kf hKf => ?_)
            obtain ⟨g41, _⟩ := hf
            have h41 : af.tmps[41]?.getD undef = .int .i64 (2 * (k : Int)) := g41
            clear g41
            have hwr : IntKind.i64.wrap (18 + ((2 * (k : Int)))) = 18 + ((2 * (k : Int))) := IntWalk.i64_in _ (by omega)
            go_simp
            exact hKf _ _ (Below.refl _ _) (int_eq J1.out.symm)
          | 8, _ =>
            refine StepV.plain _ rfl rfl rfl [(8, none)] (by kernel_rfl) (fun af wf hbw hz hf Kf hKf => ?_)
            obtain ⟨g8, _⟩ := hf
            have h8 : af.tmps[8]?.getD undef = .int .i64 (k : Int) := g8
            clear g8
            go_simp
            exact hKf _ _ (Below.refl _ _) rfl
          | 9, _ =>
            refine StepV.plain _ rfl rfl rfl [(43, some 8)] (by kernel_rfl) (fun af wf hbw hz hf Kf hKf => ?_)
            obtain ⟨g43, _⟩ := hf
            have h43 : af.tmps[43]?.getD undef = .int .i64 (k : Int) := g43
            clear g43
            have hw6 : IntKind.i64.wrap (2 * (k : Int)) = 2 * (k : Int) := IntWalk.i64_in _ (by omega)
            go_simp
            exact hKf _ _ (Below.refl _ _) rfl
          | 10, _ =>
            refine StepV.plain _ rfl rfl rfl [(44, some 9)] (by kernel_rfl) (fun af wf hbw hz hf Kf hKf => ?_)
            obtain ⟨g44, _⟩ := hf
            have h44 : af.tmps[44]?.getD undef = .int .i64 (2 * (k : Int)) := g44
            clear g44
            have hwr : IntKind.i64.wrap (20 + ((2 * (k : Int)))) = 20 + ((2 * (k : Int))) := IntWalk.i64_in _ (by omega)
            go_simp
            exact hKf _ _ (Below.refl _ _) (int_eq (by have := J1.out; omega))
          | 11, _ =>
            refine StepV.plain _ rfl rfl rfl [(39, some 4), (42, some 7), (45, some 10)] (by kernel_rfl) (fun af wf hbw hz hf Kf hKf => ?_)
            obtain ⟨g39, g42, g45, _⟩ := hf
            have h39 : af.tmps[39]?.getD undef = .slice (some ⟨a0, o0, none⟩) 256 c0' := g39
            have h42 : af.tmps[42]?.getD undef = .int .i64 (J : Int) := g42
            have h45 : af.tmps[45]?.getD undef = .int .i64 ((J : Int) + 2) := g45
            clear g39 g42 g45
            have j5 : 0 ≤ (J : Int) + 2 ∧ (J : Int) + 2 ≤ c0' := by omega
            have j9 : ((J : Int) + 2).toNat = J + 2 := by omega
            have j10 : J ≤ J + 2 := by omega
            have j6 : J + 2 ≤ c0' := by omega
            have j7 : ¬ (c0' = J) := by omega
            have j8 : J + 2 - J = 2 := by omega
            go_simp
            exact hKf _ _ (Below.refl _ _) rfl
          | 12, _ =>
            refine StepV.plain _ rfl rfl rfl [(46, some 11)] (by kernel_rfl) (fun af wf hbw hz hf Kf hKf => ?_)
            obtain ⟨g46, _⟩ := hf
            have h46 : af.tmps[46]?.getD undef = .slice (some ⟨a0, o0 + J, none⟩) 2 (c0' - J) := g46
            clear g46
            go_simp
            refine (rget_short _ 2 _ _ _ (RdN.kept (RdN.drew hgN) hbw (fun _ h_ => h_)).1 (by omega)).mono ?_
            rintro e wN ⟨rfl, rfl⟩
            exact hKf _ _ (Below.refl _ _) (congrArg (Value.int .u64) HK.out)
          | 13, _ =>
            refine StepV.plain _ rfl rfl rfl [(47, some 12)] (by kernel_rfl) (fun af wf hbw hz hf Kf hKf => ?_)
            obtain ⟨g47, _⟩ := hf
            have h47 : af.tmps[47]?.getD undef = .int .u64 K := g47
            clear g47
            have hwK : IntKind.i64.wrap K = K := IntWalk.i64_in _ (by omega)
            go_simp
            exact hKf _ _ (Below.refl _ _) rfl
          | 14, _ =>
            refine StepV.plain _ rfl rfl rfl [(1, none)] (by kernel_rfl) (fun af wf hbw hz hf Kf hKf => ?_)
            obtain ⟨g1, _⟩ := hf
            have h1 : af.tmps[1]?.getD undef = .slice (some ⟨bl, off, none⟩) n c := g1
            clear g1
            go_simp
            exact hKf _ _ (Below.refl _ _) rfl
          | 15, _ =>
            refine StepV.plain _ rfl rfl rfl [(8, none)] (by kernel_rfl) (fun af wf hbw hz hf Kf hKf => ?_)
            obtain ⟨g8, _⟩ := hf
            have h8 : af.tmps[8]?.getD undef = .int .i64 (k : Int) := g8
            clear g8
            go_simp
            exact hKf _ _ (Below.refl _ _) rfl
          | 16, _ =>
            refine StepV.plain _ rfl rfl rfl [(50, some 15)] (by kernel_rfl) (fun af wf hbw hz hf Kf hKf => ?_)
            obtain ⟨g50, _⟩ := hf
            have h50 : af.tmps[50]?.getD undef = .int .i64 (k : Int) := g50
            clear g50
            have hwr : IntKind.i64.wrap (1 + (k : Int)) = 1 + (k : Int) := IntWalk.i64_in _ (by omega)
            go_simp
            exact hKf _ _ (Below.refl _ _) rfl
          | 17, _ =>
            refine StepV.plain _ rfl rfl rfl [(49, some 14), (51, some 16)] (by kernel_rfl) (fun af wf hbw hz hf Kf hKf => ?_)
            obtain ⟨g49, g51, _⟩ := hf
            have h49 : af.tmps[49]?.getD undef = .slice (some ⟨bl, off, none⟩) n c := g49
            have h51 : af.tmps[51]?.getD undef = .int .i64 (1 + (k : Int)) := g51
            clear g49 g51
            have q4 : 1 + (k : Int) < n := by omega
            go_simp
            exact hKf _ _ (Below.refl _ _) (congrArg (fun o => Value.pointer (some ⟨bl, o, none⟩)) (by omega))
          | 18, _ =>
            refine StepV.plain _ rfl rfl rfl [(52, some 17)] (by kernel_rfl) (fun af wf hbw hz hf Kf hKf => ?_)
            obtain ⟨g52, _⟩ := hf
            have h52 : af.tmps[52]?.getD undef = .pointer (some ⟨bl, off + (k + 1), none⟩) := g52
            clear g52
            have hcx : wf.cell? ⟨bl, off + (k + 1), none⟩ = some (.slice Ak 256 ck) := by rw [World.cell?_of_block (hbw.block bl hbl2 hbg)]; exact hck
            go_simp
            exact hKf _ _ (Below.refl _ _) rfl
          | 19, _ =>
            refine StepV.plain _ rfl rfl rfl [(48, some 13), (53, some 18)] (by kernel_rfl) (fun af wf hbw hz hf Kf hKf => ?_)
            obtain ⟨g48, g53, _⟩ := hf
            have h48 : af.tmps[48]?.getD undef = .int .i64 K := g48
            have h53 : af.tmps[53]?.getD undef = .slice Ak 256 ck := g53
            clear g48 g53
            go_simp
            exact hKf _ _ (Below.refl _ _) rfl
          | 20, _ =>
            refine StepV.plain _ rfl rfl rfl [(54, some 19)] (by kernel_rfl) (fun af wf hbw hz hf Kf hKf => ?_)
            obtain ⟨g54, _⟩ := hf
            have h54 : af.tmps[54]?.getD undef = .agg #[.int .i64 K, .slice Ak 256 ck] := g54
            clear g54
            go_simp
            exact hKf _ _ (((Below.refl _ _).alloc (Nat.le_refl _) _)) (⟨_, rfl, (fun h_ => by have := hg3 _ h_; have := hbw.size; simp at this; omega), RdG.boxed _ _ _ _ rfl⟩)
          | 21, _ =>
            refine StepV.chain 0 _ rfl rfl rfl (by decide) [(36, some 1), (55, some 20)] (by kernel_rfl) (fun af wf hbw hiv hf Kf hKf => ?_)
            obtain ⟨uv, hiv, hlast⟩ := hiv
            obtain ⟨g36, g55, _⟩ := hf
            have h36 : af.tmps[36]?.getD undef = v := g36
            have g55 : IsBx entE gs (K, (Ak, 256, ck)) (af.tmps[55]?.getD undef) wf := g55
            obtain ⟨b55, h55, hb55, hR55⟩ := g55
            clear g36
            obtain ⟨hiB, hs, hFr, hAll⟩ := hiv
            have hsl : hs.length = k := by rw [hAll.1, hkl]
            have hX21 : RdX B0 5 wf Ak 256 Lk := (hXw.below ((Below.refl _ wr).drew)).keptN hbw (fun ad h0 hA => hRk.2 ad h0 hA)
            refine wp_append_G wf (.tmp 36) (.tmp 55) _ rfl (L + 1) 99 Try.underlying47 infoRE rfl v hs (by simp [Act.eval, h36]) hFr _ 1 1 [(K, (Ak, 256, ck))] (by simp [Act.eval, h55]) hR55 (by omega) (by omega) (by have := hiB.lt; omega) ?_; intro v10 w10 hF10 hg10 hb10
            exact hKf _ _ ((Kept.of_grown hg10 gv)) (RecInv.app (by decide) (by decide) (by omega) hiB hFr hAll (show RItem entK _ _ wf (K, (Ak, 256, ck)) (K, Lk) from ⟨rfl, hX21, hck0', hck1⟩) hF10 hg10) (trivial)
          | 22, _ =>
            refine StepV.plain _ rfl rfl rfl [(6, none)] (by kernel_rfl) (fun af wf hbw hz hf Kf hKf => ?_)
            obtain ⟨g6, _⟩ := hf
            have h6 : af.tmps[6]?.getD undef = .pointer (some ⟨L, 0, none⟩) := g6
            clear g6
            go_simp
            exact hKf _ _ (Below.refl _ _) rfl
          | 23, _ =>
            refine StepV.chain 1 _ rfl rfl rfl (by decide) [(57, some 22), (56, some 21)] (by kernel_rfl) (fun af wf hbw hiv hf Kf hKf => ?_)
            obtain ⟨uv, hiv, hlast⟩ := hiv
            have h56 : af.tmps[56]?.getD undef = uv := hlast 0 21 56 rfl rfl rfl
            obtain ⟨g57, g56, _⟩ := hf
            have h57 : af.tmps[57]?.getD undef = .pointer (some ⟨L, 1, none⟩) := g57
            clear g57
            obtain ⟨Au, nu, cu, rfl⟩ := OwnR.shape hiv.2
            have cB9 := hiv.1.cell
            have fB9 := hiv.1.frozen
            go_simp
            exact hKf undef _ ((Kept.setCell (p := ⟨L, 1, none⟩) (.refl _ _) gL _)) (RecInv.store hiv (by decide) (by omega) (by omega) 1 rfl) (trivial)
          | i + 24, h => exact absurd h (by show ¬ (i + 24 < 24); omega)
        · intro af wF hbF hiF hdF hsF hbaseF hfactF
          obtain ⟨T, dsF⟩ := af
          obtain rfl : dsF = _ := hdF
          have e0 := hbaseF 0 (not_dst (by kernel_rfl))
          simp only [List.getElem?_toArray, List.getElem?_cons_zero, Option.getD_some] at e0
          have e1 := hbaseF 1 (not_dst (by kernel_rfl))
          simp only [List.getElem?_toArray, List.getElem?_cons_zero, List.getElem?_cons_succ, Option.getD_some] at e1
          have e2 := hbaseF 2 (not_dst (by kernel_rfl))
          simp only [List.getElem?_toArray, List.getElem?_cons_zero, List.getElem?_cons_succ, Option.getD_some] at e2
          have e3 := hbaseF 3 (not_dst (by kernel_rfl))
          simp only [List.getElem?_toArray, List.getElem?_cons_zero, List.getElem?_cons_succ, Option.getD_some] at e3
          have e4 := hbaseF 4 (not_dst (by kernel_rfl))
          simp only [List.getElem?_toArray, List.getElem?_cons_zero, List.getElem?_cons_succ, Option.getD_some] at e4
          have e5 := hbaseF 5 (not_dst (by kernel_rfl))
          simp only [List.getElem?_toArray, List.getElem?_cons_zero, List.getElem?_cons_succ, Option.getD_some] at e5
          have e6 := hbaseF 6 (not_dst (by kernel_rfl))
          simp only [List.getElem?_toArray, List.getElem?_cons_zero, List.getElem?_cons_succ, Option.getD_some] at e6
          have e7 := hbaseF 7 (not_dst (by kernel_rfl))
          simp only [List.getElem?_toArray, List.getElem?_cons_zero, List.getElem?_cons_succ, Option.getD_some] at e7
          have e8 := hbaseF 8 (not_dst (by kernel_rfl))
          simp only [List.getElem?_toArray, List.getElem?_cons_zero, List.getElem?_cons_succ, Option.getD_some] at e8
          have e9 := hbaseF 9 (not_dst (by kernel_rfl))
          simp only [List.getElem?_toArray, List.getElem?_cons_zero, List.getElem?_cons_succ, Option.getD_some] at e9
          have e10 := hbaseF 10 (not_dst (by kernel_rfl))
          simp only [List.getElem?_toArray, List.getElem?_cons_zero, List.getElem?_cons_succ, Option.getD_some] at e10
          have e11 := hbaseF 11 (not_dst (by kernel_rfl))
          simp only [List.getElem?_toArray, List.getElem?_cons_zero, List.getElem?_cons_succ, Option.getD_some] at e11
          have e12 := hbaseF 12 (not_dst (by kernel_rfl))
          simp only [List.getElem?_toArray, List.getElem?_cons_zero, List.getElem?_cons_succ, Option.getD_some] at e12
          have e13 := hbaseF 13 (not_dst (by kernel_rfl))
          simp only [List.getElem?_toArray, List.getElem?_cons_zero, List.getElem?_cons_succ, Option.getD_some] at e13
          have e14 := hbaseF 14 (not_dst (by kernel_rfl))
          simp only [List.getElem?_toArray, List.getElem?_cons_zero, List.getElem?_cons_succ, Option.getD_some] at e14
          have e15 := hbaseF 15 (not_dst (by kernel_rfl))
          simp only [List.getElem?_toArray, List.getElem?_cons_zero, List.getElem?_cons_succ, Option.getD_some] at e15
          have e16 := hbaseF 16 (not_dst (by kernel_rfl))
          simp only [List.getElem?_toArray, List.getElem?_cons_zero, List.getElem?_cons_succ, Option.getD_some] at e16
          have e17 := hbaseF 17 (not_dst (by kernel_rfl))
          simp only [List.getElem?_toArray, List.getElem?_cons_zero, List.getElem?_cons_succ, Option.getD_some] at e17
          have e18 := hbaseF 18 (not_dst (by kernel_rfl))
          simp only [List.getElem?_toArray, List.getElem?_cons_zero, List.getElem?_cons_succ, Option.getD_some] at e18
          have e19 := hbaseF 19 (not_dst (by kernel_rfl))
          simp only [List.getElem?_toArray, List.getElem?_cons_zero, List.getElem?_cons_succ, Option.getD_some] at e19
          have e20 := hbaseF 20 (not_dst (by kernel_rfl))
          simp only [List.getElem?_toArray, List.getElem?_cons_zero, List.getElem?_cons_succ, Option.getD_some] at e20
          have e21 := hbaseF 21 (not_dst (by kernel_rfl))
          simp only [List.getElem?_toArray, List.getElem?_cons_zero, List.getElem?_cons_succ, Option.getD_some] at e21
          have e22 := hbaseF 22 (not_dst (by kernel_rfl))
          simp only [List.getElem?_toArray, List.getElem?_cons_zero, List.getElem?_cons_succ, Option.getD_some] at e22
          have e23 := hbaseF 23 (not_dst (by kernel_rfl))
          simp only [List.getElem?_toArray, List.getElem?_cons_zero, List.getElem?_cons_succ, Option.getD_some] at e23
          have e24 := hbaseF 24 (not_dst (by kernel_rfl))
          simp only [List.getElem?_toArray, List.getElem?_cons_zero, List.getElem?_cons_succ, Option.getD_some] at e24
          have e25 := hbaseF 25 (not_dst (by kernel_rfl))
          simp only [List.getElem?_toArray, List.getElem?_cons_zero, List.getElem?_cons_succ, Option.getD_some] at e25
          have e26 := hbaseF 26 (not_dst (by kernel_rfl))
          simp only [List.getElem?_toArray, List.getElem?_cons_zero, List.getElem?_cons_succ, Option.getD_some] at e26
          have e27 := hbaseF 27 (not_dst (by kernel_rfl))
          simp only [List.getElem?_toArray, List.getElem?_cons_zero, List.getElem?_cons_succ, Option.getD_some] at e27
          have e28 := hbaseF 28 (not_dst (by kernel_rfl))
          simp only [List.getElem?_toArray, List.getElem?_cons_zero, List.getElem?_cons_succ, Option.getD_some] at e28
          have e29 := hbaseF 29 (not_dst (by kernel_rfl))
          simp only [List.getElem?_toArray, List.getElem?_cons_zero, List.getElem?_cons_succ, Option.getD_some] at e29
          have e30 := hbaseF 30 (not_dst (by kernel_rfl))
          simp only [List.getElem?_toArray, List.getElem?_cons_zero, List.getElem?_cons_succ, Option.getD_some] at e30
          have e31 := hbaseF 31 (not_dst (by kernel_rfl))
          simp only [List.getElem?_toArray, List.getElem?_cons_zero, List.getElem?_cons_succ, Option.getD_some] at e31
          have e32 := hbaseF 32 (not_dst (by kernel_rfl))
          simp only [List.getElem?_toArray, List.getElem?_cons_zero, List.getElem?_cons_succ, Option.getD_some] at e32
          have e33 := hbaseF 33 (not_dst (by kernel_rfl))
          simp only [List.getElem?_toArray, List.getElem?_cons_zero, List.getElem?_cons_succ, Option.getD_some] at e33
          have e34 := hbaseF 34 (not_dst (by kernel_rfl))
          simp only [List.getElem?_toArray, List.getElem?_cons_zero, List.getElem?_cons_succ, Option.getD_some] at e34
          have e58 := hbaseF 58 (not_dst (by kernel_rfl))
          simp only [List.getElem?_toArray, List.getElem?_cons_zero, List.getElem?_cons_succ, Option.getD_some] at e58
          have e59 := hbaseF 59 (not_dst (by kernel_rfl))
          simp only [List.getElem?_toArray, List.getElem?_cons_zero, List.getElem?_cons_succ, Option.getD_some] at e59
          have e60 := hbaseF 60 (not_dst (by kernel_rfl))
          simp only [List.getElem?_toArray, List.getElem?_cons_zero, List.getElem?_cons_succ, Option.getD_some] at e60
          have e61 := hbaseF 61 (not_dst (by kernel_rfl))
          simp only [List.getElem?_toArray, List.getElem?_cons_zero, List.getElem?_cons_succ, Option.getD_some] at e61
          have e62 := hbaseF 62 (not_dst (by kernel_rfl))
          simp only [List.getElem?_toArray, List.getElem?_cons_zero, List.getElem?_cons_succ, Option.getD_some] at e62
          have e63 := hbaseF 63 (not_dst (by kernel_rfl))
          simp only [List.getElem?_toArray, List.getElem?_cons_zero, List.getElem?_cons_succ, Option.getD_some] at e63
          have e64 := hbaseF 64 (not_dst (by kernel_rfl))
          simp only [List.getElem?_toArray, List.getElem?_cons_zero, List.getElem?_cons_succ, Option.getD_some] at e64
          have e65 := hbaseF 65 (not_dst (by kernel_rfl))
          simp only [List.getElem?_toArray, List.getElem?_cons_zero, List.getElem?_cons_succ, Option.getD_some] at e65
          have e66 := hbaseF 66 (not_dst (by kernel_rfl))
          simp only [List.getElem?_toArray, List.getElem?_cons_zero, List.getElem?_cons_succ, Option.getD_some] at e66
          have e67 := hbaseF 67 (not_dst (by kernel_rfl))
          simp only [List.getElem?_toArray, List.getElem?_cons_zero, List.getElem?_cons_succ, Option.getD_some] at e67
          have e68 := hbaseF 68 (not_dst (by kernel_rfl))
          simp only [List.getElem?_toArray, List.getElem?_cons_zero, List.getElem?_cons_succ, Option.getD_some] at e68
          have e69 := hbaseF 69 (not_dst (by kernel_rfl))
          simp only [List.getElem?_toArray, List.getElem?_cons_zero, List.getElem?_cons_succ, Option.getD_some] at e69
          have e70 := hbaseF 70 (not_dst (by kernel_rfl))
          simp only [List.getElem?_toArray, List.getElem?_cons_zero, List.getElem?_cons_succ, Option.getD_some] at e70
          have e71 := hbaseF 71 (not_dst (by kernel_rfl))
          simp only [List.getElem?_toArray, List.getElem?_cons_zero, List.getElem?_cons_succ, Option.getD_some] at e71
          have e72 := hbaseF 72 (not_dst (by kernel_rfl))
          simp only [List.getElem?_toArray, List.getElem?_cons_zero, List.getElem?_cons_succ, Option.getD_some] at e72
          have e73 := hbaseF 73 (not_dst (by kernel_rfl))
          simp only [List.getElem?_toArray, List.getElem?_cons_zero, List.getElem?_cons_succ, Option.getD_some] at e73
          have e74 := hbaseF 74 (not_dst (by kernel_rfl))
          simp only [List.getElem?_toArray, List.getElem?_cons_zero, List.getElem?_cons_succ, Option.getD_some] at e74
          have e75 := hbaseF 75 (not_dst (by kernel_rfl))
          simp only [List.getElem?_toArray, List.getElem?_cons_zero, List.getElem?_cons_succ, Option.getD_some] at e75
          clear hbaseF hfactF
          have hT : T = #[T[0]?.getD undef, T[1]?.getD undef, T[2]?.getD undef, T[3]?.getD undef, T[4]?.getD undef, T[5]?.getD undef, T[6]?.getD undef, T[7]?.getD undef, T[8]?.getD undef, T[9]?.getD undef, T[10]?.getD undef, T[11]?.getD undef, T[12]?.getD undef, T[13]?.getD undef, T[14]?.getD undef, T[15]?.getD undef, T[16]?.getD undef, T[17]?.getD undef, T[18]?.getD undef, T[19]?.getD undef, T[20]?.getD undef, T[21]?.getD undef, T[22]?.getD undef, T[23]?.getD undef, T[24]?.getD undef, T[25]?.getD undef, T[26]?.getD undef, T[27]?.getD undef, T[28]?.getD undef, T[29]?.getD undef, T[30]?.getD undef, T[31]?.getD undef, T[32]?.getD undef, T[33]?.getD undef, T[34]?.getD undef, T[35]?.getD undef, T[36]?.getD undef, T[37]?.getD undef, T[38]?.getD undef, T[39]?.getD undef, T[40]?.getD undef, T[41]?.getD undef, T[42]?.getD undef, T[43]?.getD undef, T[44]?.getD undef, T[45]?.getD undef, T[46]?.getD undef, T[47]?.getD undef, T[48]?.getD undef, T[49]?.getD undef, T[50]?.getD undef, T[51]?.getD undef, T[52]?.getD undef, T[53]?.getD undef, T[54]?.getD undef, T[55]?.getD undef, T[56]?.getD undef, T[57]?.getD undef, T[58]?.getD undef, T[59]?.getD undef, T[60]?.getD undef, T[61]?.getD undef, T[62]?.getD undef, T[63]?.getD undef, T[64]?.getD undef, T[65]?.getD undef, T[66]?.getD undef, T[67]?.getD undef, T[68]?.getD undef, T[69]?.getD undef, T[70]?.getD undef, T[71]?.getD undef, T[72]?.getD undef, T[73]?.getD undef, T[74]?.getD undef, T[75]?.getD undef] := arr_eq T 76 hsF
          clear hsF
          rw [e0] at hT; clear e0
          rw [e1] at hT; clear e1
          rw [e2] at hT; clear e2
          rw [e3] at hT; clear e3
          rw [e4] at hT; clear e4
          rw [e5] at hT; clear e5
          rw [e6] at hT; clear e6
          rw [e7] at hT; clear e7
          rw [e8] at hT; clear e8
          rw [e9] at hT; clear e9
          rw [e10] at hT; clear e10
          rw [e11] at hT; clear e11
          rw [e12] at hT; clear e12
          rw [e13] at hT; clear e13
          rw [e14] at hT; clear e14
          rw [e15] at hT; clear e15
          rw [e16] at hT; clear e16
          rw [e17] at hT; clear e17
          rw [e18] at hT; clear e18
          rw [e19] at hT; clear e19
          rw [e20] at hT; clear e20
          rw [e21] at hT; clear e21
          rw [e22] at hT; clear e22
          rw [e23] at hT; clear e23
          rw [e24] at hT; clear e24
          rw [e25] at hT; clear e25
          rw [e26] at hT; clear e26
          rw [e27] at hT; clear e27
          rw [e28] at hT; clear e28
          rw [e29] at hT; clear e29
          rw [e30] at hT; clear e30
          rw [e31] at hT; clear e31
          rw [e32] at hT; clear e32
          rw [e33] at hT; clear e33
          rw [e34] at hT; clear e34
          generalize T[35]?.getD undef = u35 at hT
          generalize T[36]?.getD undef = u36 at hT
          generalize T[37]?.getD undef = u37 at hT
          generalize T[38]?.getD undef = u38 at hT
          generalize T[39]?.getD undef = u39 at hT
          generalize T[40]?.getD undef = u40 at hT
          generalize T[41]?.getD undef = u41 at hT
          generalize T[42]?.getD undef = u42 at hT
          generalize T[43]?.getD undef = u43 at hT
          generalize T[44]?.getD undef = u44 at hT
          generalize T[45]?.getD undef = u45 at hT
          generalize T[46]?.getD undef = u46 at hT
          generalize T[47]?.getD undef = u47 at hT
          generalize T[48]?.getD undef = u48 at hT
          generalize T[49]?.getD undef = u49 at hT
          generalize T[50]?.getD undef = u50 at hT
          generalize T[51]?.getD undef = u51 at hT
          generalize T[52]?.getD undef = u52 at hT
          generalize T[53]?.getD undef = u53 at hT
          generalize T[54]?.getD undef = u54 at hT
          generalize T[55]?.getD undef = u55 at hT
          generalize T[56]?.getD undef = u56 at hT
          generalize T[57]?.getD undef = u57 at hT
          rw [e58] at hT; clear e58
          rw [e59] at hT; clear e59
          rw [e60] at hT; clear e60
          rw [e61] at hT; clear e61
          rw [e62] at hT; clear e62
          rw [e63] at hT; clear e63
          rw [e64] at hT; clear e64
          rw [e65] at hT; clear e65
          rw [e66] at hT; clear e66
          rw [e67] at hT; clear e67
          rw [e68] at hT; clear e68
          rw [e69] at hT; clear e69
          rw [e70] at hT; clear e70
          rw [e71] at hT; clear e71
          rw [e72] at hT; clear e72
          rw [e73] at hT; clear e73
          rw [e74] at hT; clear e74
          rw [e75] at hT; clear e75
          subst hT
          obtain ⟨_, u', hB', hO'⟩ := hiF
          have hG' := hG.kept hbF (glow _ (by omega))
          have hR' := hR.kept hbF (glow _ (by omega))
          have hbel' : Below w.heap.size w wF := hbel.trans (hbF.below hbz (fun x hx => by have := hg4 x hx; omega))
          rw [hst'.out] at hO'
          go_wp2_with fail
          go_roundw
          case rel => exact ⟨k + 1, by omega, by go_num, ⟨u', hB', hO'⟩, hG', hR', hbel'⟩
          case measure => simp [intOf] <;> omega
      · obtain rfl : k = N := by omega
        obtain ⟨Av, cv, rfl, hOr, hcv1, hcv2⟩ := hO.rd k (esB_len _ _ _)
        have hR0w := (hX0.below hbel).1
        have hkl : (esB b bs k).length = k := esB_len _ _ _
        have hm01 : c0' ≤ maxLen := by unfold maxLen; omega
        obtain ⟨es, hes⟩ : ∃ es, es = esB b bs k := ⟨_, rfl⟩
        have HES := Lib.hid hes
        have HKY := Lib.hid (show ∀ e ∈ es, 0 ≤ e.1 ∧ e.1 ≤ 65535 by rw [hes]; exact esB_keys)
        rw [← hes] at hO hOr hkl
        have q5 : ¬ ((k : Int) < k) := by omega
        have hge : goodL p t b bs = decide (mayLog p t es = true ∧ headL C es = b) := by
          have h4 := HTN.out
          unfold goodL
          rw [← HNB.out, ← HES.out, ← HC.out]
          congr 1
          apply propext
          constructor
          · rintro ⟨_, h1, h2⟩; exact ⟨h1, h2⟩
          · rintro ⟨h1, h2⟩; exact ⟨by omega, h1, h2⟩
        clear hes
        cases hM : mayLog p t es
        · have hno := Lib.hid (show goodL p t b bs = false by rw [hge, hM]; simp)
          have HM := Lib.hid hM
          clear hge hM
          go_wp2_with fail
          refine wp_flows [(fun y_ _ => y_ = .agg #[.int .i64 p, .int .i64 t]), (fun y_ _ => y_ = .agg #[.int .u64 C, .slice Av k cv]), (fun y_ _ => y_ = .bool false), (fun y_ _ => y_ = .bool true), (fun y_ _ => y_ = .bool true), (fun y_ _ => y_ = undef), (fun y_ _ => y_ = undef), (fun y_ _ => y_ = undef), (fun y_ _ => y_ = undef), (fun y_ _ => y_ = undef), (fun y_ _ => y_ = undef), (fun y_ _ => y_ = undef), (fun y_ _ => y_ = undef), (fun y_ _ => y_ = undef), (fun y_ _ => y_ = undef), (fun y_ _ => y_ = .bool true)] (by kernel_rfl) ⟨Stab.eq _, Stab.eq _, Stab.eq _, Stab.eq _, Stab.eq _, Stab.eq _, Stab.eq _, Stab.eq _, Stab.eq _, Stab.eq _, Stab.eq _, Stab.eq _, Stab.eq _, Stab.eq _, Stab.eq _, Stab.eq _, trivial⟩ (by kernel_rfl) (by rfl) ?_ ?_
          · intro kq hkq
            match kq, hkq with
            | 0, _ =>
              refine StepOk.plain _ 58 rfl rfl rfl [(2, none)] (by kernel_rfl) (fun af wf hbw hf Kf hKf => ?_)
              obtain ⟨g2, _⟩ := hf
              have h2 : af.tmps[2]?.getD undef = .pointer (some ⟨w.heap.size, 0, none⟩) := g2
              clear g2
              have cB0 := (Blk.on (Blk.drew (hBL)) hbw).cell
              have cB1 := (Blk.on (Blk.drew (hG)) hbw).cell
              go_simp
              exact hKf _ _ (Below.refl _ _) rfl
            | 1, _ =>
              refine StepOk.plain _ 59 rfl rfl rfl [(6, none)] (by kernel_rfl) (fun af wf hbw hf Kf hKf => ?_)
              obtain ⟨g6, _⟩ := hf
              have h6 : af.tmps[6]?.getD undef = .pointer (some ⟨L, 0, none⟩) := g6
              clear g6
              have cB0 := (Blk.on (Blk.drew (hBL)) hbw).cell
              have cB1 := (Blk.on (Blk.drew (hG)) hbw).cell
              go_simp
              exact hKf _ _ (Below.refl _ _) rfl
            | 2, _ =>
              refine StepOk.plain _ 60 rfl rfl rfl [(58, some 0), (59, some 1)] (by kernel_rfl) (fun af wf hbw hf Kf hKf => ?_)
              obtain ⟨g58, g59, _⟩ := hf
              have h58 : af.tmps[58]?.getD undef = .agg #[.int .i64 p, .int .i64 t] := g58
              have h59 : af.tmps[59]?.getD undef = .agg #[.int .u64 C, .slice Av k cv] := g59
              clear g58 g59
              go_simp
              refine (rlmay_any p t C Av k cv _ _ es _ (RdR.below hOr.drew hbw) (by omega)).mono ?_
              rintro e wN ⟨rfl, hb⟩
              exact hKf _ _ (hb) (congrArg Value.bool HM.out)
            | 3, _ =>
              refine StepOk.plain _ 61 rfl rfl rfl [(60, some 2)] (by kernel_rfl) (fun af wf hbw hf Kf hKf => ?_)
              obtain ⟨g60, _⟩ := hf
              have h60 : af.tmps[60]?.getD undef = .bool false := g60
              clear g60
              go_simp
              exact hKf _ _ (Below.refl _ _) rfl
            | 4, _ =>
              refine StepOk.plain _ 62 rfl rfl rfl [(61, some 3)] (by kernel_rfl) (fun af wf hbw hf Kf hKf => ?_)
              obtain ⟨g61, _⟩ := hf
              have h61 : af.tmps[61]?.getD undef = .bool true := g61
              clear g61
              go_simp
              exact hKf _ _ (Below.refl _ _) rfl
            | 5, _ => exact StepOk.no _ 63 rfl rfl rfl rfl (fun _ _ h => h) (by decide) (by kernel_rfl) (fun _ => rfl)
            | 6, _ => exact StepOk.no _ 64 rfl rfl rfl rfl (fun _ _ h => h) (by decide) (by kernel_rfl) (fun _ => rfl)
            | 7, _ => exact StepOk.no _ 65 rfl rfl rfl rfl (fun _ _ h => h) (by decide) (by kernel_rfl) (fun _ => rfl)
            | 8, _ => exact StepOk.no _ 66 rfl rfl rfl rfl (fun _ _ h => h) (by decide) (by kernel_rfl) (fun _ => rfl)
            | 9, _ => exact StepOk.no _ 67 rfl rfl rfl rfl (fun _ _ h => h) (by decide) (by kernel_rfl) (fun _ => rfl)
            | 10, _ => exact StepOk.no _ 68 rfl rfl rfl rfl (fun _ _ h => h) (by decide) (by kernel_rfl) (fun _ => rfl)
            | 11, _ => exact StepOk.no _ 69 rfl rfl rfl rfl (fun _ _ h => h) (by decide) (by kernel_rfl) (fun _ => rfl)
            | 12, _ => exact StepOk.no _ 70 rfl rfl rfl rfl (fun _ _ h => h) (by decide) (by kernel_rfl) (fun _ => rfl)
            | 13, _ => exact StepOk.no _ 71 rfl rfl rfl rfl (fun _ _ h => h) (by decide) (by kernel_rfl) (fun _ => rfl)
            | 14, _ => exact StepOk.no _ 72 rfl rfl rfl rfl (fun _ _ h => h) (by decide) (by kernel_rfl) (fun _ => rfl)
            | 15, _ =>
              refine StepOk.plain _ 73 rfl rfl rfl [(62, some 4), (72, some 14)] (by kernel_rfl) (fun af wf hbw hf Kf hKf => ?_)
              obtain ⟨g62, g72, _⟩ := hf
              have h62 : af.tmps[62]?.getD undef = .bool true := g62
              have h72 : af.tmps[72]?.getD undef = undef := g72
              clear g62 g72
              go_simp
              exact hKf _ _ (Below.refl _ _) rfl
            | i + 16, h => exact absurd h (by show ¬ (i + 16 < 16); omega)
          · intro af wF hbF hdF hsF hbaseF hfactF
            obtain ⟨T, dsF⟩ := af
            obtain rfl : dsF = _ := hdF
            have e0 := hbaseF 0 (not_dst (by kernel_rfl))
            simp only [List.getElem?_toArray, List.getElem?_cons_zero, Option.getD_some] at e0
            have e1 := hbaseF 1 (not_dst (by kernel_rfl))
            simp only [List.getElem?_toArray, List.getElem?_cons_zero, List.getElem?_cons_succ, Option.getD_some] at e1
            have e2 := hbaseF 2 (not_dst (by kernel_rfl))
            simp only [List.getElem?_toArray, List.getElem?_cons_zero, List.getElem?_cons_succ, Option.getD_some] at e2
            have e3 := hbaseF 3 (not_dst (by kernel_rfl))
            simp only [List.getElem?_toArray, List.getElem?_cons_zero, List.getElem?_cons_succ, Option.getD_some] at e3
            have e4 := hbaseF 4 (not_dst (by kernel_rfl))
            simp only [List.getElem?_toArray, List.getElem?_cons_zero, List.getElem?_cons_succ, Option.getD_some] at e4
            have e5 := hbaseF 5 (not_dst (by kernel_rfl))
            simp only [List.getElem?_toArray, List.getElem?_cons_zero, List.getElem?_cons_succ, Option.getD_some] at e5
            have e6 := hbaseF 6 (not_dst (by kernel_rfl))
            simp only [List.getElem?_toArray, List.getElem?_cons_zero, List.getElem?_cons_succ, Option.getD_some] at e6
            have e7 := hbaseF 7 (not_dst (by kernel_rfl))
            simp only [List.getElem?_toArray, List.getElem?_cons_zero, List.getElem?_cons_succ, Option.getD_some] at e7
            have e8 := hbaseF 8 (not_dst (by kernel_rfl))
            simp only [List.getElem?_toArray, List.getElem?_cons_zero, List.getElem?_cons_succ, Option.getD_some] at e8
            have e9 := hbaseF 9 (not_dst (by kernel_rfl))
            simp only [List.getElem?_toArray, List.getElem?_cons_zero, List.getElem?_cons_succ, Option.getD_some] at e9
            have e10 := hbaseF 10 (not_dst (by kernel_rfl))
            simp only [List.getElem?_toArray, List.getElem?_cons_zero, List.getElem?_cons_succ, Option.getD_some] at e10
            have e11 := hbaseF 11 (not_dst (by kernel_rfl))
            simp only [List.getElem?_toArray, List.getElem?_cons_zero, List.getElem?_cons_succ, Option.getD_some] at e11
            have e12 := hbaseF 12 (not_dst (by kernel_rfl))
            simp only [List.getElem?_toArray, List.getElem?_cons_zero, List.getElem?_cons_succ, Option.getD_some] at e12
            have e13 := hbaseF 13 (not_dst (by kernel_rfl))
            simp only [List.getElem?_toArray, List.getElem?_cons_zero, List.getElem?_cons_succ, Option.getD_some] at e13
            have e14 := hbaseF 14 (not_dst (by kernel_rfl))
            simp only [List.getElem?_toArray, List.getElem?_cons_zero, List.getElem?_cons_succ, Option.getD_some] at e14
            have e15 := hbaseF 15 (not_dst (by kernel_rfl))
            simp only [List.getElem?_toArray, List.getElem?_cons_zero, List.getElem?_cons_succ, Option.getD_some] at e15
            have e16 := hbaseF 16 (not_dst (by kernel_rfl))
            simp only [List.getElem?_toArray, List.getElem?_cons_zero, List.getElem?_cons_succ, Option.getD_some] at e16
            have e17 := hbaseF 17 (not_dst (by kernel_rfl))
            simp only [List.getElem?_toArray, List.getElem?_cons_zero, List.getElem?_cons_succ, Option.getD_some] at e17
            have e18 := hbaseF 18 (not_dst (by kernel_rfl))
            simp only [List.getElem?_toArray, List.getElem?_cons_zero, List.getElem?_cons_succ, Option.getD_some] at e18
            have e19 := hbaseF 19 (not_dst (by kernel_rfl))
            simp only [List.getElem?_toArray, List.getElem?_cons_zero, List.getElem?_cons_succ, Option.getD_some] at e19
            have e20 := hbaseF 20 (not_dst (by kernel_rfl))
            simp only [List.getElem?_toArray, List.getElem?_cons_zero, List.getElem?_cons_succ, Option.getD_some] at e20
            have e21 := hbaseF 21 (not_dst (by kernel_rfl))
            simp only [List.getElem?_toArray, List.getElem?_cons_zero, List.getElem?_cons_succ, Option.getD_some] at e21
            have e22 := hbaseF 22 (not_dst (by kernel_rfl))
            simp only [List.getElem?_toArray, List.getElem?_cons_zero, List.getElem?_cons_succ, Option.getD_some] at e22
            have e23 := hbaseF 23 (not_dst (by kernel_rfl))
            simp only [List.getElem?_toArray, List.getElem?_cons_zero, List.getElem?_cons_succ, Option.getD_some] at e23
            have e24 := hbaseF 24 (not_dst (by kernel_rfl))
            simp only [List.getElem?_toArray, List.getElem?_cons_zero, List.getElem?_cons_succ, Option.getD_some] at e24
            have e25 := hbaseF 25 (not_dst (by kernel_rfl))
            simp only [List.getElem?_toArray, List.getElem?_cons_zero, List.getElem?_cons_succ, Option.getD_some] at e25
            have e26 := hbaseF 26 (not_dst (by kernel_rfl))
            simp only [List.getElem?_toArray, List.getElem?_cons_zero, List.getElem?_cons_succ, Option.getD_some] at e26
            have e27 := hbaseF 27 (not_dst (by kernel_rfl))
            simp only [List.getElem?_toArray, List.getElem?_cons_zero, List.getElem?_cons_succ, Option.getD_some] at e27
            have e28 := hbaseF 28 (not_dst (by kernel_rfl))
            simp only [List.getElem?_toArray, List.getElem?_cons_zero, List.getElem?_cons_succ, Option.getD_some] at e28
            have e29 := hbaseF 29 (not_dst (by kernel_rfl))
            simp only [List.getElem?_toArray, List.getElem?_cons_zero, List.getElem?_cons_succ, Option.getD_some] at e29
            have e30 := hbaseF 30 (not_dst (by kernel_rfl))
            simp only [List.getElem?_toArray, List.getElem?_cons_zero, List.getElem?_cons_succ, Option.getD_some] at e30
            have e31 := hbaseF 31 (not_dst (by kernel_rfl))
            simp only [List.getElem?_toArray, List.getElem?_cons_zero, List.getElem?_cons_succ, Option.getD_some] at e31
            have e32 := hbaseF 32 (not_dst (by kernel_rfl))
            simp only [List.getElem?_toArray, List.getElem?_cons_zero, List.getElem?_cons_succ, Option.getD_some] at e32
            have e33 := hbaseF 33 (not_dst (by kernel_rfl))
            simp only [List.getElem?_toArray, List.getElem?_cons_zero, List.getElem?_cons_succ, Option.getD_some] at e33
            have e34 := hbaseF 34 (not_dst (by kernel_rfl))
            simp only [List.getElem?_toArray, List.getElem?_cons_zero, List.getElem?_cons_succ, Option.getD_some] at e34
            have e35 := hbaseF 35 (not_dst (by kernel_rfl))
            simp only [List.getElem?_toArray, List.getElem?_cons_zero, List.getElem?_cons_succ, Option.getD_some] at e35
            have e36 := hbaseF 36 (not_dst (by kernel_rfl))
            simp only [List.getElem?_toArray, List.getElem?_cons_zero, List.getElem?_cons_succ, Option.getD_some] at e36
            have e37 := hbaseF 37 (not_dst (by kernel_rfl))
            simp only [List.getElem?_toArray, List.getElem?_cons_zero, List.getElem?_cons_succ, Option.getD_some] at e37
            have e38 := hbaseF 38 (not_dst (by kernel_rfl))
            simp only [List.getElem?_toArray, List.getElem?_cons_zero, List.getElem?_cons_succ, Option.getD_some] at e38
            have e39 := hbaseF 39 (not_dst (by kernel_rfl))
            simp only [List.getElem?_toArray, List.getElem?_cons_zero, List.getElem?_cons_succ, Option.getD_some] at e39
            have e40 := hbaseF 40 (not_dst (by kernel_rfl))
            simp only [List.getElem?_toArray, List.getElem?_cons_zero, List.getElem?_cons_succ, Option.getD_some] at e40
            have e41 := hbaseF 41 (not_dst (by kernel_rfl))
            simp only [List.getElem?_toArray, List.getElem?_cons_zero, List.getElem?_cons_succ, Option.getD_some] at e41
            have e42 := hbaseF 42 (not_dst (by kernel_rfl))
            simp only [List.getElem?_toArray, List.getElem?_cons_zero, List.getElem?_cons_succ, Option.getD_some] at e42
            have e43 := hbaseF 43 (not_dst (by kernel_rfl))
            simp only [List.getElem?_toArray, List.getElem?_cons_zero, List.getElem?_cons_succ, Option.getD_some] at e43
            have e44 := hbaseF 44 (not_dst (by kernel_rfl))
            simp only [List.getElem?_toArray, List.getElem?_cons_zero, List.getElem?_cons_succ, Option.getD_some] at e44
            have e45 := hbaseF 45 (not_dst (by kernel_rfl))
            simp only [List.getElem?_toArray, List.getElem?_cons_zero, List.getElem?_cons_succ, Option.getD_some] at e45
            have e46 := hbaseF 46 (not_dst (by kernel_rfl))
            simp only [List.getElem?_toArray, List.getElem?_cons_zero, List.getElem?_cons_succ, Option.getD_some] at e46
            have e47 := hbaseF 47 (not_dst (by kernel_rfl))
            simp only [List.getElem?_toArray, List.getElem?_cons_zero, List.getElem?_cons_succ, Option.getD_some] at e47
            have e48 := hbaseF 48 (not_dst (by kernel_rfl))
            simp only [List.getElem?_toArray, List.getElem?_cons_zero, List.getElem?_cons_succ, Option.getD_some] at e48
            have e49 := hbaseF 49 (not_dst (by kernel_rfl))
            simp only [List.getElem?_toArray, List.getElem?_cons_zero, List.getElem?_cons_succ, Option.getD_some] at e49
            have e50 := hbaseF 50 (not_dst (by kernel_rfl))
            simp only [List.getElem?_toArray, List.getElem?_cons_zero, List.getElem?_cons_succ, Option.getD_some] at e50
            have e51 := hbaseF 51 (not_dst (by kernel_rfl))
            simp only [List.getElem?_toArray, List.getElem?_cons_zero, List.getElem?_cons_succ, Option.getD_some] at e51
            have e52 := hbaseF 52 (not_dst (by kernel_rfl))
            simp only [List.getElem?_toArray, List.getElem?_cons_zero, List.getElem?_cons_succ, Option.getD_some] at e52
            have e53 := hbaseF 53 (not_dst (by kernel_rfl))
            simp only [List.getElem?_toArray, List.getElem?_cons_zero, List.getElem?_cons_succ, Option.getD_some] at e53
            have e54 := hbaseF 54 (not_dst (by kernel_rfl))
            simp only [List.getElem?_toArray, List.getElem?_cons_zero, List.getElem?_cons_succ, Option.getD_some] at e54
            have e55 := hbaseF 55 (not_dst (by kernel_rfl))
            simp only [List.getElem?_toArray, List.getElem?_cons_zero, List.getElem?_cons_succ, Option.getD_some] at e55
            have e56 := hbaseF 56 (not_dst (by kernel_rfl))
            simp only [List.getElem?_toArray, List.getElem?_cons_zero, List.getElem?_cons_succ, Option.getD_some] at e56
            have e57 := hbaseF 57 (not_dst (by kernel_rfl))
            simp only [List.getElem?_toArray, List.getElem?_cons_zero, List.getElem?_cons_succ, Option.getD_some] at e57
            have e74 := hbaseF 74 (not_dst (by kernel_rfl))
            simp only [List.getElem?_toArray, List.getElem?_cons_zero, List.getElem?_cons_succ, Option.getD_some] at e74
            have e75 := hbaseF 75 (not_dst (by kernel_rfl))
            simp only [List.getElem?_toArray, List.getElem?_cons_zero, List.getElem?_cons_succ, Option.getD_some] at e75
            have e73 := hfactF 15 73 (by decide) rfl
            replace e73 : T[73]?.getD undef = .bool true := e73
            clear hbaseF hfactF
            have hT : T = #[T[0]?.getD undef, T[1]?.getD undef, T[2]?.getD undef, T[3]?.getD undef, T[4]?.getD undef, T[5]?.getD undef, T[6]?.getD undef, T[7]?.getD undef, T[8]?.getD undef, T[9]?.getD undef, T[10]?.getD undef, T[11]?.getD undef, T[12]?.getD undef, T[13]?.getD undef, T[14]?.getD undef, T[15]?.getD undef, T[16]?.getD undef, T[17]?.getD undef, T[18]?.getD undef, T[19]?.getD undef, T[20]?.getD undef, T[21]?.getD undef, T[22]?.getD undef, T[23]?.getD undef, T[24]?.getD undef, T[25]?.getD undef, T[26]?.getD undef, T[27]?.getD undef, T[28]?.getD undef, T[29]?.getD undef, T[30]?.getD undef, T[31]?.getD undef, T[32]?.getD undef, T[33]?.getD undef, T[34]?.getD undef, T[35]?.getD undef, T[36]?.getD undef, T[37]?.getD undef, T[38]?.getD undef, T[39]?.getD undef, T[40]?.getD undef, T[41]?.getD undef, T[42]?.getD undef, T[43]?.getD undef, T[44]?.getD undef, T[45]?.getD undef, T[46]?.getD undef, T[47]?.getD undef, T[48]?.getD undef, T[49]?.getD undef, T[50]?.getD undef, T[51]?.getD undef, T[52]?.getD undef, T[53]?.getD undef, T[54]?.getD undef, T[55]?.getD undef, T[56]?.getD undef, T[57]?.getD undef, T[58]?.getD undef, T[59]?.getD undef, T[60]?.getD undef, T[61]?.getD undef, T[62]?.getD undef, T[63]?.getD undef, T[64]?.getD undef, T[65]?.getD undef, T[66]?.getD undef, T[67]?.getD undef, T[68]?.getD undef, T[69]?.getD undef, T[70]?.getD undef, T[71]?.getD undef, T[72]?.getD undef, T[73]?.getD undef, T[74]?.getD undef, T[75]?.getD undef] := arr_eq T 76 hsF
            clear hsF
            rw [e0] at hT; clear e0
            rw [e1] at hT; clear e1
            rw [e2] at hT; clear e2
            rw [e3] at hT; clear e3
            rw [e4] at hT; clear e4
            rw [e5] at hT; clear e5
            rw [e6] at hT; clear e6
            rw [e7] at hT; clear e7
            rw [e8] at hT; clear e8
            rw [e9] at hT; clear e9
            rw [e10] at hT; clear e10
            rw [e11] at hT; clear e11
            rw [e12] at hT; clear e12
            rw [e13] at hT; clear e13
            rw [e14] at hT; clear e14
            rw [e15] at hT; clear e15
            rw [e16] at hT; clear e16
            rw [e17] at hT; clear e17
            rw [e18] at hT; clear e18
            rw [e19] at hT; clear e19
            rw [e20] at hT; clear e20
            rw [e21] at hT; clear e21
            rw [e22] at hT; clear e22
            rw [e23] at hT; clear e23
            rw [e24] at hT; clear e24
            rw [e25] at hT; clear e25
            rw [e26] at hT; clear e26
            rw [e27] at hT; clear e27
            rw [e28] at hT; clear e28
            rw [e29] at hT; clear e29
            rw [e30] at hT; clear e30
            rw [e31] at hT; clear e31
            rw [e32] at hT; clear e32
            rw [e33] at hT; clear e33
            rw [e34] at hT; clear e34
            rw [e35] at hT; clear e35
            rw [e36] at hT; clear e36
            rw [e37] at hT; clear e37
            rw [e38] at hT; clear e38
            rw [e39] at hT; clear e39
            rw [e40] at hT; clear e40
            rw [e41] at hT; clear e41
            rw [e42] at hT; clear e42
            rw [e43] at hT; clear e43
            rw [e44] at hT; clear e44
            rw [e45] at hT; clear e45
            rw [e46] at hT; clear e46
            rw [e47] at hT; clear e47
            rw [e48] at hT; clear e48
            rw [e49] at hT; clear e49
            rw [e50] at hT; clear e50
            rw [e51] at hT; clear e51
            rw [e52] at hT; clear e52
            rw [e53] at hT; clear e53
            rw [e54] at hT; clear e54
            rw [e55] at hT; clear e55
            rw [e56] at hT; clear e56
            rw [e57] at hT; clear e57
            generalize T[58]?.getD undef = u58 at hT
            generalize T[59]?.getD undef = u59 at hT
            generalize T[60]?.getD undef = u60 at hT
            generalize T[61]?.getD undef = u61 at hT
            generalize T[62]?.getD undef = u62 at hT
            generalize T[63]?.getD undef = u63 at hT
            generalize T[64]?.getD undef = u64 at hT
            generalize T[65]?.getD undef = u65 at hT
            generalize T[66]?.getD undef = u66 at hT
            generalize T[67]?.getD undef = u67 at hT
            generalize T[68]?.getD undef = u68 at hT
            generalize T[69]?.getD undef = u69 at hT
            generalize T[70]?.getD undef = u70 at hT
            generalize T[71]?.getD undef = u71 at hT
            generalize T[72]?.getD undef = u72 at hT
            rw [e73] at hT; clear e73
            rw [e74] at hT; clear e74
            rw [e75] at hT; clear e75
            subst hT
            have R1 := hR.on hbF
            have bF : Below w.heap.size w wF := hbel.trans (hbF.mono hbz)
            have c7 := R1.cell
            have f7 := R1.frozen
            have z7 := R1.lt
            have e0 := (R1.set_ 0 (.int .u64 0)).cell 0
            have e1 := ((R1.set_ 0 (.int .u64 0)).set_ 1 (.slice none 0 0)).cell 1
            have e2 := ((R1.set_ 0 (.int .u64 0)).set_ 1 (.slice none 0 0)).cell 0
            simp at e0 e1 e2
            go_wp2_with fail
            refine bodyPost_ret (v := .tuple #[.agg #[.int .u64 0, .slice none 0 0], .bool false]) (by simp [results, Try.results55, go_sem, e0, e1, e2]) rfl ⟨.slice none 0 0, ?_, ?_, (by (have q_bF := Below.size bF; (try simp at q_bF); repeat (first | exact Below.refl _ _ | (refine Below.trans ?_ (Below.mono bF (by first | omega | (simp; omega) | simp))) | (refine Below.setCell ?_ (by first | omega | (simp; omega) | simp) _) | (refine Below.alloc ?_ (by first | omega | (simp; omega) | simp) _) | apply Below.drew | apply below_drewN)))⟩
            · unfold parC
              rw [if_neg (by rw [hno.out]; simp), hno.out]
            · unfold parS
              rw [if_neg (by rw [hno.out]; simp)]
              exact OwnR.nil _
        · have HM := Lib.hid hM
          by_cases hD : headL C es = b
          · have hyes := Lib.hid (show goodL p t b bs = true by rw [hge, hM, hD]; simp)
            have HD := Lib.hid (show ((str (headL C es)).toList == (str b).toList) = true by rw [str_toL, str_toL, hD]; simp)
            clear hge hM hD
            go_wp2_with fail
            refine wp_flows [(fun y_ _ => y_ = .agg #[.int .i64 p, .int .i64 t]), (fun y_ _ => y_ = .agg #[.int .u64 C, .slice Av k cv]), (fun y_ _ => y_ = .bool true), (fun y_ _ => y_ = .bool false), (fun y_ _ => y_ = .bool false), (fun y_ _ => y_ = .agg #[.int .u64 C, .slice Av k cv]), IsFst (1 + k) (headL C es), IsPtr (headL C es), (IsB (256) (headL C es)), (fun y_ _ => y_ = .string (str (headL C es))), (fun y_ _ => y_ = .slice (some ⟨bl, off, none⟩) n c), (fun y_ _ => y_ = .pointer (some ⟨bl, off, none⟩)), (IsB (256) (b)), (fun y_ _ => y_ = .string (str (b))), (fun y_ _ => y_ = .bool false), (fun y_ _ => y_ = .bool false)] (by kernel_rfl) ⟨Stab.eq _, Stab.eq _, Stab.eq _, Stab.eq _, Stab.eq _, Stab.eq _, IsFst.stab _ _, IsPtr.stab _, Stab.b _ _, Stab.eq _, Stab.eq _, Stab.eq _, Stab.b _ _, Stab.eq _, Stab.eq _, Stab.eq _, trivial⟩ (by kernel_rfl) (by rfl) ?_ ?_
            · intro kq hkq
              match kq, hkq with
              | 0, _ =>
                refine StepOk.plain _ 58 rfl rfl rfl [(2, none)] (by kernel_rfl) (fun af wf hbw hf Kf hKf => ?_)
                obtain ⟨g2, _⟩ := hf
                have h2 : af.tmps[2]?.getD undef = .pointer (some ⟨w.heap.size, 0, none⟩) := g2
                clear g2
                have cB0 := (Blk.on (Blk.drew (hBL)) hbw).cell
                have cB1 := (Blk.on (Blk.drew (hG)) hbw).cell
                go_simp
                exact hKf _ _ (Below.refl _ _) rfl
              | 1, _ =>
                refine StepOk.plain _ 59 rfl rfl rfl [(6, none)] (by kernel_rfl) (fun af wf hbw hf Kf hKf => ?_)
                obtain ⟨g6, _⟩ := hf
                have h6 : af.tmps[6]?.getD undef = .pointer (some ⟨L, 0, none⟩) := g6
                clear g6
                have cB0 := (Blk.on (Blk.drew (hBL)) hbw).cell
                have cB1 := (Blk.on (Blk.drew (hG)) hbw).cell
                go_simp
                exact hKf _ _ (Below.refl _ _) rfl
              | 2, _ =>
                refine StepOk.plain _ 60 rfl rfl rfl [(58, some 0), (59, some 1)] (by kernel_rfl) (fun af wf hbw hf Kf hKf => ?_)
                obtain ⟨g58, g59, _⟩ := hf
                have h58 : af.tmps[58]?.getD undef = .agg #[.int .i64 p, .int .i64 t] := g58
                have h59 : af.tmps[59]?.getD undef = .agg #[.int .u64 C, .slice Av k cv] := g59
                clear g58 g59
                go_simp
                refine (rlmay_any p t C Av k cv _ _ es _ (RdR.below hOr.drew hbw) (by omega)).mono ?_
                rintro e wN ⟨rfl, hb⟩
                exact hKf _ _ (hb) (congrArg Value.bool HM.out)
              | 3, _ =>
                refine StepOk.plain _ 61 rfl rfl rfl [(60, some 2)] (by kernel_rfl) (fun af wf hbw hf Kf hKf => ?_)
                obtain ⟨g60, _⟩ := hf
                have h60 : af.tmps[60]?.getD undef = .bool true := g60
                clear g60
                go_simp
                exact hKf _ _ (Below.refl _ _) rfl
              | 4, _ =>
                refine StepOk.plain _ 62 rfl rfl rfl [(61, some 3)] (by kernel_rfl) (fun af wf hbw hf Kf hKf => ?_)
                obtain ⟨g61, _⟩ := hf
                have h61 : af.tmps[61]?.getD undef = .bool false := g61
                clear g61
                go_simp
                exact hKf _ _ (Below.refl _ _) rfl
              | 5, _ =>
                refine StepOk.yes _ 63 rfl rfl rfl rfl (fun _ _ h => h) [(6, none)] (by kernel_rfl) (fun af wf hbw hf Kf hKf => ?_)
                obtain ⟨g6, _⟩ := hf
                have h6 : af.tmps[6]?.getD undef = .pointer (some ⟨L, 0, none⟩) := g6
                clear g6
                have cB0 := (Blk.on (Blk.drew (hBL)) hbw).cell
                have cB1 := (Blk.on (Blk.drew (hG)) hbw).cell
                go_simp
                exact hKf _ _ (Below.refl _ _) rfl
              | 6, _ =>
                refine StepOk.yes _ 64 rfl rfl rfl rfl (fun _ _ h => h) [(63, some 5)] (by kernel_rfl) (fun af wf hbw hf Kf hKf => ?_)
                obtain ⟨g63, _⟩ := hf
                have h63 : af.tmps[63]?.getD undef = .agg #[.int .u64 C, .slice Av k cv] := g63
                clear g63
                go_simp
                refine (rlenc_any C Av k cv B0 es _ (RdR.below hOr.drew hbw) (by have := hbw.size; simp at this; omega) (by omega) hC0 hC1 HKY.out).mono ?_
                rintro e wN ⟨v6, rfl, hO6, hb6⟩
                exact hKf _ _ (hb6) (isfst_of hO6 hkl)
              | 7, _ =>
                refine StepOk.yes _ 65 rfl rfl rfl rfl (fun _ _ h => h) [(64, some 6)] (by kernel_rfl) (fun af wf hbw hf Kf hKf => ?_)
                obtain ⟨g64, _⟩ := hf
                have g64 : IsFst (1 + k) (headL C es) (af.tmps[64]?.getD undef) wf := g64
                obtain ⟨b64, o64, c64, A64, ca64, h64, hb64, hc64, hR64, hn64, hm64⟩ := g64
                have n7 : (0 : Int) < 1 + (k : Int) := by omega
                go_simp
                exact hKf _ _ (Below.refl _ _) (⟨b64, o64, A64, ca64, rfl, hb64, hc64, hR64, hn64, hm64⟩)
              | 8, _ =>
                refine StepOk.yes _ 66 rfl rfl rfl rfl (fun _ _ h => h) [(65, some 7)] (by kernel_rfl) (fun af wf hbw hf Kf hKf => ?_)
                obtain ⟨g65, _⟩ := hf
                have g65 : IsPtr (headL C es) (af.tmps[65]?.getD undef) wf := g65
                obtain ⟨b65, o65, A65, ca65, h65, hb65, hc65, hR65, hn65, hm65⟩ := g65
                have cB0 := (Blk.on (Blk.drew (hBL)) hbw).cell
                have cB1 := (Blk.on (Blk.drew (hG)) hbw).cell
                go_simp
                exact hKf _ _ (Below.refl _ _) (⟨A65, ca65, rfl, hR65, hn65, hm65⟩)
              | 9, _ =>
                refine StepOk.yes _ 67 rfl rfl rfl rfl (fun _ _ h => h) [(66, some 8)] (by kernel_rfl) (fun af wf hbw hf Kf hKf => ?_)
                obtain ⟨g66, _⟩ := hf
                obtain ⟨A66, c66, h66, hR66, hn66, hm66⟩ : IsB (256) (headL C es) (af.tmps[66]?.getD undef) wf := g66
                have hcv := conv c66 _ hR66
                go_simp
                exact hKf _ _ (Below.refl _ _) rfl
              | 10, _ =>
                refine StepOk.yes _ 68 rfl rfl rfl rfl (fun _ _ h => h) [(1, none)] (by kernel_rfl) (fun af wf hbw hf Kf hKf => ?_)
                obtain ⟨g1, _⟩ := hf
                have h1 : af.tmps[1]?.getD undef = .slice (some ⟨bl, off, none⟩) n c := g1
                clear g1
                go_simp
                exact hKf _ _ (Below.refl _ _) rfl
              | 11, _ =>
                refine StepOk.yes _ 69 rfl rfl rfl rfl (fun _ _ h => h) [(68, some 10)] (by kernel_rfl) (fun af wf hbw hf Kf hKf => ?_)
                obtain ⟨g68, _⟩ := hf
                have h68 : af.tmps[68]?.getD undef = .slice (some ⟨bl, off, none⟩) n c := g68
                clear g68
                go_simp
                exact hKf _ _ (Below.refl _ _) rfl
              | 12, _ =>
                refine StepOk.yes _ 70 rfl rfl rfl rfl (fun _ _ h => h) [(69, some 11)] (by kernel_rfl) (fun af wf hbw hf Kf hKf => ?_)
                obtain ⟨g69, _⟩ := hf
                have h69 : af.tmps[69]?.getD undef = .pointer (some ⟨bl, off, none⟩) := g69
                clear g69
                have cB0 := (Blk.on (Blk.drew (hBL)) hbw).cell
                have cB1 := (Blk.on (Blk.drew (hG)) hbw).cell
                have hcx := (Below.cell (p := ⟨bl, off, none⟩) hbw hbl2).trans hck0
                go_simp
                exact hKf _ _ (Below.refl _ _) (⟨_, _, rfl, Rd.below (Rd.drew hR0w) hbw, hc00, hm01⟩)
              | 13, _ =>
                refine StepOk.yes _ 71 rfl rfl rfl rfl (fun _ _ h => h) [(70, some 12)] (by kernel_rfl) (fun af wf hbw hf Kf hKf => ?_)
                obtain ⟨g70, _⟩ := hf
                obtain ⟨A70, c70, h70, hR70, hn70, hm70⟩ : IsB (256) (b) (af.tmps[70]?.getD undef) wf := g70
                have hcv := conv c70 _ hR70
                go_simp
                exact hKf _ _ (Below.refl _ _) rfl
              | 14, _ =>
                refine StepOk.yes _ 72 rfl rfl rfl rfl (fun _ _ h => h) [(67, some 9), (71, some 13)] (by kernel_rfl) (fun af wf hbw hf Kf hKf => ?_)
                obtain ⟨g67, g71, _⟩ := hf
                have h67 : af.tmps[67]?.getD undef = .string (str (headL C es)) := g67
                have h71 : af.tmps[71]?.getD undef = .string (str (b)) := g71
                clear g67 g71
                have hqs := HD.out
                go_simp
                exact hKf _ _ (Below.refl _ _) rfl
              | 15, _ =>
                refine StepOk.plain _ 73 rfl rfl rfl [(62, some 4), (72, some 14)] (by kernel_rfl) (fun af wf hbw hf Kf hKf => ?_)
                obtain ⟨g62, g72, _⟩ := hf
                have h62 : af.tmps[62]?.getD undef = .bool false := g62
                have h72 : af.tmps[72]?.getD undef = .bool false := g72
                clear g62 g72
                go_simp
                exact hKf _ _ (Below.refl _ _) rfl
              | i + 16, h => exact absurd h (by show ¬ (i + 16 < 16); omega)
            · intro af wF hbF hdF hsF hbaseF hfactF
              obtain ⟨T, dsF⟩ := af
              obtain rfl : dsF = _ := hdF
              have e0 := hbaseF 0 (not_dst (by kernel_rfl))
              simp only [List.getElem?_toArray, List.getElem?_cons_zero, Option.getD_some] at e0
              have e1 := hbaseF 1 (not_dst (by kernel_rfl))
              simp only [List.getElem?_toArray, List.getElem?_cons_zero, List.getElem?_cons_succ, Option.getD_some] at e1
              have e2 := hbaseF 2 (not_dst (by kernel_rfl))
              simp only [List.getElem?_toArray, List.getElem?_cons_zero, List.getElem?_cons_succ, Option.getD_some] at e2
              have e3 := hbaseF 3 (not_dst (by kernel_rfl))
              simp only [List.getElem?_toArray, List.getElem?_cons_zero, List.getElem?_cons_succ, Option.getD_some] at e3
              have e4 := hbaseF 4 (not_dst (by kernel_rfl))
              simp only [List.getElem?_toArray, List.getElem?_cons_zero, List.getElem?_cons_succ, Option.getD_some] at e4
              have e5 := hbaseF 5 (not_dst (by kernel_rfl))
              simp only [List.getElem?_toArray, List.getElem?_cons_zero, List.getElem?_cons_succ, Option.getD_some] at e5
              have e6 := hbaseF 6 (not_dst (by kernel_rfl))
              simp only [List.getElem?_toArray, List.getElem?_cons_zero, List.getElem?_cons_succ, Option.getD_some] at e6
              have e7 := hbaseF 7 (not_dst (by kernel_rfl))
              simp only [List.getElem?_toArray, List.getElem?_cons_zero, List.getElem?_cons_succ, Option.getD_some] at e7
              have e8 := hbaseF 8 (not_dst (by kernel_rfl))
              simp only [List.getElem?_toArray, List.getElem?_cons_zero, List.getElem?_cons_succ, Option.getD_some] at e8
              have e9 := hbaseF 9 (not_dst (by kernel_rfl))
              simp only [List.getElem?_toArray, List.getElem?_cons_zero, List.getElem?_cons_succ, Option.getD_some] at e9
              have e10 := hbaseF 10 (not_dst (by kernel_rfl))
              simp only [List.getElem?_toArray, List.getElem?_cons_zero, List.getElem?_cons_succ, Option.getD_some] at e10
              have e11 := hbaseF 11 (not_dst (by kernel_rfl))
              simp only [List.getElem?_toArray, List.getElem?_cons_zero, List.getElem?_cons_succ, Option.getD_some] at e11
              have e12 := hbaseF 12 (not_dst (by kernel_rfl))
              simp only [List.getElem?_toArray, List.getElem?_cons_zero, List.getElem?_cons_succ, Option.getD_some] at e12
              have e13 := hbaseF 13 (not_dst (by kernel_rfl))
              simp only [List.getElem?_toArray, List.getElem?_cons_zero, List.getElem?_cons_succ, Option.getD_some] at e13
              have e14 := hbaseF 14 (not_dst (by kernel_rfl))
              simp only [List.getElem?_toArray, List.getElem?_cons_zero, List.getElem?_cons_succ, Option.getD_some] at e14
              have e15 := hbaseF 15 (not_dst (by kernel_rfl))
              simp only [List.getElem?_toArray, List.getElem?_cons_zero, List.getElem?_cons_succ, Option.getD_some] at e15
              have e16 := hbaseF 16 (not_dst (by kernel_rfl))
              simp only [List.getElem?_toArray, List.getElem?_cons_zero, List.getElem?_cons_succ, Option.getD_some] at e16
              have e17 := hbaseF 17 (not_dst (by kernel_rfl))
              simp only [List.getElem?_toArray, List.getElem?_cons_zero, List.getElem?_cons_succ, Option.getD_some] at e17
              have e18 := hbaseF 18 (not_dst (by kernel_rfl))
              simp only [List.getElem?_toArray, List.getElem?_cons_zero, List.getElem?_cons_succ, Option.getD_some] at e18
              have e19 := hbaseF 19 (not_dst (by kernel_rfl))
              simp only [List.getElem?_toArray, List.getElem?_cons_zero, List.getElem?_cons_succ, Option.getD_some] at e19
              have e20 := hbaseF 20 (not_dst (by kernel_rfl))
              simp only [List.getElem?_toArray, List.getElem?_cons_zero, List.getElem?_cons_succ, Option.getD_some] at e20
              have e21 := hbaseF 21 (not_dst (by kernel_rfl))
              simp only [List.getElem?_toArray, List.getElem?_cons_zero, List.getElem?_cons_succ, Option.getD_some] at e21
              have e22 := hbaseF 22 (not_dst (by kernel_rfl))
              simp only [List.getElem?_toArray, List.getElem?_cons_zero, List.getElem?_cons_succ, Option.getD_some] at e22
              have e23 := hbaseF 23 (not_dst (by kernel_rfl))
              simp only [List.getElem?_toArray, List.getElem?_cons_zero, List.getElem?_cons_succ, Option.getD_some] at e23
              have e24 := hbaseF 24 (not_dst (by kernel_rfl))
              simp only [List.getElem?_toArray, List.getElem?_cons_zero, List.getElem?_cons_succ, Option.getD_some] at e24
              have e25 := hbaseF 25 (not_dst (by kernel_rfl))
              simp only [List.getElem?_toArray, List.getElem?_cons_zero, List.getElem?_cons_succ, Option.getD_some] at e25
              have e26 := hbaseF 26 (not_dst (by kernel_rfl))
              simp only [List.getElem?_toArray, List.getElem?_cons_zero, List.getElem?_cons_succ, Option.getD_some] at e26
              have e27 := hbaseF 27 (not_dst (by kernel_rfl))
              simp only [List.getElem?_toArray, List.getElem?_cons_zero, List.getElem?_cons_succ, Option.getD_some] at e27
              have e28 := hbaseF 28 (not_dst (by kernel_rfl))
              simp only [List.getElem?_toArray, List.getElem?_cons_zero, List.getElem?_cons_succ, Option.getD_some] at e28
              have e29 := hbaseF 29 (not_dst (by kernel_rfl))
              simp only [List.getElem?_toArray, List.getElem?_cons_zero, List.getElem?_cons_succ, Option.getD_some] at e29
              have e30 := hbaseF 30 (not_dst (by kernel_rfl))
              simp only [List.getElem?_toArray, List.getElem?_cons_zero, List.getElem?_cons_succ, Option.getD_some] at e30
              have e31 := hbaseF 31 (not_dst (by kernel_rfl))
              simp only [List.getElem?_toArray, List.getElem?_cons_zero, List.getElem?_cons_succ, Option.getD_some] at e31
              have e32 := hbaseF 32 (not_dst (by kernel_rfl))
              simp only [List.getElem?_toArray, List.getElem?_cons_zero, List.getElem?_cons_succ, Option.getD_some] at e32
              have e33 := hbaseF 33 (not_dst (by kernel_rfl))
              simp only [List.getElem?_toArray, List.getElem?_cons_zero, List.getElem?_cons_succ, Option.getD_some] at e33
              have e34 := hbaseF 34 (not_dst (by kernel_rfl))
              simp only [List.getElem?_toArray, List.getElem?_cons_zero, List.getElem?_cons_succ, Option.getD_some] at e34
              have e35 := hbaseF 35 (not_dst (by kernel_rfl))
              simp only [List.getElem?_toArray, List.getElem?_cons_zero, List.getElem?_cons_succ, Option.getD_some] at e35
              have e36 := hbaseF 36 (not_dst (by kernel_rfl))
              simp only [List.getElem?_toArray, List.getElem?_cons_zero, List.getElem?_cons_succ, Option.getD_some] at e36
              have e37 := hbaseF 37 (not_dst (by kernel_rfl))
              simp only [List.getElem?_toArray, List.getElem?_cons_zero, List.getElem?_cons_succ, Option.getD_some] at e37
              have e38 := hbaseF 38 (not_dst (by kernel_rfl))
              simp only [List.getElem?_toArray, List.getElem?_cons_zero, List.getElem?_cons_succ, Option.getD_some] at e38
              have e39 := hbaseF 39 (not_dst (by kernel_rfl))
              simp only [List.getElem?_toArray, List.getElem?_cons_zero, List.getElem?_cons_succ, Option.getD_some] at e39
              have e40 := hbaseF 40 (not_dst (by kernel_rfl))
              simp only [List.getElem?_toArray, List.getElem?_cons_zero, List.getElem?_cons_succ, Option.getD_some] at e40
              have e41 := hbaseF 41 (not_dst (by kernel_rfl))
              simp only [List.getElem?_toArray, List.getElem?_cons_zero, List.getElem?_cons_succ, Option.getD_some] at e41
              have e42 := hbaseF 42 (not_dst (by kernel_rfl))
              simp only [List.getElem?_toArray, List.getElem?_cons_zero, List.getElem?_cons_succ, Option.getD_some] at e42
              have e43 := hbaseF 43 (not_dst (by kernel_rfl))
              simp only [List.getElem?_toArray, List.getElem?_cons_zero, List.getElem?_cons_succ, Option.getD_some] at e43
              have e44 := hbaseF 44 (not_dst (by kernel_rfl))
              simp only [List.getElem?_toArray, List.getElem?_cons_zero, List.getElem?_cons_succ, Option.getD_some] at e44
              have e45 := hbaseF 45 (not_dst (by kernel_rfl))
              simp only [List.getElem?_toArray, List.getElem?_cons_zero, List.getElem?_cons_succ, Option.getD_some] at e45
              have e46 := hbaseF 46 (not_dst (by kernel_rfl))
              simp only [List.getElem?_toArray, List.getElem?_cons_zero, List.getElem?_cons_succ, Option.getD_some] at e46
              have e47 := hbaseF 47 (not_dst (by kernel_rfl))
              simp only [List.getElem?_toArray, List.getElem?_cons_zero, List.getElem?_cons_succ, Option.getD_some] at e47
              have e48 := hbaseF 48 (not_dst (by kernel_rfl))
              simp only [List.getElem?_toArray, List.getElem?_cons_zero, List.getElem?_cons_succ, Option.getD_some] at e48
              have e49 := hbaseF 49 (not_dst (by kernel_rfl))
              simp only [List.getElem?_toArray, List.getElem?_cons_zero, List.getElem?_cons_succ, Option.getD_some] at e49
              have e50 := hbaseF 50 (not_dst (by kernel_rfl))
              simp only [List.getElem?_toArray, List.getElem?_cons_zero, List.getElem?_cons_succ, Option.getD_some] at e50
              have e51 := hbaseF 51 (not_dst (by kernel_rfl))
              simp only [List.getElem?_toArray, List.getElem?_cons_zero, List.getElem?_cons_succ, Option.getD_some] at e51
              have e52 := hbaseF 52 (not_dst (by kernel_rfl))
              simp only [List.getElem?_toArray, List.getElem?_cons_zero, List.getElem?_cons_succ, Option.getD_some] at e52
              have e53 := hbaseF 53 (not_dst (by kernel_rfl))
              simp only [List.getElem?_toArray, List.getElem?_cons_zero, List.getElem?_cons_succ, Option.getD_some] at e53
              have e54 := hbaseF 54 (not_dst (by kernel_rfl))
              simp only [List.getElem?_toArray, List.getElem?_cons_zero, List.getElem?_cons_succ, Option.getD_some] at e54
              have e55 := hbaseF 55 (not_dst (by kernel_rfl))
              simp only [List.getElem?_toArray, List.getElem?_cons_zero, List.getElem?_cons_succ, Option.getD_some] at e55
              have e56 := hbaseF 56 (not_dst (by kernel_rfl))
              simp only [List.getElem?_toArray, List.getElem?_cons_zero, List.getElem?_cons_succ, Option.getD_some] at e56
              have e57 := hbaseF 57 (not_dst (by kernel_rfl))
              simp only [List.getElem?_toArray, List.getElem?_cons_zero, List.getElem?_cons_succ, Option.getD_some] at e57
              have e74 := hbaseF 74 (not_dst (by kernel_rfl))
              simp only [List.getElem?_toArray, List.getElem?_cons_zero, List.getElem?_cons_succ, Option.getD_some] at e74
              have e75 := hbaseF 75 (not_dst (by kernel_rfl))
              simp only [List.getElem?_toArray, List.getElem?_cons_zero, List.getElem?_cons_succ, Option.getD_some] at e75
              have e73 := hfactF 15 73 (by decide) rfl
              replace e73 : T[73]?.getD undef = .bool false := e73
              clear hbaseF hfactF
              have hT : T = #[T[0]?.getD undef, T[1]?.getD undef, T[2]?.getD undef, T[3]?.getD undef, T[4]?.getD undef, T[5]?.getD undef, T[6]?.getD undef, T[7]?.getD undef, T[8]?.getD undef, T[9]?.getD undef, T[10]?.getD undef, T[11]?.getD undef, T[12]?.getD undef, T[13]?.getD undef, T[14]?.getD undef, T[15]?.getD undef, T[16]?.getD undef, T[17]?.getD undef, T[18]?.getD undef, T[19]?.getD undef, T[20]?.getD undef, T[21]?.getD undef, T[22]?.getD undef, T[23]?.getD undef, T[24]?.getD undef, T[25]?.getD undef, T[26]?.getD undef, T[27]?.getD undef, T[28]?.getD undef, T[29]?.getD undef, T[30]?.getD undef, T[31]?.getD undef, T[32]?.getD undef, T[33]?.getD undef, T[34]?.getD undef, T[35]?.getD undef, T[36]?.getD undef, T[37]?.getD undef, T[38]?.getD undef, T[39]?.getD undef, T[40]?.getD undef, T[41]?.getD undef, T[42]?.getD undef, T[43]?.getD undef, T[44]?.getD undef, T[45]?.getD undef, T[46]?.getD undef, T[47]?.getD undef, T[48]?.getD undef, T[49]?.getD undef, T[50]?.getD undef, T[51]?.getD undef, T[52]?.getD undef, T[53]?.getD undef, T[54]?.getD undef, T[55]?.getD undef, T[56]?.getD undef, T[57]?.getD undef, T[58]?.getD undef, T[59]?.getD undef, T[60]?.getD undef, T[61]?.getD undef, T[62]?.getD undef, T[63]?.getD undef, T[64]?.getD undef, T[65]?.getD undef, T[66]?.getD undef, T[67]?.getD undef, T[68]?.getD undef, T[69]?.getD undef, T[70]?.getD undef, T[71]?.getD undef, T[72]?.getD undef, T[73]?.getD undef, T[74]?.getD undef, T[75]?.getD undef] := arr_eq T 76 hsF
              clear hsF
              rw [e0] at hT; clear e0
              rw [e1] at hT; clear e1
              rw [e2] at hT; clear e2
              rw [e3] at hT; clear e3
              rw [e4] at hT; clear e4
              rw [e5] at hT; clear e5
              rw [e6] at hT; clear e6
              rw [e7] at hT; clear e7
              rw [e8] at hT; clear e8
              rw [e9] at hT; clear e9
              rw [e10] at hT; clear e10
              rw [e11] at hT; clear e11
              rw [e12] at hT; clear e12
              rw [e13] at hT; clear e13
              rw [e14] at hT; clear e14
              rw [e15] at hT; clear e15
              rw [e16] at hT; clear e16
              rw [e17] at hT; clear e17
              rw [e18] at hT; clear e18
              rw [e19] at hT; clear e19
              rw [e20] at hT; clear e20
              rw [e21] at hT; clear e21
              rw [e22] at hT; clear e22
              rw [e23] at hT; clear e23
              rw [e24] at hT; clear e24
              rw [e25] at hT; clear e25
              rw [e26] at hT; clear e26
              rw [e27] at hT; clear e27
              rw [e28] at hT; clear e28
              rw [e29] at hT; clear e29
              rw [e30] at hT; clear e30
              rw [e31] at hT; clear e31
              rw [e32] at hT; clear e32
              rw [e33] at hT; clear e33
              rw [e34] at hT; clear e34
              rw [e35] at hT; clear e35
              rw [e36] at hT; clear e36
              rw [e37] at hT; clear e37
              rw [e38] at hT; clear e38
              rw [e39] at hT; clear e39
              rw [e40] at hT; clear e40
              rw [e41] at hT; clear e41
              rw [e42] at hT; clear e42
              rw [e43] at hT; clear e43
              rw [e44] at hT; clear e44
              rw [e45] at hT; clear e45
              rw [e46] at hT; clear e46
              rw [e47] at hT; clear e47
              rw [e48] at hT; clear e48
              rw [e49] at hT; clear e49
              rw [e50] at hT; clear e50
              rw [e51] at hT; clear e51
              rw [e52] at hT; clear e52
              rw [e53] at hT; clear e53
              rw [e54] at hT; clear e54
              rw [e55] at hT; clear e55
              rw [e56] at hT; clear e56
              rw [e57] at hT; clear e57
              generalize T[58]?.getD undef = u58 at hT
              generalize T[59]?.getD undef = u59 at hT
              generalize T[60]?.getD undef = u60 at hT
              generalize T[61]?.getD undef = u61 at hT
              generalize T[62]?.getD undef = u62 at hT
              generalize T[63]?.getD undef = u63 at hT
              generalize T[64]?.getD undef = u64 at hT
              generalize T[65]?.getD undef = u65 at hT
              generalize T[66]?.getD undef = u66 at hT
              generalize T[67]?.getD undef = u67 at hT
              generalize T[68]?.getD undef = u68 at hT
              generalize T[69]?.getD undef = u69 at hT
              generalize T[70]?.getD undef = u70 at hT
              generalize T[71]?.getD undef = u71 at hT
              generalize T[72]?.getD undef = u72 at hT
              rw [e73] at hT; clear e73
              rw [e74] at hT; clear e74
              rw [e75] at hT; clear e75
              subst hT
              have B1 := hBL.on hbF
              have O1 := hO.below hbF
              have R1 := hR.on hbF
              have bF : Below w.heap.size w wF := hbel.trans (hbF.mono hbz)
              have c7 := R1.cell
              have f7 := R1.frozen
              have z7 := R1.lt
              have c8 := B1.cell
              have e0 := (R1.set_ 0 (.int .u64 C)).cell 0
              have e1 := ((R1.set_ 0 (.int .u64 C)).set_ 1 (.slice Av k cv)).cell 1
              have e2 := ((R1.set_ 0 (.int .u64 C)).set_ 1 (.slice Av k cv)).cell 0
              have e3 := (R1.set_ 0 (.int .u64 C)).cell 1
              simp at e0 e1 e2 e3
              have hOF := ((O1.set_ R1 (by decide) (by omega) (by omega) 0 (.int .u64 C)).set_ (R1.set_ 0 (.int .u64 C)) (by decide) (by omega) (by omega) 1 (.slice Av k cv)).from_ (Br' := w.heap.size) (by omega)
              go_wp2_with fail
              refine bodyPost_ret (v := .tuple #[.agg #[.int .u64 C, .slice Av k cv], .bool true]) (by simp [results, Try.results55, go_sem, e0, e1, e2, e3]) rfl ⟨.slice Av k cv, ?_, ?_, (by (have q_bF := Below.size bF; (try simp at q_bF); repeat (first | exact Below.refl _ _ | (refine Below.trans ?_ (Below.mono bF (by first | omega | (simp; omega) | simp))) | (refine Below.setCell ?_ (by first | omega | (simp; omega) | simp) _) | (refine Below.alloc ?_ (by first | omega | (simp; omega) | simp) _) | apply Below.drew | apply below_drewN)))⟩
              · unfold parC
                rw [if_pos hyes.out, HC.out, hyes.out]
              · unfold parS
                rw [if_pos hyes.out, ← HNB.out, ← HES.out]
                exact hOF
          · have hno := Lib.hid (show goodL p t b bs = false by rw [hge, hM]; simp [hD])
            have HD := Lib.hid (show ((str (headL C es)).toList == (str b).toList) = false by rw [str_toL, str_toL]; simp [hD])
            clear hge hM hD
            go_wp2_with fail
            refine wp_flows [(fun y_ _ => y_ = .agg #[.int .i64 p, .int .i64 t]), (fun y_ _ => y_ = .agg #[.int .u64 C, .slice Av k cv]), (fun y_ _ => y_ = .bool true), (fun y_ _ => y_ = .bool false), (fun y_ _ => y_ = .bool false), (fun y_ _ => y_ = .agg #[.int .u64 C, .slice Av k cv]), IsFst (1 + k) (headL C es), IsPtr (headL C es), (IsB (256) (headL C es)), (fun y_ _ => y_ = .string (str (headL C es))), (fun y_ _ => y_ = .slice (some ⟨bl, off, none⟩) n c), (fun y_ _ => y_ = .pointer (some ⟨bl, off, none⟩)), (IsB (256) (b)), (fun y_ _ => y_ = .string (str (b))), (fun y_ _ => y_ = .bool true), (fun y_ _ => y_ = .bool true)] (by kernel_rfl) ⟨Stab.eq _, Stab.eq _, Stab.eq _, Stab.eq _, Stab.eq _, Stab.eq _, IsFst.stab _ _, IsPtr.stab _, Stab.b _ _, Stab.eq _, Stab.eq _, Stab.eq _, Stab.b _ _, Stab.eq _, Stab.eq _, Stab.eq _, trivial⟩ (by kernel_rfl) (by rfl) ?_ ?_
            · intro kq hkq
              match kq, hkq with
              | 0, _ =>
                refine StepOk.plain _ 58 rfl rfl rfl [(2, none)] (by kernel_rfl) (fun af wf hbw hf Kf hKf => ?_)
                obtain ⟨g2, _⟩ := hf
                have h2 : af.tmps[2]?.getD undef = .pointer (some ⟨w.heap.size, 0, none⟩) := g2
                clear g2
                have cB0 := (Blk.on (Blk.drew (hBL)) hbw).cell
                have cB1 := (Blk.on (Blk.drew (hG)) hbw).cell
                go_simp
                exact hKf _ _ (Below.refl _ _) rfl
              | 1, _ =>
                refine StepOk.plain _ 59 rfl rfl rfl [(6, none)] (by kernel_rfl) (fun af wf hbw hf Kf hKf => ?_)
                obtain ⟨g6, _⟩ := hf
                have h6 : af.tmps[6]?.getD undef = .pointer (some ⟨L, 0, none⟩) := g6
                clear g6
                have cB0 := (Blk.on (Blk.drew (hBL)) hbw).cell
                have cB1 := (Blk.on (Blk.drew (hG)) hbw).cell
                go_simp
                exact hKf _ _ (Below.refl _ _) rfl
              | 2, _ =>
                refine StepOk.plain _ 60 rfl rfl rfl [(58, some 0), (59, some 1)] (by kernel_rfl) (fun af wf hbw hf Kf hKf => ?_)
                obtain ⟨g58, g59, _⟩ := hf
                have h58 : af.tmps[58]?.getD undef = .agg #[.int .i64 p, .int .i64 t] := g58
                have h59 : af.tmps[59]?.getD undef = .agg #[.int .u64 C, .slice Av k cv] := g59
                clear g58 g59
                go_simp
                refine (rlmay_any p t C Av k cv _ _ es _ (RdR.below hOr.drew hbw) (by omega)).mono ?_
                rintro e wN ⟨rfl, hb⟩
                exact hKf _ _ (hb) (congrArg Value.bool HM.out)
              | 3, _ =>
                refine StepOk.plain _ 61 rfl rfl rfl [(60, some 2)] (by kernel_rfl) (fun af wf hbw hf Kf hKf => ?_)
                obtain ⟨g60, _⟩ := hf
                have h60 : af.tmps[60]?.getD undef = .bool true := g60
                clear g60
                go_simp
                exact hKf _ _ (Below.refl _ _) rfl
              | 4, _ =>
                refine StepOk.plain _ 62 rfl rfl rfl [(61, some 3)] (by kernel_rfl) (fun af wf hbw hf Kf hKf => ?_)
                obtain ⟨g61, _⟩ := hf
                have h61 : af.tmps[61]?.getD undef = .bool false := g61
                clear g61
                go_simp
                exact hKf _ _ (Below.refl _ _) rfl
              | 5, _ =>
                refine StepOk.yes _ 63 rfl rfl rfl rfl (fun _ _ h => h) [(6, none)] (by kernel_rfl) (fun af wf hbw hf Kf hKf => ?_)
                obtain ⟨g6, _⟩ := hf
                have h6 : af.tmps[6]?.getD undef = .pointer (some ⟨L, 0, none⟩) := g6
                clear g6
                have cB0 := (Blk.on (Blk.drew (hBL)) hbw).cell
                have cB1 := (Blk.on (Blk.drew (hG)) hbw).cell
                go_simp
                exact hKf _ _ (Below.refl _ _) rfl
              | 6, _ =>
                refine StepOk.yes _ 64 rfl rfl rfl rfl (fun _ _ h => h) [(63, some 5)] (by kernel_rfl) (fun af wf hbw hf Kf hKf => ?_)
                obtain ⟨g63, _⟩ := hf
                have h63 : af.tmps[63]?.getD undef = .agg #[.int .u64 C, .slice Av k cv] := g63
                clear g63
                go_simp
                refine (rlenc_any C Av k cv B0 es _ (RdR.below hOr.drew hbw) (by have := hbw.size; simp at this; omega) (by omega) hC0 hC1 HKY.out).mono ?_
                rintro e wN ⟨v6, rfl, hO6, hb6⟩
                exact hKf _ _ (hb6) (isfst_of hO6 hkl)
              | 7, _ =>
                refine StepOk.yes _ 65 rfl rfl rfl rfl (fun _ _ h => h) [(64, some 6)] (by kernel_rfl) (fun af wf hbw hf Kf hKf => ?_)
                obtain ⟨g64, _⟩ := hf
                have g64 : IsFst (1 + k) (headL C es) (af.tmps[64]?.getD undef) wf := g64
                obtain ⟨b64, o64, c64, A64, ca64, h64, hb64, hc64, hR64, hn64, hm64⟩ := g64
                have n7 : (0 : Int) < 1 + (k : Int) := by omega
                go_simp
                exact hKf _ _ (Below.refl _ _) (⟨b64, o64, A64, ca64, rfl, hb64, hc64, hR64, hn64, hm64⟩)
              | 8, _ =>
                refine StepOk.yes _ 66 rfl rfl rfl rfl (fun _ _ h => h) [(65, some 7)] (by kernel_rfl) (fun af wf hbw hf Kf hKf => ?_)
                obtain ⟨g65, _⟩ := hf
                have g65 : IsPtr (headL C es) (af.tmps[65]?.getD undef) wf := g65
                obtain ⟨b65, o65, A65, ca65, h65, hb65, hc65, hR65, hn65, hm65⟩ := g65
                have cB0 := (Blk.on (Blk.drew (hBL)) hbw).cell
                have cB1 := (Blk.on (Blk.drew (hG)) hbw).cell
                go_simp
                exact hKf _ _ (Below.refl _ _) (⟨A65, ca65, rfl, hR65, hn65, hm65⟩)
              | 9, _ =>
                refine StepOk.yes _ 67 rfl rfl rfl rfl (fun _ _ h => h) [(66, some 8)] (by kernel_rfl) (fun af wf hbw hf Kf hKf => ?_)
                obtain ⟨g66, _⟩ := hf
                obtain ⟨A66, c66, h66, hR66, hn66, hm66⟩ : IsB (256) (headL C es) (af.tmps[66]?.getD undef) wf := g66
                have hcv := conv c66 _ hR66
                go_simp
                exact hKf _ _ (Below.refl _ _) rfl
              | 10, _ =>
                refine StepOk.yes _ 68 rfl rfl rfl rfl (fun _ _ h => h) [(1, none)] (by kernel_rfl) (fun af wf hbw hf Kf hKf => ?_)
                obtain ⟨g1, _⟩ := hf
                have h1 : af.tmps[1]?.getD undef = .slice (some ⟨bl, off, none⟩) n c := g1
                clear g1
                go_simp
                exact hKf _ _ (Below.refl _ _) rfl
              | 11, _ =>
                refine StepOk.yes _ 69 rfl rfl rfl rfl (fun _ _ h => h) [(68, some 10)] (by kernel_rfl) (fun af wf hbw hf Kf hKf => ?_)
                obtain ⟨g68, _⟩ := hf
                have h68 : af.tmps[68]?.getD undef = .slice (some ⟨bl, off, none⟩) n c := g68
                clear g68
                go_simp
                exact hKf _ _ (Below.refl _ _) rfl
              | 12, _ =>
                refine StepOk.yes _ 70 rfl rfl rfl rfl (fun _ _ h => h) [(69, some 11)] (by kernel_rfl) (fun af wf hbw hf Kf hKf => ?_)
                obtain ⟨g69, _⟩ := hf
                have h69 : af.tmps[69]?.getD undef = .pointer (some ⟨bl, off, none⟩) := g69
                clear g69
                have cB0 := (Blk.on (Blk.drew (hBL)) hbw).cell
                have cB1 := (Blk.on (Blk.drew (hG)) hbw).cell
                have hcx := (Below.cell (p := ⟨bl, off, none⟩) hbw hbl2).trans hck0
                go_simp
                exact hKf _ _ (Below.refl _ _) (⟨_, _, rfl, Rd.below (Rd.drew hR0w) hbw, hc00, hm01⟩)
              | 13, _ =>
                refine StepOk.yes _ 71 rfl rfl rfl rfl (fun _ _ h => h) [(70, some 12)] (by kernel_rfl) (fun af wf hbw hf Kf hKf => ?_)
                obtain ⟨g70, _⟩ := hf
                obtain ⟨A70, c70, h70, hR70, hn70, hm70⟩ : IsB (256) (b) (af.tmps[70]?.getD undef) wf := g70
                have hcv := conv c70 _ hR70
                go_simp
                exact hKf _ _ (Below.refl _ _) rfl
              | 14, _ =>
                refine StepOk.yes _ 72 rfl rfl rfl rfl (fun _ _ h => h) [(67, some 9), (71, some 13)] (by kernel_rfl) (fun af wf hbw hf Kf hKf => ?_)
                obtain ⟨g67, g71, _⟩ := hf
                have h67 : af.tmps[67]?.getD undef = .string (str (headL C es)) := g67
                have h71 : af.tmps[71]?.getD undef = .string (str (b)) := g71
                clear g67 g71
                have hqs := HD.out
                go_simp
                exact hKf _ _ (Below.refl _ _) rfl
              | 15, _ =>
                refine StepOk.plain _ 73 rfl rfl rfl [(62, some 4), (72, some 14)] (by kernel_rfl) (fun af wf hbw hf Kf hKf => ?_)
                obtain ⟨g62, g72, _⟩ := hf
                have h62 : af.tmps[62]?.getD undef = .bool false := g62
                have h72 : af.tmps[72]?.getD undef = .bool true := g72
                clear g62 g72
                go_simp
                exact hKf _ _ (Below.refl _ _) rfl
              | i + 16, h => exact absurd h (by show ¬ (i + 16 < 16); omega)
            · intro af wF hbF hdF hsF hbaseF hfactF
              obtain ⟨T, dsF⟩ := af
              obtain rfl : dsF = _ := hdF
              have e0 := hbaseF 0 (not_dst (by kernel_rfl))
              simp only [List.getElem?_toArray, List.getElem?_cons_zero, Option.getD_some] at e0
              have e1 := hbaseF 1 (not_dst (by kernel_rfl))
              simp only [List.getElem?_toArray, List.getElem?_cons_zero, List.getElem?_cons_succ, Option.getD_some] at e1
              have e2 := hbaseF 2 (not_dst (by kernel_rfl))
              simp only [List.getElem?_toArray, List.getElem?_cons_zero, List.getElem?_cons_succ, Option.getD_some] at e2
              have e3 := hbaseF 3 (not_dst (by kernel_rfl))
              simp only [List.getElem?_toArray, List.getElem?_cons_zero, List.getElem?_cons_succ, Option.getD_some] at e3
              have e4 := hbaseF 4 (not_dst (by kernel_rfl))
              simp only [List.getElem?_toArray, List.getElem?_cons_zero, List.getElem?_cons_succ, Option.getD_some] at e4
              have e5 := hbaseF 5 (not_dst (by kernel_rfl))
              simp only [List.getElem?_toArray, List.getElem?_cons_zero, List.getElem?_cons_succ, Option.getD_some] at e5
              have e6 := hbaseF 6 (not_dst (by kernel_rfl))
              simp only [List.getElem?_toArray, List.getElem?_cons_zero, List.getElem?_cons_succ, Option.getD_some] at e6
              have e7 := hbaseF 7 (not_dst (by kernel_rfl))
              simp only [List.getElem?_toArray, List.getElem?_cons_zero, List.getElem?_cons_succ, Option.getD_some] at e7
              have e8 := hbaseF 8 (not_dst (by kernel_rfl))
              simp only [List.getElem?_toArray, List.getElem?_cons_zero, List.getElem?_cons_succ, Option.getD_some] at e8
              have e9 := hbaseF 9 (not_dst (by kernel_rfl))
              simp only [List.getElem?_toArray, List.getElem?_cons_zero, List.getElem?_cons_succ, Option.getD_some] at e9
              have e10 := hbaseF 10 (not_dst (by kernel_rfl))
              simp only [List.getElem?_toArray, List.getElem?_cons_zero, List.getElem?_cons_succ, Option.getD_some] at e10
              have e11 := hbaseF 11 (not_dst (by kernel_rfl))
              simp only [List.getElem?_toArray, List.getElem?_cons_zero, List.getElem?_cons_succ, Option.getD_some] at e11
              have e12 := hbaseF 12 (not_dst (by kernel_rfl))
              simp only [List.getElem?_toArray, List.getElem?_cons_zero, List.getElem?_cons_succ, Option.getD_some] at e12
              have e13 := hbaseF 13 (not_dst (by kernel_rfl))
              simp only [List.getElem?_toArray, List.getElem?_cons_zero, List.getElem?_cons_succ, Option.getD_some] at e13
              have e14 := hbaseF 14 (not_dst (by kernel_rfl))
              simp only [List.getElem?_toArray, List.getElem?_cons_zero, List.getElem?_cons_succ, Option.getD_some] at e14
              have e15 := hbaseF 15 (not_dst (by kernel_rfl))
              simp only [List.getElem?_toArray, List.getElem?_cons_zero, List.getElem?_cons_succ, Option.getD_some] at e15
              have e16 := hbaseF 16 (not_dst (by kernel_rfl))
              simp only [List.getElem?_toArray, List.getElem?_cons_zero, List.getElem?_cons_succ, Option.getD_some] at e16
              have e17 := hbaseF 17 (not_dst (by kernel_rfl))
              simp only [List.getElem?_toArray, List.getElem?_cons_zero, List.getElem?_cons_succ, Option.getD_some] at e17
              have e18 := hbaseF 18 (not_dst (by kernel_rfl))
              simp only [List.getElem?_toArray, List.getElem?_cons_zero, List.getElem?_cons_succ, Option.getD_some] at e18
              have e19 := hbaseF 19 (not_dst (by kernel_rfl))
              simp only [List.getElem?_toArray, List.getElem?_cons_zero, List.getElem?_cons_succ, Option.getD_some] at e19
              have e20 := hbaseF 20 (not_dst (by kernel_rfl))
              simp only [List.getElem?_toArray, List.getElem?_cons_zero, List.getElem?_cons_succ, Option.getD_some] at e20
              have e21 := hbaseF 21 (not_dst (by kernel_rfl))
              simp only [List.getElem?_toArray, List.getElem?_cons_zero, List.getElem?_cons_succ, Option.getD_some] at e21
              have e22 := hbaseF 22 (not_dst (by kernel_rfl))
              simp only [List.getElem?_toArray, List.getElem?_cons_zero, List.getElem?_cons_succ, Option.getD_some] at e22
              have e23 := hbaseF 23 (not_dst (by kernel_rfl))
              simp only [List.getElem?_toArray, List.getElem?_cons_zero, List.getElem?_cons_succ, Option.getD_some] at e23
              have e24 := hbaseF 24 (not_dst (by kernel_rfl))
              simp only [List.getElem?_toArray, List.getElem?_cons_zero, List.getElem?_cons_succ, Option.getD_some] at e24
              have e25 := hbaseF 25 (not_dst (by kernel_rfl))
              simp only [List.getElem?_toArray, List.getElem?_cons_zero, List.getElem?_cons_succ, Option.getD_some] at e25
              have e26 := hbaseF 26 (not_dst (by kernel_rfl))
              simp only [List.getElem?_toArray, List.getElem?_cons_zero, List.getElem?_cons_succ, Option.getD_some] at e26
              have e27 := hbaseF 27 (not_dst (by kernel_rfl))
              simp only [List.getElem?_toArray, List.getElem?_cons_zero, List.getElem?_cons_succ, Option.getD_some] at e27
              have e28 := hbaseF 28 (not_dst (by kernel_rfl))
              simp only [List.getElem?_toArray, List.getElem?_cons_zero, List.getElem?_cons_succ, Option.getD_some] at e28
              have e29 := hbaseF 29 (not_dst (by kernel_rfl))
              simp only [List.getElem?_toArray, List.getElem?_cons_zero, List.getElem?_cons_succ, Option.getD_some] at e29
              have e30 := hbaseF 30 (not_dst (by kernel_rfl))
              simp only [List.getElem?_toArray, List.getElem?_cons_zero, List.getElem?_cons_succ, Option.getD_some] at e30
              have e31 := hbaseF 31 (not_dst (by kernel_rfl))
              simp only [List.getElem?_toArray, List.getElem?_cons_zero, List.getElem?_cons_succ, Option.getD_some] at e31
              have e32 := hbaseF 32 (not_dst (by kernel_rfl))
              simp only [List.getElem?_toArray, List.getElem?_cons_zero, List.getElem?_cons_succ, Option.getD_some] at e32
              have e33 := hbaseF 33 (not_dst (by kernel_rfl))
              simp only [List.getElem?_toArray, List.getElem?_cons_zero, List.getElem?_cons_succ, Option.getD_some] at e33
              have e34 := hbaseF 34 (not_dst (by kernel_rfl))
              simp only [List.getElem?_toArray, List.getElem?_cons_zero, List.getElem?_cons_succ, Option.getD_some] at e34
              have e35 := hbaseF 35 (not_dst (by kernel_rfl))
              simp only [List.getElem?_toArray, List.getElem?_cons_zero, List.getElem?_cons_succ, Option.getD_some] at e35
              have e36 := hbaseF 36 (not_dst (by kernel_rfl))
              simp only [List.getElem?_toArray, List.getElem?_cons_zero, List.getElem?_cons_succ, Option.getD_some] at e36
              have e37 := hbaseF 37 (not_dst (by kernel_rfl))
              simp only [List.getElem?_toArray, List.getElem?_cons_zero, List.getElem?_cons_succ, Option.getD_some] at e37
              have e38 := hbaseF 38 (not_dst (by kernel_rfl))
              simp only [List.getElem?_toArray, List.getElem?_cons_zero, List.getElem?_cons_succ, Option.getD_some] at e38
              have e39 := hbaseF 39 (not_dst (by kernel_rfl))
              simp only [List.getElem?_toArray, List.getElem?_cons_zero, List.getElem?_cons_succ, Option.getD_some] at e39
              have e40 := hbaseF 40 (not_dst (by kernel_rfl))
              simp only [List.getElem?_toArray, List.getElem?_cons_zero, List.getElem?_cons_succ, Option.getD_some] at e40
              have e41 := hbaseF 41 (not_dst (by kernel_rfl))
              simp only [List.getElem?_toArray, List.getElem?_cons_zero, List.getElem?_cons_succ, Option.getD_some] at e41
              have e42 := hbaseF 42 (not_dst (by kernel_rfl))
              simp only [List.getElem?_toArray, List.getElem?_cons_zero, List.getElem?_cons_succ, Option.getD_some] at e42
              have e43 := hbaseF 43 (not_dst (by kernel_rfl))
              simp only [List.getElem?_toArray, List.getElem?_cons_zero, List.getElem?_cons_succ, Option.getD_some] at e43
              have e44 := hbaseF 44 (not_dst (by kernel_rfl))
              simp only [List.getElem?_toArray, List.getElem?_cons_zero, List.getElem?_cons_succ, Option.getD_some] at e44
              have e45 := hbaseF 45 (not_dst (by kernel_rfl))
              simp only [List.getElem?_toArray, List.getElem?_cons_zero, List.getElem?_cons_succ, Option.getD_some] at e45
              have e46 := hbaseF 46 (not_dst (by kernel_rfl))
              simp only [List.getElem?_toArray, List.getElem?_cons_zero, List.getElem?_cons_succ, Option.getD_some] at e46
              have e47 := hbaseF 47 (not_dst (by kernel_rfl))
              simp only [List.getElem?_toArray, List.getElem?_cons_zero, List.getElem?_cons_succ, Option.getD_some] at e47
              have e48 := hbaseF 48 (not_dst (by kernel_rfl))
              simp only [List.getElem?_toArray, List.getElem?_cons_zero, List.getElem?_cons_succ, Option.getD_some] at e48
              have e49 := hbaseF 49 (not_dst (by kernel_rfl))
              simp only [List.getElem?_toArray, List.getElem?_cons_zero, List.getElem?_cons_succ, Option.getD_some] at e49
              have e50 := hbaseF 50 (not_dst (by kernel_rfl))
              simp only [List.getElem?_toArray, List.getElem?_cons_zero, List.getElem?_cons_succ, Option.getD_some] at e50
              have e51 := hbaseF 51 (not_dst (by kernel_rfl))
              simp only [List.getElem?_toArray, List.getElem?_cons_zero, List.getElem?_cons_succ, Option.getD_some] at e51
              have e52 := hbaseF 52 (not_dst (by kernel_rfl))
              simp only [List.getElem?_toArray, List.getElem?_cons_zero, List.getElem?_cons_succ, Option.getD_some] at e52
              have e53 := hbaseF 53 (not_dst (by kernel_rfl))
              simp only [List.getElem?_toArray, List.getElem?_cons_zero, List.getElem?_cons_succ, Option.getD_some] at e53
              have e54 := hbaseF 54 (not_dst (by kernel_rfl))
              simp only [List.getElem?_toArray, List.getElem?_cons_zero, List.getElem?_cons_succ, Option.getD_some] at e54
              have e55 := hbaseF 55 (not_dst (by kernel_rfl))
              simp only [List.getElem?_toArray, List.getElem?_cons_zero, List.getElem?_cons_succ, Option.getD_some] at e55
              have e56 := hbaseF 56 (not_dst (by kernel_rfl))
              simp only [List.getElem?_toArray, List.getElem?_cons_zero, List.getElem?_cons_succ, Option.getD_some] at e56
              have e57 := hbaseF 57 (not_dst (by kernel_rfl))
              simp only [List.getElem?_toArray, List.getElem?_cons_zero, List.getElem?_cons_succ, Option.getD_some] at e57
              have e74 := hbaseF 74 (not_dst (by kernel_rfl))
              simp only [List.getElem?_toArray, List.getElem?_cons_zero, List.getElem?_cons_succ, Option.getD_some] at e74
              have e75 := hbaseF 75 (not_dst (by kernel_rfl))
              simp only [List.getElem?_toArray, List.getElem?_cons_zero, List.getElem?_cons_succ, Option.getD_some] at e75
              have e73 := hfactF 15 73 (by decide) rfl
              replace e73 : T[73]?.getD undef = .bool true := e73
              clear hbaseF hfactF
              have hT : T = #[T[0]?.getD undef, T[1]?.getD undef, T[2]?.getD undef, T[3]?.getD undef, T[4]?.getD undef, T[5]?.getD undef, T[6]?.getD undef, T[7]?.getD undef, T[8]?.getD undef, T[9]?.getD undef, T[10]?.getD undef, T[11]?.getD undef, T[12]?.getD undef, T[13]?.getD undef, T[14]?.getD undef, T[15]?.getD undef, T[16]?.getD undef, T[17]?.getD undef, T[18]?.getD undef, T[19]?.getD undef, T[20]?.getD undef, T[21]?.getD undef, T[22]?.getD undef, T[23]?.getD undef, T[24]?.getD undef, T[25]?.getD undef, T[26]?.getD undef, T[27]?.getD undef, T[28]?.getD undef, T[29]?.getD undef, T[30]?.getD undef, T[31]?.getD undef, T[32]?.getD undef, T[33]?.getD undef, T[34]?.getD undef, T[35]?.getD undef, T[36]?.getD undef, T[37]?.getD undef, T[38]?.getD undef, T[39]?.getD undef, T[40]?.getD undef, T[41]?.getD undef, T[42]?.getD undef, T[43]?.getD undef, T[44]?.getD undef, T[45]?.getD undef, T[46]?.getD undef, T[47]?.getD undef, T[48]?.getD undef, T[49]?.getD undef, T[50]?.getD undef, T[51]?.getD undef, T[52]?.getD undef, T[53]?.getD undef, T[54]?.getD undef, T[55]?.getD undef, T[56]?.getD undef, T[57]?.getD undef, T[58]?.getD undef, T[59]?.getD undef, T[60]?.getD undef, T[61]?.getD undef, T[62]?.getD undef, T[63]?.getD undef, T[64]?.getD undef, T[65]?.getD undef, T[66]?.getD undef, T[67]?.getD undef, T[68]?.getD undef, T[69]?.getD undef, T[70]?.getD undef, T[71]?.getD undef, T[72]?.getD undef, T[73]?.getD undef, T[74]?.getD undef, T[75]?.getD undef] := arr_eq T 76 hsF
              clear hsF
              rw [e0] at hT; clear e0
              rw [e1] at hT; clear e1
              rw [e2] at hT; clear e2
              rw [e3] at hT; clear e3
              rw [e4] at hT; clear e4
              rw [e5] at hT; clear e5
              rw [e6] at hT; clear e6
              rw [e7] at hT; clear e7
              rw [e8] at hT; clear e8
              rw [e9] at hT; clear e9
              rw [e10] at hT; clear e10
              rw [e11] at hT; clear e11
              rw [e12] at hT; clear e12
              rw [e13] at hT; clear e13
              rw [e14] at hT; clear e14
              rw [e15] at hT; clear e15
              rw [e16] at hT; clear e16
              rw [e17] at hT; clear e17
              rw [e18] at hT; clear e18
              rw [e19] at hT; clear e19
              rw [e20] at hT; clear e20
              rw [e21] at hT; clear e21
              rw [e22] at hT; clear e22
              rw [e23] at hT; clear e23
              rw [e24] at hT; clear e24
              rw [e25] at hT; clear e25
              rw [e26] at hT; clear e26
              rw [e27] at hT; clear e27
              rw [e28] at hT; clear e28
              rw [e29] at hT; clear e29
              rw [e30] at hT; clear e30
              rw [e31] at hT; clear e31
              rw [e32] at hT; clear e32
              rw [e33] at hT; clear e33
              rw [e34] at hT; clear e34
              rw [e35] at hT; clear e35
              rw [e36] at hT; clear e36
              rw [e37] at hT; clear e37
              rw [e38] at hT; clear e38
              rw [e39] at hT; clear e39
              rw [e40] at hT; clear e40
              rw [e41] at hT; clear e41
              rw [e42] at hT; clear e42
              rw [e43] at hT; clear e43
              rw [e44] at hT; clear e44
              rw [e45] at hT; clear e45
              rw [e46] at hT; clear e46
              rw [e47] at hT; clear e47
              rw [e48] at hT; clear e48
              rw [e49] at hT; clear e49
              rw [e50] at hT; clear e50
              rw [e51] at hT; clear e51
              rw [e52] at hT; clear e52
              rw [e53] at hT; clear e53
              rw [e54] at hT; clear e54
              rw [e55] at hT; clear e55
              rw [e56] at hT; clear e56
              rw [e57] at hT; clear e57
              generalize T[58]?.getD undef = u58 at hT
              generalize T[59]?.getD undef = u59 at hT
              generalize T[60]?.getD undef = u60 at hT
              generalize T[61]?.getD undef = u61 at hT
              generalize T[62]?.getD undef = u62 at hT
              generalize T[63]?.getD undef = u63 at hT
              generalize T[64]?.getD undef = u64 at hT
              generalize T[65]?.getD undef = u65 at hT
              generalize T[66]?.getD undef = u66 at hT
              generalize T[67]?.getD undef = u67 at hT
              generalize T[68]?.getD undef = u68 at hT
              generalize T[69]?.getD undef = u69 at hT
              generalize T[70]?.getD undef = u70 at hT
              generalize T[71]?.getD undef = u71 at hT
              generalize T[72]?.getD undef = u72 at hT
              rw [e73] at hT; clear e73
              rw [e74] at hT; clear e74
              rw [e75] at hT; clear e75
              subst hT
              have R1 := hR.on hbF
              have bF : Below w.heap.size w wF := hbel.trans (hbF.mono hbz)
              have c7 := R1.cell
              have f7 := R1.frozen
              have z7 := R1.lt
              have e0 := (R1.set_ 0 (.int .u64 0)).cell 0
              have e1 := ((R1.set_ 0 (.int .u64 0)).set_ 1 (.slice none 0 0)).cell 1
              have e2 := ((R1.set_ 0 (.int .u64 0)).set_ 1 (.slice none 0 0)).cell 0
              simp at e0 e1 e2
              go_wp2_with fail
              refine bodyPost_ret (v := .tuple #[.agg #[.int .u64 0, .slice none 0 0], .bool false]) (by simp [results, Try.results55, go_sem, e0, e1, e2]) rfl ⟨.slice none 0 0, ?_, ?_, (by (have q_bF := Below.size bF; (try simp at q_bF); repeat (first | exact Below.refl _ _ | (refine Below.trans ?_ (Below.mono bF (by first | omega | (simp; omega) | simp))) | (refine Below.setCell ?_ (by first | omega | (simp; omega) | simp) _) | (refine Below.alloc ?_ (by first | omega | (simp; omega) | simp) _) | apply Below.drew | apply below_drewN)))⟩
              · unfold parC
                rw [if_neg (by rw [hno.out]; simp), hno.out]
              · unfold parS
                rw [if_neg (by rw [hno.out]; simp)]
                exact OwnR.nil _
  · have hno := Lib.hid (show goodL p t b bs = false by
      unfold goodL
      rw [← HNB.out, decide_eq_false_iff_not]
      rintro ⟨h1, h2, _⟩
      have h4 := HTN.out
      have h3 := (mayLog_true h2).2.1
      rw [esB_len] at h3
      omega)
    have bF := bc
    by_cases h0 : N < 1
    · have q1 : ((N : Int) < 1) := by omega
      have c7 := R1.cell
      have f7 := R1.frozen
      have z7 := R1.lt
      have e0 := (R1.set_ 0 (.int .u64 0)).cell 0
      have e1 := ((R1.set_ 0 (.int .u64 0)).set_ 1 (.slice none 0 0)).cell 1
      have e2 := ((R1.set_ 0 (.int .u64 0)).set_ 1 (.slice none 0 0)).cell 0
      simp at e0 e1 e2
      go_wp2_with fail
      refine bodyPost_ret (v := .tuple #[.agg #[.int .u64 0, .slice none 0 0], .bool false]) (by simp [results, Try.results55, go_sem, e0, e1, e2]) rfl ⟨.slice none 0 0, ?_, ?_, (by (have q_bF := Below.size bF; (try simp at q_bF); repeat (first | exact Below.refl _ _ | (refine Below.trans ?_ (Below.mono bF (by first | omega | (simp; omega) | simp))) | (refine Below.setCell ?_ (by first | omega | (simp; omega) | simp) _) | (refine Below.alloc ?_ (by first | omega | (simp; omega) | simp) _) | apply Below.drew | apply below_drewN)))⟩
      · unfold parC
        rw [if_neg (by rw [hno.out]; simp), hno.out]
      · unfold parS
        rw [if_neg (by rw [hno.out]; simp)]
        exact OwnR.nil _
    · have q1 : ¬ ((N : Int) < 1) := by omega
      have q2 : (t < N) := by have := HTN.out; omega
      have c7 := R1.cell
      have f7 := R1.frozen
      have z7 := R1.lt
      have e0 := (R1.set_ 0 (.int .u64 0)).cell 0
      have e1 := ((R1.set_ 0 (.int .u64 0)).set_ 1 (.slice none 0 0)).cell 1
      have e2 := ((R1.set_ 0 (.int .u64 0)).set_ 1 (.slice none 0 0)).cell 0
      simp at e0 e1 e2
      go_wp2_with fail
      refine bodyPost_ret (v := .tuple #[.agg #[.int .u64 0, .slice none 0 0], .bool false]) (by simp [results, Try.results55, go_sem, e0, e1, e2]) rfl ⟨.slice none 0 0, ?_, ?_, (by (have q_bF := Below.size bF; (try simp at q_bF); repeat (first | exact Below.refl _ _ | (refine Below.trans ?_ (Below.mono bF (by first | omega | (simp; omega) | simp))) | (refine Below.setCell ?_ (by first | omega | (simp; omega) | simp) _) | (refine Below.alloc ?_ (by first | omega | (simp; omega) | simp) _) | apply Below.drew | apply below_drewN)))⟩
      · unfold parC
        rw [if_neg (by rw [hno.out]; simp), hno.out]
      · unfold parS
        rw [if_neg (by rw [hno.out]; simp)]
        exact OwnR.nil _
end Go.Proofs.Ythepgnankelmeaa
