/- Logs: the first block. -/
import Derived.Test.YthepgnankelmeaaLog4
import Derived.Test.YthepgnankelmeaaSuper3
namespace Go.Proofs.Ythepgnankelmeaa
open Go.RowKit

/-- A row of the call's own, longer than any constant that is marked. -/
def IsOwn16 (T : TypeId) (B n : Nat) (l : List UInt8) (v : Value) (w : World) : Prop := 16 ≤ n ∧ ∃ A c, v = .slice A n c ∧ Fresh T B w (.slice A n c) l ∧ n ≤ c ∧ c ≤ maxLen
theorem StabM.own16 (T : TypeId) (B n : Nat) (l : List UInt8) : StabM B (IsOwn16 T B n l) := by
  rintro v w w' hb ⟨h16, A, c, e, hF, hn, hm⟩
  refine ⟨h16, A, c, e, ?_, hn, hm⟩
  rcases hb with hb | ⟨g, hg, hk⟩
  · exact hF.below hb
  · obtain ⟨A', c', e', hown⟩ := hF
    injection e' with e1 e2 e3
    subst e1 e3
    refine ⟨A, c, by rw [e2], ?_⟩
    rcases hown.2 with ⟨h0, _⟩ | ⟨g', cap, cur, h0, hg', hh, hnc, hcm, hsz, hx⟩
    · injection h0 with _ h0 _; omega
    · refine ⟨hown.1, .inr ⟨g', cap, cur, h0, hg', ?_, hnc, hcm, hsz, hx⟩⟩
      rw [hk.far g' ?_]
      · exact hh
      · intro e
        subst e
        have := hk.small _ _ _ hh
        have h2 : cur.size = cap * 1 := hsz
        omega
theorem own16_of {T : TypeId} {B n : Nat} {l : List UInt8} {v : Value} {w : World} (h : Fresh T B w v l) (hn : l.length = n) (h16 : 16 ≤ n := by omega) : IsOwn16 T B n l v w := by
  obtain ⟨A, c, e, _, _, h1, h2⟩ := h.rdn n hn
  exact ⟨h16, A, c, e, e ▸ h, h1, h2⟩
def markR : List UInt8 := [82, 69, 68, 79, 45, 76, 79, 71]
def headParts (cnt : Int) (n : Nat) : List (List UInt8) := [markR, putL 8 cnt, putL 2 (n : Int)]
def numsE (es : List Ent) : List UInt8 := es.flatMap fun e => putL 2 e.1
def headL (cnt : Int) (es : List Ent) : List UInt8 := padL 256 ((headParts cnt es.length).flatten ++ numsE es)
theorem headParts_len (cnt : Int) (n : Nat) : (headParts cnt n).flatten.length = 18 := by simp [headParts, markR, putL_len]
theorem numsE_snoc (es : List Ent) (e : Ent) : numsE (es ++ [e]) = numsE es ++ putL 2 e.1 := by simp [numsE]
theorem numsE_len (es : List Ent) : (numsE es).length = 2 * es.length := by
  unfold numsE
  induction es with
  | nil => rfl
  | cons e es ih => rw [List.flatMap_cons, List.length_append, ih, putL_len, List.length_cons]; omega
theorem headL_eq {cnt : Int} {es : List Ent} {n : Nat} (h : es.length = n) : padL 256 ((headParts cnt n).flatten ++ numsE es) = headL cnt es := by subst h; rfl
theorem headL_len (cnt : Int) (es : List Ent) : (headL cnt es).length = 256 := padL_len _ _

set_option maxRecDepth 100000 in
set_option maxHeartbeats 8000000 in
theorem lhead_any (cnt : Int) (A : Option Addr) (n c B : Nat) (Tb : TypeId) (es : List Ent) (w : World) (hr : RdR entK B Tb w A n es) (hn : n ≤ 100) (hc0 : 0 ≤ cnt) (hc1 : cnt ≤ 18446744073709551615) (hk : ∀ e ∈ es, 0 ≤ e.1 ∧ e.1 ≤ 65535) :
    Calls Try.prog 76 #[.agg #[.int .u64 cnt, .slice A n c]] w (Gives 5 w (headL cnt es)) := by
  have hlen := hr.len
  have hpl := Lib.hid (headParts_len cnt n)
  have HK := Lib.hid hk
  clear hk
  obtain ⟨w1, hw1⟩ : ∃ w1, w1 = w.alloc (.cells #[.int .u64 cnt, .slice A n c] 56) := ⟨_, rfl⟩
  have B1 : Blk w1 w.heap.size 56 #[.int .u64 cnt, .slice A n c] := hw1 ▸ Blk.new _ _ _
  have b1 : Below w.heap.size w w1 := hw1 ▸ (by (repeat (first | exact Below.refl _ _ | (refine Below.setCell ?_ (by first | omega | (simp; omega) | simp) _) | (refine Below.alloc ?_ (by first | omega | (simp; omega) | simp) _) | apply Below.drew | apply below_drewN)))
  have hz1 := B1.lt
  go_enter Try.func76, Try.ntmps76
  go_wp2_with fail
  rw [← hw1]
  clear hw1
  obtain ⟨G, hG⟩ : ∃ G, G = w.heap.size := ⟨_, rfl⟩
  have HG := Lib.hid hG
  rw [← hG] at B1 hz1 ⊢
  clear hG
  refine wp_flm [(IsConst w1.heap.size 5 8 markR), (IsB (8) (markR)), (fun y_ _ => y_ = .pointer (some ⟨G, 0, none⟩)), (fun y_ _ => y_ = .int .u64 cnt), (IsB (8) (putL 8 cnt)), (fun y_ _ => y_ = .pointer (some ⟨G, 1, none⟩)), (fun y_ _ => y_ = .slice A n c), (fun y_ _ => y_ = .int .i64 (n : Int)), (fun y_ _ => y_ = .int .u64 (n : Int)), (IsB (2) (putL 2 (n : Int))), (IsSS 3 (headParts cnt n)), (IsOwn16 5 w1.heap.size 18 (headParts cnt n).flatten), (IsOwn16 5 w1.heap.size 18 (headParts cnt n).flatten)] (by kernel_rfl) ⟨StabM.const _ _ _ _, StabM.b _ _ _, StabM.eq _ _, StabM.eq _ _, StabM.b _ _ _, StabM.eq _ _, StabM.eq _ _, StabM.eq _ _, StabM.eq _ _, StabM.b _ _ _, StabM.ss _ _ _, StabM.own16 _ _ _ _, StabM.own16 _ _ _ _, trivial⟩ (by kernel_rfl) (by rfl) ?_ ?_
  · intro kq hkq
    match kq, hkq with
    | 0, _ =>
      refine StepM.plain _ 6 rfl rfl rfl [] (by kernel_rfl) (fun af wf hbw hf Kf hKf => ?_)
      go_simp
      exact hKf _ _ (.inl ((Below.refl _ _).alloc (Nat.le_refl _) _)) (⟨wf.heap.size, (0, 0), rfl, hbw.size, Blk.new _ _ _, by simp⟩)
    | 1, _ =>
      refine StepM.plain _ 7 rfl rfl rfl [(6, some 0)] (by kernel_rfl) (fun af wf hbw hf Kf hKf => ?_)
      obtain ⟨g6, _⟩ := hf
      have g6 : (IsConst w1.heap.size 5 8 markR) (af.tmps[6]?.getD undef) wf := g6
      obtain ⟨g6, f6, h6, hg6, hh6, hl6⟩ := g6
      have hcvt := run_mark (P := Try.prog) (n := 8) (c := 8) Try.underlying39 Try.underlying5 hh6
      go_simp
      exact hKf _ _ (.inr ⟨g6, hg6, Marked.freeze hh6 (by decide)⟩) (⟨_, _, rfl, Rd.ext (B := w1.heap.size) (rd_of_cells hh6 hl6 rfl) (.inr ⟨g6, hg6, Marked.freeze hh6 (by decide)⟩), by omega, by unfold maxLen; omega⟩)
    | 2, _ =>
      refine StepM.plain _ 8 rfl rfl rfl [(1, none)] (by kernel_rfl) (fun af wf hbw hf Kf hKf => ?_)
      obtain ⟨g1, _⟩ := hf
      have h1 : af.tmps[1]?.getD undef = .pointer (some ⟨G, 0, none⟩) := g1
      clear g1
      go_simp
      exact hKf _ _ (.inl (Below.refl _ _)) rfl
    | 3, _ =>
      refine StepM.plain _ 9 rfl rfl rfl [(8, some 2)] (by kernel_rfl) (fun af wf hbw hf Kf hKf => ?_)
      obtain ⟨g8, _⟩ := hf
      have h8 : af.tmps[8]?.getD undef = .pointer (some ⟨G, 0, none⟩) := g8
      clear g8
      have cB0 := (Blk.on (Blk.drew (B1)) hbw).cell
      go_simp
      exact hKf _ _ (.inl (Below.refl _ _)) rfl
    | 4, _ =>
      refine StepM.plain _ 10 rfl rfl rfl [(9, some 3)] (by kernel_rfl) (fun af wf hbw hf Kf hKf => ?_)
      obtain ⟨g9, _⟩ := hf
      have h9 : af.tmps[9]?.getD undef = .int .u64 cnt := g9
      clear g9
      go_simp
      refine (put_any 8 cnt _ (by omega) (by omega) hc0 hc1).mono ?_
      rintro e wN ⟨r, rfl, hF, hb⟩
      exact hKf _ _ (.inl (hb)) (IsB.of hF (putL_len _ _))
    | 5, _ =>
      refine StepM.plain _ 11 rfl rfl rfl [(1, none)] (by kernel_rfl) (fun af wf hbw hf Kf hKf => ?_)
      obtain ⟨g1, _⟩ := hf
      have h1 : af.tmps[1]?.getD undef = .pointer (some ⟨G, 0, none⟩) := g1
      clear g1
      go_simp
      exact hKf _ _ (.inl (Below.refl _ _)) rfl
    | 6, _ =>
      refine StepM.plain _ 12 rfl rfl rfl [(11, some 5)] (by kernel_rfl) (fun af wf hbw hf Kf hKf => ?_)
      obtain ⟨g11, _⟩ := hf
      have h11 : af.tmps[11]?.getD undef = .pointer (some ⟨G, 1, none⟩) := g11
      clear g11
      have cB0 := (Blk.on (Blk.drew (B1)) hbw).cell
      go_simp
      exact hKf _ _ (.inl (Below.refl _ _)) rfl
    | 7, _ =>
      refine StepM.plain _ 13 rfl rfl rfl [(12, some 6)] (by kernel_rfl) (fun af wf hbw hf Kf hKf => ?_)
      obtain ⟨g12, _⟩ := hf
      have h12 : af.tmps[12]?.getD undef = .slice A n c := g12
      clear g12
      go_simp
      exact hKf _ _ (.inl (Below.refl _ _)) rfl
    | 8, _ =>
      refine StepM.plain _ 14 rfl rfl rfl [(13, some 7)] (by kernel_rfl) (fun af wf hbw hf Kf hKf => ?_)
      obtain ⟨g13, _⟩ := hf
      have h13 : af.tmps[13]?.getD undef = .int .i64 (n : Int) := g13
      clear g13
      have hwu : IntKind.u64.wrap (n : Int) = n := by rw [IntKind.wrap_u64]; omega
      go_simp
      exact hKf _ _ (.inl (Below.refl _ _)) rfl
    | 9, _ =>
      refine StepM.plain _ 15 rfl rfl rfl [(14, some 8)] (by kernel_rfl) (fun af wf hbw hf Kf hKf => ?_)
      obtain ⟨g14, _⟩ := hf
      have h14 : af.tmps[14]?.getD undef = .int .u64 (n : Int) := g14
      clear g14
      go_simp
      refine (put_any 2 (n : Int) _ (by omega) (by omega) (by omega) (by omega)).mono ?_
      rintro e wN ⟨r, rfl, hF, hb⟩
      exact hKf _ _ (.inl (hb)) (IsB.of hF (putL_len _ _))
    | 10, _ =>
      refine StepM.plain _ 16 rfl rfl rfl [(7, some 1), (10, some 4), (15, some 9)] (by kernel_rfl) (fun af wf hbw hf Kf hKf => ?_)
      obtain ⟨g7, g10, g15, _⟩ := hf
      obtain ⟨A7, c7, h7, hR7, hn7, hm7⟩ : IsB (8) (markR) (af.tmps[7]?.getD undef) wf := g7
      obtain ⟨A10, c10, h10, hR10, hn10, hm10⟩ : IsB (8) (putL 8 cnt) (af.tmps[10]?.getD undef) wf := g10
      obtain ⟨A15, c15, h15, hR15, hn15, hm15⟩ : IsB (2) (putL 2 (n : Int)) (af.tmps[15]?.getD undef) wf := g15
      go_simp
      exact hKf _ _ (.inl ((Below.refl _ _).alloc (Nat.le_refl _) _)) (⟨_, _, rfl, RdSS.of_blk (Blk.new _ _ _) ⟨⟨_, _, _, rfl, hR7.alloc _, hn7, hm7⟩, ⟨_, _, _, rfl, hR10.alloc _, hn10, hm10⟩, ⟨_, _, _, rfl, hR15.alloc _, hn15, hm15⟩, trivial⟩ rfl, by omega, by unfold maxLen; omega⟩)
    | 11, _ =>
      refine StepM.plain _ 17 rfl rfl rfl [(16, some 10)] (by kernel_rfl) (fun af wf hbw hf Kf hKf => ?_)
      obtain ⟨g16, _⟩ := hf
      have g16 : (IsSS 3 (headParts cnt n)) (af.tmps[16]?.getD undef) wf := g16
      obtain ⟨A16, c16, h16, hS16, hn16, hm16⟩ := g16
      go_simp
      refine (concat_any _ 3 _ _ _ hS16 (by omega) (by rw [hpl.out]; omega)).mono ?_
      rintro e wN ⟨r, rfl, hF, hb⟩
      exact hKf _ _ (.inl (hb)) (own16_of (hF.from_ hbw.size) hpl.out)
    | 12, _ =>
      refine StepM.plain _ 3 rfl rfl rfl [(17, some 11)] (by kernel_rfl) (fun af wf hbw hf Kf hKf => ?_)
      obtain ⟨g17, _⟩ := hf
      have g17 : (IsOwn16 5 w1.heap.size 18 (headParts cnt n).flatten) (af.tmps[17]?.getD undef) wf := g17
      obtain ⟨h16_17, A17, c17, h17, hF17, hn17, hm17⟩ := g17
      go_simp
      exact hKf _ _ (.inl (Below.refl _ _)) (⟨h16_17, A17, c17, rfl, hF17, hn17, hm17⟩)
    | i + 13, h => exact absurd h (by show ¬ (i + 13 < 13); omega)
  · intro af wF hbF hdF hsF hbaseF hfactF
    obtain ⟨T, dsF⟩ := af
    obtain rfl : dsF = _ := hdF
    have e0 := hbaseF 0 (not_dst (by kernel_rfl))
    simp only [List.getElem?_toArray, List.getElem?_cons_zero, Option.getD_some] at e0
    have e1 := hbaseF 1 (not_dst (by kernel_rfl))
    simp only [List.getElem?_toArray, List.getElem?_cons_zero, List.getElem?_cons_succ, Option.getD_some] at e1
    have e2 := hbaseF 2 (not_dst (by kernel_rfl))
    simp only [List.getElem?_toArray, List.getElem?_cons_zero, List.getElem?_cons_succ, Option.getD_some] at e2
    have e4 := hbaseF 4 (not_dst (by kernel_rfl))
    simp only [List.getElem?_toArray, List.getElem?_cons_zero, List.getElem?_cons_succ, Option.getD_some] at e4
    have e5 := hbaseF 5 (not_dst (by kernel_rfl))
    simp only [List.getElem?_toArray, List.getElem?_cons_zero, List.getElem?_cons_succ, Option.getD_some] at e5
    have e18 := hbaseF 18 (not_dst (by kernel_rfl))
    simp only [List.getElem?_toArray, List.getElem?_cons_zero, List.getElem?_cons_succ, Option.getD_some] at e18
    have e19 := hbaseF 19 (not_dst (by kernel_rfl))
    simp only [List.getElem?_toArray, List.getElem?_cons_zero, List.getElem?_cons_succ, Option.getD_some] at e19
    have e20 := hbaseF 20 (not_dst (by kernel_rfl))
    simp only [List.getElem?_toArray, List.getElem?_cons_zero, List.getElem?_cons_succ, Option.getD_some] at e20
    have e21 := hbaseF 21 (not_dst (by kernel_rfl))
    simp only [List.getElem?_toArray, List.getElem?_cons_zero, List.getElem?_cons_succ, Option.getD_some] at e21
    have e22 := hbaseF 22 (not_dst (by kernel_rfl))
    simp only [List.getElem?_toArray, List.getElem?_cons_zero, List.getElem?_cons_succ, Option.getD_some] at e22
    have e23 := hbaseF 23 (not_dst (by kernel_rfl))
    simp only [List.getElem?_toArray, List.getElem?_cons_zero, List.getElem?_cons_succ, Option.getD_some] at e23
    have e24 := hbaseF 24 (not_dst (by kernel_rfl))
    simp only [List.getElem?_toArray, List.getElem?_cons_zero, List.getElem?_cons_succ, Option.getD_some] at e24
    have e25 := hbaseF 25 (not_dst (by kernel_rfl))
    simp only [List.getElem?_toArray, List.getElem?_cons_zero, List.getElem?_cons_succ, Option.getD_some] at e25
    have e26 := hbaseF 26 (not_dst (by kernel_rfl))
    simp only [List.getElem?_toArray, List.getElem?_cons_zero, List.getElem?_cons_succ, Option.getD_some] at e26
    have e27 := hbaseF 27 (not_dst (by kernel_rfl))
    simp only [List.getElem?_toArray, List.getElem?_cons_zero, List.getElem?_cons_succ, Option.getD_some] at e27
    have e28 := hbaseF 28 (not_dst (by kernel_rfl))
    simp only [List.getElem?_toArray, List.getElem?_cons_zero, List.getElem?_cons_succ, Option.getD_some] at e28
    have e29 := hbaseF 29 (not_dst (by kernel_rfl))
    simp only [List.getElem?_toArray, List.getElem?_cons_zero, List.getElem?_cons_succ, Option.getD_some] at e29
    have e30 := hbaseF 30 (not_dst (by kernel_rfl))
    simp only [List.getElem?_toArray, List.getElem?_cons_zero, List.getElem?_cons_succ, Option.getD_some] at e30
    have e31 := hbaseF 31 (not_dst (by kernel_rfl))
    simp only [List.getElem?_toArray, List.getElem?_cons_zero, List.getElem?_cons_succ, Option.getD_some] at e31
    have e32 := hbaseF 32 (not_dst (by kernel_rfl))
    simp only [List.getElem?_toArray, List.getElem?_cons_zero, List.getElem?_cons_succ, Option.getD_some] at e32
    have e33 := hbaseF 33 (not_dst (by kernel_rfl))
    simp only [List.getElem?_toArray, List.getElem?_cons_zero, List.getElem?_cons_succ, Option.getD_some] at e33
    have e3 := hfactF 12 3 (by decide) rfl
    replace e3 : (IsOwn16 5 w1.heap.size 18 (headParts cnt n).flatten) (T[3]?.getD undef) wF := e3
    clear hbaseF hfactF
    have hT : T = #[T[0]?.getD undef, T[1]?.getD undef, T[2]?.getD undef, T[3]?.getD undef, T[4]?.getD undef, T[5]?.getD undef, T[6]?.getD undef, T[7]?.getD undef, T[8]?.getD undef, T[9]?.getD undef, T[10]?.getD undef, T[11]?.getD undef, T[12]?.getD undef, T[13]?.getD undef, T[14]?.getD undef, T[15]?.getD undef, T[16]?.getD undef, T[17]?.getD undef, T[18]?.getD undef, T[19]?.getD undef, T[20]?.getD undef, T[21]?.getD undef, T[22]?.getD undef, T[23]?.getD undef, T[24]?.getD undef, T[25]?.getD undef, T[26]?.getD undef, T[27]?.getD undef, T[28]?.getD undef, T[29]?.getD undef, T[30]?.getD undef, T[31]?.getD undef, T[32]?.getD undef, T[33]?.getD undef] := arr_eq T 34 hsF
    clear hsF
    rw [e0] at hT; clear e0
    rw [e1] at hT; clear e1
    rw [e2] at hT; clear e2
    generalize T[3]?.getD undef = u3 at hT e3
    rw [e4] at hT; clear e4
    rw [e5] at hT; clear e5
    generalize T[6]?.getD undef = u6 at hT
    generalize T[7]?.getD undef = u7 at hT
    generalize T[8]?.getD undef = u8 at hT
    generalize T[9]?.getD undef = u9 at hT
    generalize T[10]?.getD undef = u10 at hT
    generalize T[11]?.getD undef = u11 at hT
    generalize T[12]?.getD undef = u12 at hT
    generalize T[13]?.getD undef = u13 at hT
    generalize T[14]?.getD undef = u14 at hT
    generalize T[15]?.getD undef = u15 at hT
    generalize T[16]?.getD undef = u16 at hT
    generalize T[17]?.getD undef = u17 at hT
    rw [e18] at hT; clear e18
    rw [e19] at hT; clear e19
    rw [e20] at hT; clear e20
    rw [e21] at hT; clear e21
    rw [e22] at hT; clear e22
    rw [e23] at hT; clear e23
    rw [e24] at hT; clear e24
    rw [e25] at hT; clear e25
    rw [e26] at hT; clear e26
    rw [e27] at hT; clear e27
    rw [e28] at hT; clear e28
    rw [e29] at hT; clear e29
    rw [e30] at hT; clear e30
    rw [e31] at hT; clear e31
    rw [e32] at hT; clear e32
    rw [e33] at hT; clear e33
    subst hT
    obtain ⟨_, A3, c3, rfl, hF3, _, _⟩ := e3
    have hF3' := hF3.from_ (B' := w.heap.size) b1.size
    have B2 := B1.on hbF
    rw [HG.out] at B2 ⊢
    have cB := B2.cell
    have bF : Below w.heap.size w wF := (by (have q_hbF := Below.size hbF; (try simp at q_hbF); have q_b1 := Below.size b1; (try simp at q_b1); repeat (first | exact Below.refl _ _ | (refine Below.trans ?_ (Below.mono hbF (by first | omega | (simp; omega) | simp))) | (refine Below.trans ?_ (Below.mono b1 (by first | omega | (simp; omega) | simp))) | (refine Below.setCell ?_ (by first | omega | (simp; omega) | simp) _) | (refine Below.alloc ?_ (by first | omega | (simp; omega) | simp) _) | apply Below.drew | apply below_drewN)))
    clear hF3 B1 hbF b1 hpl
    obtain ⟨HP, hHP⟩ : ∃ HP, HP = (headParts cnt n).flatten := ⟨_, rfl⟩
    have hHl : HP.length = 18 := by rw [hHP, headParts_len]
    have HHP := Lib.hid hHP
    rw [← hHP] at hF3'
    clear hHP
    go_wp2_with fail
    go_loopw [3, 21] (fun v i wr => ∃ k : Nat, k ≤ n ∧ i = .int .i64 k ∧ Fresh 5 w.heap.size wr v (HP ++ numsE (es.take k)) ∧ Below w.heap.size w wr) (fun _ i _ => n - (intOf i).toNat)
    case atStart => exact ⟨0, by omega, rfl, by simpa [numsE] using hF3', bF⟩
    case round =>
      clear hF3' B2 cB bF
      obtain ⟨k, hk, rfl, hF, hbel⟩ := hrel
      have hbz := hbel.size
      by_cases hlt : k < n
      · obtain ⟨b, off, K, Ad, nd, cd, L, rfl, hb, he, c0, c1, hX, hnd, hcd⟩ := (hr.below hbel).ent hlt
        have hKr := HK.out _ (List.mem_of_getElem? he)
        simp only at hKr
        obtain ⟨k0, k1⟩ := hKr
        have hst := Lib.hid (show HP ++ numsE (es.take k) ++ putL 2 K = HP ++ numsE (es.take (k + 1)) by rw [take_step he, numsE_snoc, List.append_assoc])
        have hll : (HP ++ numsE (es.take k)).length ≤ 1000 := by rw [List.length_append, hHl, numsE_len, List.length_take]; omega
        have hwu : IntKind.u64.wrap K = K := by rw [IntKind.wrap_u64]; omega
        have q1 : (k : Int) < n := by omega
        clear he hX
        go_wp2_with fail
        refine (put_any 2 K _ (by omega) (by omega) k0 (by omega)).mono ?_
        rintro e w4 ⟨v4, rfl, hF4, hb4⟩
        obtain ⟨A4, c4, rfl, hR4, _, _, _⟩ := hF4.rdn 2 (putL_len _ _)
        have hFa := (hF.alloc (.cells #[.int .i64 K, .slice Ad nd cd] 102)).below hb4
        have b4 : Below w.heap.size w w4 := (by (have q_hb4 := Below.size hb4; (try simp at q_hb4); have q_hbel := Below.size hbel; (try simp at q_hbel); repeat (first | exact Below.refl _ _ | (refine Below.trans ?_ (Below.mono hb4 (by first | omega | (simp; omega) | simp))) | (refine Below.trans ?_ (Below.mono hbel (by first | omega | (simp; omega) | simp))) | (refine Below.setCell ?_ (by first | omega | (simp; omega) | simp) _) | (refine Below.alloc ?_ (by first | omega | (simp; omega) | simp) _) | apply Below.drew | apply below_drewN)))
        have hbz4 := b4.size
        clear hF hb4
        go_wp2_with (at_builtin; refine wpList_append_bytes _ rfl (.tmp 25) (.tmp 29) _ rfl w.heap.size 5 Try.underlying39 infoB8 _ _ rfl hFa _ _ _ (putL 2 K) rfl hR4 (by omega) (by omega) ?_; intro b' w5 hF5 hg5 hb5)
        go_roundw
        case rel => exact ⟨k + 1, by omega, by go_num, by rw [← hst.out]; exact hF5, (by (have q_hb5 := Below.size hb5; (try simp at q_hb5); have q_b4 := Below.size b4; (try simp at q_b4); repeat (first | exact Below.refl _ _ | (refine Below.trans ?_ (Below.mono hb5 (by first | omega | (simp; omega) | simp))) | (refine Below.trans ?_ (Below.mono b4 (by first | omega | (simp; omega) | simp))) | (refine Below.setCell ?_ (by first | omega | (simp; omega) | simp) _) | (refine Below.alloc ?_ (by first | omega | (simp; omega) | simp) _) | apply Below.drew | apply below_drewN)))⟩
        case measure => simp [intOf] <;> omega
      · obtain rfl : k = n := by omega
        have hT : padL 256 (HP ++ numsE es) = headL cnt es := by rw [HHP.out]; exact headL_eq hlen
        have HT := Lib.hid hT
        rw [List.take_of_length_le (show es.length ≤ k by omega)] at hF
        obtain ⟨M, hM⟩ : ∃ M, M = HP ++ numsE es := ⟨_, rfl⟩
        have hMl : M.length = 18 + 2 * k := by rw [hM, List.length_append, hHl, numsE_len, hlen]
        rw [← hM] at hF HT
        clear hM hT
        obtain ⟨A4, c4, rfl, hR4, _, _, _⟩ := hF.rdn _ hMl
        go_wp2_with fail
        refine (pad_any _ _ _ M 256 _ hR4 (by omega) (by omega)).mono ?_
        rintro e w4 ⟨v4, rfl, hF4, hb4⟩
        rw [HT.out] at hF4
        go_wp2_with fail
        go_ret
        exact ⟨_, rfl, hF4.from_ hbz, (by (have q_hb4 := Below.size hb4; (try simp at q_hb4); have q_hbel := Below.size hbel; (try simp at q_hbel); repeat (first | exact Below.refl _ _ | (refine Below.trans ?_ (Below.mono hb4 (by first | omega | (simp; omega) | simp))) | (refine Below.trans ?_ (Below.mono hbel (by first | omega | (simp; omega) | simp))) | (refine Below.setCell ?_ (by first | omega | (simp; omega) | simp) _) | (refine Below.alloc ?_ (by first | omega | (simp; omega) | simp) _) | apply Below.drew | apply below_drewN)))⟩
end Go.Proofs.Ythepgnankelmeaa
namespace Go.Proofs.Ythepgnankelmeaa
open Go.RowKit

def encL (cnt : Int) (es : List Ent) : List (List UInt8) := headL cnt es :: es.map (·.2)
def encR (p t cnt : Int) (es : List Ent) : List (List UInt8) := if mayLog p t es = true then encL cnt es else []
def encX (p t : Int) (es : List Ent) : Int := if mayLog p t es = true then 0 else 1
theorem encL_len (cnt : Int) (es : List Ent) : (encL cnt es).length = 1 + es.length := by simp [encL]; omega
/-- A call's end: blocks of its own and an error's number. -/
def GivesSE (T1 T2 : TypeId) (w : World) (ls : List (List UInt8)) (x : Int) (e : Ending) (w' : World) : Prop := ∃ v, e = .returned (.tuple #[v, .int .i64 x]) ∧ OwnSS T1 T2 w.heap.size w' v ls ∧ Below w.heap.size w w'

set_option maxRecDepth 100000 in
set_option maxHeartbeats 8000000 in
theorem lenc_any (p t cnt : Int) (A : Option Addr) (n c B : Nat) (Tb : TypeId) (es : List Ent) (w : World) (hr : RdR entK B Tb w A n es) (hn : n ≤ 1000000) (hc0 : 0 ≤ cnt) (hc1 : cnt ≤ 18446744073709551615) :
    Calls Try.prog 37 #[.agg #[.int .i64 p, .int .i64 t], .agg #[.int .u64 cnt, .slice A n c]] w (GivesSE 5 39 w (encR p t cnt es) (encX p t es)) := by
  have hlen := hr.len
  have P0 : Blk ((w.alloc (.cells #[.int .i64 p, .int .i64 t] 23)).alloc (.cells #[.int .u64 cnt, .slice A n c] 56)) w.heap.size 23 #[.int .i64 p, .int .i64 t] := (Blk.new _ _ _).alloc _
  have Q0 : Blk ((w.alloc (.cells #[.int .i64 p, .int .i64 t] 23)).alloc (.cells #[.int .u64 cnt, .slice A n c] 56)) (w.heap.size + 1) 56 #[.int .u64 cnt, .slice A n c] := by
    simpa using Blk.new (w.alloc (.cells #[.int .i64 p, .int .i64 t] 23)) 56 #[.int .u64 cnt, .slice A n c]
  cases hm : mayLog p t es
  · have hX := Lib.hid (show encX p t es = 1 by unfold encX; rw [hm]; rfl)
    have hR := Lib.hid (show encR p t cnt es = [] by unfold encR; rw [hm]; rfl)
    go_enter Try.func37, Try.ntmps37
    go_wp2_with fail
    refine (lmay_any p t cnt A n c B Tb es _ ((hr.alloc _).alloc _) hn).mono ?_
    rintro e w1 ⟨rfl, hb1⟩
    rw [hm]
    go_wp2_with fail
    go_ret2
    rw [hX.out, hR.out]
    exact ⟨_, rfl, OwnSS.nil _, (by (have q_hb1 := Below.size hb1; (try simp at q_hb1); repeat (first | exact Below.refl _ _ | (refine Below.trans ?_ (Below.mono hb1 (by first | omega | (simp; omega) | simp))) | (refine Below.setCell ?_ (by first | omega | (simp; omega) | simp) _) | (refine Below.alloc ?_ (by first | omega | (simp; omega) | simp) _) | apply Below.drew | apply below_drewN)))⟩
  · obtain ⟨g1, l1, l2, hall⟩ := mayLog_true hm
    obtain ⟨g2, g3, _, g4⟩ := gmay_true g1
    obtain ⟨_, _, _, s1, _, _⟩ := geo_range g2 g3
    have hX := Lib.hid (show encX p t es = 0 by unfold encX; rw [hm]; rfl)
    have hR := Lib.hid (show encR p t cnt es = encL cnt es by unfold encR; rw [hm]; rfl)
    have hn24 : n ≤ 24 := by omega
    have hall2 : ∀ e ∈ es, 0 ≤ e.1 ∧ e.1 ≤ 65535 := fun e he => by have := hall e he; omega
    have hall3 : ∀ e ∈ es, e.2.length = 256 := fun e he => (hall e he).2.2
    have H2 := Lib.hid hall2
    have H3 := Lib.hid hall3
    clear hall hall2 hall3 g1 g2 g3 g4 s1
    go_enter Try.func37, Try.ntmps37
    go_wp2_with fail
    refine (lmay_any p t cnt A n c B Tb es _ ((hr.alloc _).alloc _) hn).mono ?_
    rintro e w1 ⟨rfl, hb1⟩
    rw [hm]
    have Q1 := Q0.on hb1
    have cQ := Q1.cell
    have b1 : Below w.heap.size w w1 := (by (have q_hb1 := Below.size hb1; (try simp at q_hb1); repeat (first | exact Below.refl _ _ | (refine Below.trans ?_ (Below.mono hb1 (by first | omega | (simp; omega) | simp))) | (refine Below.setCell ?_ (by first | omega | (simp; omega) | simp) _) | (refine Below.alloc ?_ (by first | omega | (simp; omega) | simp) _) | apply Below.drew | apply below_drewN)))
    clear P0 Q0 hb1 hm
    go_wp2_with fail
    refine (lhead_any cnt A n c B Tb es _ (hr.on b1 (Nat.le_refl _)) (by omega) hc0 hc1 H2.out).mono ?_
    rintro e w2 ⟨v2, rfl, hF2, hb2⟩
    have Q2 := Q1.on hb2
    have b2 : Below w.heap.size w w2 := (by (have q_hb2 := Below.size hb2; (try simp at q_hb2); have q_b1 := Below.size b1; (try simp at q_b1); repeat (first | exact Below.refl _ _ | (refine Below.trans ?_ (Below.mono hb2 (by first | omega | (simp; omega) | simp))) | (refine Below.trans ?_ (Below.mono b1 (by first | omega | (simp; omega) | simp))) | (refine Below.setCell ?_ (by first | omega | (simp; omega) | simp) _) | (refine Below.alloc ?_ (by first | omega | (simp; omega) | simp) _) | apply Below.drew | apply below_drewN)))
    obtain ⟨A2, c2, rfl, _, _, hc21, hc22⟩ := hF2.rdn 256 (headL_len _ _)
    have hF2' := (hF2.from_ b1.size).alloc (.cells #[.slice A2 256 c2] 39)
    have Q3 := Q2.alloc (.cells #[.slice A2 256 c2] 39)
    have cQ3 := Q3.cell
    have hO0 : OwnSS 5 39 w.heap.size (w2.alloc (.cells #[.slice A2 256 c2] 39)) (.slice (some ⟨w2.heap.size, 0, none⟩) 1 1) [headL cnt es] := by
      refine ⟨[(A2, 256, c2)], FreshG.of_blk (Blk.new w2 _ _) b2.size (by unfold maxLen; omega) rfl rfl, rfl, fun k x l hx hl => ?_⟩
      match k, hx, hl with
      | 0, hx, hl =>
        simp at hx hl
        subst hx hl
        exact hF2'
      | _ + 1, hx, hl => simp at hx
    have b3 : Below w.heap.size w (w2.alloc (.cells #[.slice A2 256 c2] 39)) := (by (have q_b2 := Below.size b2; (try simp at q_b2); repeat (first | exact Below.refl _ _ | (refine Below.trans ?_ (Below.mono b2 (by first | omega | (simp; omega) | simp))) | (refine Below.setCell ?_ (by first | omega | (simp; omega) | simp) _) | (refine Below.alloc ?_ (by first | omega | (simp; omega) | simp) _) | apply Below.drew | apply below_drewN)))
    clear hF2 hF2' Q1 Q2 cQ hb2 b2 b1
    go_wp2_with fail
    go_loopw [6, 19] (fun v i wr => ∃ k : Nat, k ≤ n ∧ i = .int .i64 k ∧ OwnSS 5 39 w.heap.size wr v (headL cnt es :: (es.take k).map (·.2)) ∧ Below w.heap.size w wr) (fun _ i _ => n - (intOf i).toNat)
    case atStart => exact ⟨0, by omega, rfl, by simpa using hO0, b3⟩
    case round =>
      clear hO0 Q3 cQ3 b3
      obtain ⟨k, hk, rfl, hO, hbel⟩ := hrel
      have hbz := hbel.size
      by_cases hlt : k < n
      · obtain ⟨b, off, K, Ad, nd, cd, L, rfl, hb, he, c0, c1, hX1, hnd, hcd⟩ := (hr.below hbel).ent hlt
        have hL := H3.out _ (List.mem_of_getElem? he)
        simp only at hL
        have hLn := hX1.1.len
        obtain rfl : nd = 256 := by omega
        have hst := Lib.hid (show headL cnt es :: (es.take k).map (·.2) ++ [L] = headL cnt es :: (es.take (k + 1)).map (·.2) by rw [take_step he]; simp)
        have hkl : (headL cnt es :: (es.take k).map (·.2)).length ≤ 100 := by simp; omega
        have q1 : (k : Int) < n := by omega
        clear he
        go_wp2_with fail
        refine (clone_any Ad 256 cd L _ (hX1.1.alloc _) (by omega)).mono ?_
        rintro e w4 ⟨v4, rfl, hF4, hb4⟩
        obtain ⟨A4, c4, rfl, _, _, hc41, hc42⟩ := hF4.rdn 256 hL
        have hF4' := hF4.from_ (B' := w.heap.size) (by simp; omega)
        have hO4 := (hO.below (w' := wr.alloc (.cells #[.int .i64 K, .slice Ad 256 cd] 102)) (by (repeat (first | exact Below.refl _ _ | (refine Below.setCell ?_ (by first | omega | (simp; omega) | simp) _) | (refine Below.alloc ?_ (by first | omega | (simp; omega) | simp) _) | apply Below.drew | apply below_drewN)))).below hb4
        have b4 : Below w.heap.size w w4 := (by (have q_hb4 := Below.size hb4; (try simp at q_hb4); have q_hbel := Below.size hbel; (try simp at q_hbel); repeat (first | exact Below.refl _ _ | (refine Below.trans ?_ (Below.mono hb4 (by first | omega | (simp; omega) | simp))) | (refine Below.trans ?_ (Below.mono hbel (by first | omega | (simp; omega) | simp))) | (refine Below.setCell ?_ (by first | omega | (simp; omega) | simp) _) | (refine Below.alloc ?_ (by first | omega | (simp; omega) | simp) _) | apply Below.drew | apply below_drewN)))
        have hz4 := b4.size
        obtain ⟨bs, hrow, hbs, hallb⟩ := hO4
        have hbk : bs.length ≤ 100 := by rw [hbs]; exact hkl
        clear hO hb4 hF4 hX1 hkl
        go_wp2_with (at_builtin; refine wpList_append_G (E := ssE) _ rfl (.tmp 23) (.tmp 27) _ rfl w.heap.size 39 Try.underlying51 infoSS rfl _ bs rfl (hrow.alloc _) _ _ _ [(A4, 256, c4)] rfl (RdG.boxed _ _ _ _ rfl) (by omega) (by omega) (by simp; omega) ?_; intro b' w9 hF9 hg9 hb9)
        have hO9 := OwnSS.more (T1 := 5) (by decide) hbs (hrow.alloc (.cells #[.slice A4 256 c4] 39)) (fun k x l hx hl => (hallb k x l hx hl).below (by (repeat (first | exact Below.refl _ _ | (refine Below.setCell ?_ (by first | omega | (simp; omega) | simp) _) | (refine Below.alloc ?_ (by first | omega | (simp; omega) | simp) _) | apply Below.drew | apply below_drewN)))) (hF4'.below (by (repeat (first | exact Below.refl _ _ | (refine Below.setCell ?_ (by first | omega | (simp; omega) | simp) _) | (refine Below.alloc ?_ (by first | omega | (simp; omega) | simp) _) | apply Below.drew | apply below_drewN)))) hF9 hg9
        go_roundw
        case rel => exact ⟨k + 1, by omega, by go_num, by rw [← hst.out]; exact hO9, (by (have q_hb9 := Below.size hb9; (try simp at q_hb9); have q_b4 := Below.size b4; (try simp at q_b4); repeat (first | exact Below.refl _ _ | (refine Below.trans ?_ (Below.mono hb9 (by first | omega | (simp; omega) | simp))) | (refine Below.trans ?_ (Below.mono b4 (by first | omega | (simp; omega) | simp))) | (refine Below.setCell ?_ (by first | omega | (simp; omega) | simp) _) | (refine Below.alloc ?_ (by first | omega | (simp; omega) | simp) _) | apply Below.drew | apply below_drewN)))⟩
        case measure => simp [intOf] <;> omega
      · obtain rfl : k = n := by omega
        have hT := Lib.hid (show es.take k = es from List.take_of_length_le (by omega))
        go_wp2_with fail
        go_ret2
        rw [hX.out, hR.out]
        exact ⟨_, rfl, by unfold encL; rw [← hT.out]; rw [hT.out] at hO ⊢; exact hO, hbel⟩
end Go.Proofs.Ythepgnankelmeaa
