/- The walk of the statement WordRow. -/
import Derived.Test.YtdnjlhcmihmgdaaRow2
import Derived.Test.YtdnjlhcmihmgdaaWord5
import Derived.Test.YtdnjlhcmihmgdaaSlices
import Derived.Test.YtdnjlhcmihmgdaaFlw
import Derived.Outline
import Derived.Deep.LoopGhost
namespace Go.Proofs.Ytdnjlhcmihmgdaa
open Go.RowKit

/-- A question to a row. -/
def askE : Enc (Int × Int) where
  sz := 2
  f a := [.int .i64 a.1, .int .i64 a.2]
  len _ := rfl
  pos := by decide
  one a u hu := by simp at hu; rcases hu with rfl | rfl <;> rfl

/-- Two rows, the one asked first. -/
def rInv (T1 T2 : TypeId) (g1 g2 : Nat) (l : List UInt8) (e : Int) (L2 : List UInt8) (E2 : Int) : Nat → World → Prop
  | 0, w => RowIs T1 w g1 [g1, g2] l e ∧ RowIs T2 w g2 [g1, g2] l e
  | 1, w => RowIs T1 w g1 [g1, g2] L2 E2 ∧ RowIs T2 w g2 [g1, g2] l e
  | 2, w => RowIs T1 w g1 [g1, g2] L2 E2 ∧ RowIs T2 w g2 [g1, g2] l e
  | _, w => RowIs T1 w g1 [g1, g2] L2 E2 ∧ RowIs T2 w g2 [g1, g2] L2 E2
theorem rInv_stab {T1 T2 : TypeId} {g1 g2 : Nat} {l : List UInt8} {e : Int} {L2 : List UInt8} {E2 : Int} : ∀ i w w', Below w.heap.size w w' → rInv T1 T2 g1 g2 l e L2 E2 i w → rInv T1 T2 g1 g2 l e L2 E2 i w'
  | 0, _, _, hb, ⟨h1, h2⟩ => ⟨h1.below hb, h2.below hb⟩
  | 1, _, _, hb, ⟨h1, h2⟩ => ⟨h1.below hb, h2.below hb⟩
  | 2, _, _, hb, ⟨h1, h2⟩ => ⟨h1.below hb, h2.below hb⟩
  | _ + 3, _, _, hb, ⟨h1, h2⟩ => ⟨h1.below hb, h2.below hb⟩

/-- The two rows tell the same; a question lies in block gq. -/
def RowsAre (T1 T2 TQ : TypeId) (g1 g2 gq : Nat) (x1 xn : Int) (w2 w wx : World) : Prop :=
  ∃ L E, L.length ≤ 80 ∧ RowIs T1 wx g1 [g1, g2] L E ∧ RowIs T2 wx g2 [g1, g2] L E ∧ Blk wx gq TQ #[.int .i64 x1, .int .i64 xn] ∧ Kept [g1, g2] w2 wx ∧ Below w.heap.size w wx
def rInvB (T1 T2 : TypeId) (g1 g2 : Nat) (l : List UInt8) (e : Int) (L2 : List UInt8) (E2 : Int) : Nat → World → Prop
  | 0, w => RowIs T1 w g1 [g1, g2] l e ∧ RowIs T2 w g2 [g1, g2] l e
  | 1, w => RowIs T1 w g1 [g1, g2] L2 E2 ∧ RowIs T2 w g2 [g1, g2] l e
  | _, w => RowIs T1 w g1 [g1, g2] L2 E2 ∧ RowIs T2 w g2 [g1, g2] L2 E2
theorem rInvB_stab {T1 T2 : TypeId} {g1 g2 : Nat} {l : List UInt8} {e : Int} {L2 : List UInt8} {E2 : Int} : ∀ i w w', Below w.heap.size w w' → rInvB T1 T2 g1 g2 l e L2 E2 i w → rInvB T1 T2 g1 g2 l e L2 E2 i w'
  | 0, _, _, hb, ⟨h1, h2⟩ => ⟨h1.below hb, h2.below hb⟩
  | 1, _, _, hb, ⟨h1, h2⟩ => ⟨h1.below hb, h2.below hb⟩
  | _ + 2, _, _, hb, ⟨h1, h2⟩ => ⟨h1.below hb, h2.below hb⟩

def Takes (l : List UInt8) (e n : Int) (O L2 : List UInt8) (E2 : Int) : Prop := takeO l e n = O ∧ takeL l e n = L2 ∧ takeE l e n = E2
theorem num_as {O L2 : List UInt8} {E2 : Int} (g : Nat) (gs : List Nat) (l : List UInt8) (er n : Int) (w : World) (h : RowIs 87 w g gs l er) (hn : n ≤ 9223372036854775807) (hT : Takes l er (numN n) O L2 E2) :
    Calls Try.prog 35 #[.pointer (some ⟨g, 0, none⟩), .int .i64 n] w fun x w' => x = .returned (.int .u64 (getL O : Int)) ∧ RowIs 87 w' g gs L2 E2 ∧ Kept [g] w w' := by
  obtain ⟨rfl, rfl, rfl⟩ := hT
  exact num_any g gs l er n w h hn
theorem rbytes_as {O L2 : List UInt8} {E2 : Int} (g : Nat) (gs : List Nat) (l : List UInt8) (er n : Int) (w : World) (h : RowIs 87 w g gs l er) (hn : n ≤ 9223372036854775807) (hl : l.length ≤ 140737488355328) (hT : Takes l er n O L2 E2) :
    Calls Try.prog 37 #[.pointer (some ⟨g, 0, none⟩), .int .i64 n] w fun x w' => ∃ v, x = .returned v ∧ Fresh 5 w.heap.size w' v O ∧ RowIs 87 w' g gs L2 E2 ∧ Kept [g] w w' := by
  obtain ⟨rfl, rfl, rfl⟩ := hT
  exact rbytes_any g gs l er n w h hn hl
theorem rtake_as {O L2 : List UInt8} {E2 : Int} (g : Nat) (gs : List Nat) (l : List UInt8) (er n : Int) (ok : Bool) (w : World) (h : RowIs 55 w g gs l er) (hn : n ≤ 9223372036854775807) (hT : Takes l er (okN ok n) O L2 E2) :
    Calls Try.prog 36 #[.pointer (some ⟨g, 0, none⟩), .int .i64 n, .bool ok] w fun x w' => ∃ A c, x = .returned (.slice A O.length c) ∧ O.length ≤ c ∧ c ≤ maxLen ∧ RdN w' gs A O.length O ∧ RowIs 55 w' g gs L2 E2 ∧ Kept [g] w w' := by
  obtain ⟨rfl, rfl, rfl⟩ := hT
  exact rtake_any g gs l er n ok w h hn
theorem rget_as (A : Option Addr) (n c : Nat) (l : List UInt8) (w : World) (hr : Rd w A n l) (hn : n ≤ 140737488355328) (hc : n ≤ c) (h8 : l.take 8 = l) :
    Calls Try.prog 31 #[.slice A n c] w fun e w' => e = .returned (.int .u64 (getL l : Int)) ∧ w = w' := by
  have := rget_any A n c l w hr hn hc
  rw [h8] at this
  exact this
theorem takes_len {l O L2 : List UInt8} {e n E2 : Int} (h : Takes l e n O L2 E2) (hl : l.length ≤ 80) : O.length ≤ 80 ∧ L2.length ≤ 80 := by
  obtain ⟨rfl, rfl, rfl⟩ := h
  refine ⟨Nat.le_trans (takeO_len _ _ _) hl, ?_⟩
  unfold takeL
  split
  · simp; omega
  · exact hl

set_option maxRecDepth 100000 in
set_option maxHeartbeats 4000000 in
theorem law_row (A B : Option Addr) (n m c d : Nat) (l : List UInt8) (q : List (Int × Int)) (w : World) (hr : Rd w A n l) (hnc : n ≤ c) (hc : c ≤ maxLen) (hq : RdG askE w B m q) (hmd : m ≤ d) (hd : d ≤ maxLen) (hqb : ∀ a ∈ q, a.2 ≤ 9223372036854775807) :
    Calls Try.prog 12 #[.slice A n c, .slice B m d] w fun e w' => e = .returned (.bool true) ∧ Below w.heap.size w w' := by
  have hA := hr.short
  have hcc := hc
  unfold maxLen at hc hd
  obtain ⟨s, hs⟩ : ∃ s, s = min n 80 := ⟨_, rfl⟩
  generalize l.take 80 = l0 at *
  rw [← hs] at hA
  have hs80 : s ≤ 80 := by omega
  have hsc : s ≤ c := by omega
  have HS := Lib.hid hs
  clear hs
  have HL := Lib.hid hA.len
  go_enter Try.func12, Try.ntmps12
  go_wp2_with fail
  refine (short_any _ _ _ _ hnc hcc).mono ?_
  rintro e w1 ⟨rfl, rfl⟩
  rw [← HS.out]
  go_wp2_with fail
  refine (of_any A s c l0 _ hA (by omega)).mono ?_
  rintro e w1 ⟨g1, rfl, hg1, hR1, hb1⟩
  have hA1 := hA.below hb1
  have hq1 := hq.below hb1
  have hlt1 := hR1.lt
  have hN1 : RdN w1 [g1, w1.heap.size] A s l0 := (RdN.old (gs := [g1, w1.heap.size]) hA (by have := hb1.size; intro x hx; simp at hx; rcases hx with rfl | rfl <;> omega)).below hb1
  obtain ⟨g2, hg2⟩ : ∃ g2, g2 = w1.heap.size := ⟨_, rfl⟩
  have HG := Lib.hid hg2
  have hg2' : w1.heap.size ≤ g2 := by omega
  have hlt12 : g1 < g2 := by omega
  have hgw : w.heap.size ≤ g2 := by have := hb1.size; omega
  have hR2 : RowIs 87 (w1.alloc (.cells #[.slice A s c, .int .i64 0] 55)) g1 [g1, g2] l0 0 := (hR1.wide (gs' := [g1, g2]) (by simp) (by simp; omega)).below (by (repeat (first | exact Below.refl _ _ | (refine Below.setCell ?_ (by first | omega | (simp; omega) | simp) _) | (refine Below.alloc ?_ (by first | omega | (simp; omega) | simp) _) | apply Below.drew | apply below_drewN)))
  have hS2 : RowIs 55 (w1.alloc (.cells #[.slice A s c, .int .i64 0] 55)) g2 [g1, g2] l0 0 := by
    subst hg2
    exact ⟨by simp, A, c, by rw [HL.out]; exact Blk.new w1 _ _, by rw [HL.out]; exact RdN.below hN1 (by (repeat (first | exact Below.refl _ _ | (refine Below.setCell ?_ (by first | omega | (simp; omega) | simp) _) | (refine Below.alloc ?_ (by first | omega | (simp; omega) | simp) _) | apply Below.drew | apply below_drewN))), by rw [HL.out]; exact hsc, hcc⟩
  have hq2 := hq1.alloc (.cells #[.slice A s c, .int .i64 0] 55)
  have hbel2 : Below w.heap.size w (w1.alloc (.cells #[.slice A s c, .int .i64 0] 55)) := (by (have q_hb1 := Below.size hb1; (try simp at q_hb1); repeat (first | exact Below.refl _ _ | (refine Below.trans ?_ (Below.mono hb1 (by first | omega | (simp; omega) | simp))) | (refine Below.setCell ?_ (by first | omega | (simp; omega) | simp) _) | (refine Below.alloc ?_ (by first | omega | (simp; omega) | simp) _) | apply Below.drew | apply below_drewN)))
  have hz2 : g2 < (w1.alloc (.cells #[.slice A s c, .int .i64 0] 55)).heap.size := hS2.lt
  go_wp2_with fail
  rw [← HG.out]
  obtain ⟨w2, hw2⟩ : ∃ w2, w2 = w1.alloc (.cells #[.slice A s c, .int .i64 0] 55) := ⟨_, rfl⟩
  rw [← hw2] at hR2 hS2 hbel2 hz2 ⊢
  have hl80 : l0.length ≤ 80 := by rw [HL.out]; exact hs80
  clear hw2 hg2 hR1 hA1 hq1 hq2 hN1 hA hr hb1
  go_loopw [21] (fun i wr => ∃ (k : Nat) (l' : List UInt8) (e' : Int), k ≤ m ∧ i = .int .i64 k ∧ l'.length ≤ 80 ∧ RowIs 87 wr g1 [g1, g2] l' e' ∧ RowIs 55 wr g2 [g1, g2] l' e' ∧ Kept [g1, g2] w2 wr ∧ Below w.heap.size w wr) (fun i _ => m - (intOf i).toNat)
  case atStart => exact ⟨0, l0, 0, by omega, rfl, hl80, hR2, hS2, .refl _ _, hbel2⟩
  case round =>
    obtain ⟨k, l', er, hk, rfl, hl', hR, hS, hK, hbel⟩ := hrel
    clear hR2 hS2 hbel2 hl80
    have hQ := hq.below hbel
    by_cases hlt : k < m
    · obtain ⟨bq, oq, x, rfl, hbq, hx, hcell⟩ := hQ.at_ hlt
      have hx2 : x.2 ≤ 9223372036854775807 := hqb x (List.mem_of_getElem? hx)
      obtain ⟨x1, xn⟩ := x
      have c0 := hcell 0 _ rfl
      have c1 := hcell 1 _ rfl
      simp only [show askE.sz = 2 from rfl, Nat.add_zero] at c0 c1
      clear hcell hx
      by_cases h30 : 30 ≤ k
      · have hbF := hbel
        go_wp2_with fail
        refine (err_nil _).mono ?_
        rintro e wa ⟨rfl, rfl⟩
        go_wp2_with fail
        refine (num_nil _).mono ?_
        rintro e wa ⟨rfl, rfl⟩
        go_wp2_with fail
        refine (rbytes_nil _).mono ?_
        rintro e wa ⟨v, rfl, hFv, hba⟩
        obtain ⟨Av, cv, rfl, hRv, _⟩ := hFv.rdn 0 rfl
        go_wp2_with fail
        refine (rest_nil _).mono ?_
        rintro e wb ⟨rfl, rfl⟩
        go_wp2_with fail
        refine (wawake_any _).mono ?_
        rintro e wb ⟨rfl, hbb⟩
        go_wp2_with fail
        go_ret
        exact ⟨rfl, (by (have q_hbb := Below.size hbb; (try simp at q_hbb); have q_hba := Below.size hba; (try simp at q_hba); have q_hbF := Below.size hbF; (try simp at q_hbF); repeat (first | exact Below.refl _ _ | (refine Below.trans ?_ (Below.mono hbb (by first | omega | (simp; omega) | simp))) | (refine Below.trans ?_ (Below.mono hba (by first | omega | (simp; omega) | simp))) | (refine Below.trans ?_ (Below.mono hbF (by first | omega | (simp; omega) | simp))) | (refine Below.setCell ?_ (by first | omega | (simp; omega) | simp) _) | (refine Below.alloc ?_ (by first | omega | (simp; omega) | simp) _) | apply Below.drew | apply below_drewN)))⟩
      · go_upto_if 30 with fail
        have hRz := hR.lt
        have hSz := hS.lt
        obtain ⟨gq, hgq⟩ : ∃ gq, gq = wr.heap.size := ⟨_, rfl⟩
        have hq1 : gq ≠ g1 := by omega
        have hq2 : gq ≠ g2 := by omega
        obtain ⟨w3, hw3⟩ : ∃ w3, w3 = wr.alloc (.cells #[.int .i64 x1, .int .i64 xn] 57) := ⟨_, rfl⟩
        have hb3 : Below wr.heap.size wr w3 := by rw [hw3]; exact (by (repeat (first | exact Below.refl _ _ | (refine Below.setCell ?_ (by first | omega | (simp; omega) | simp) _) | (refine Below.alloc ?_ (by first | omega | (simp; omega) | simp) _) | apply Below.drew | apply below_drewN)))
        have hBq : Blk w3 gq 57 #[.int .i64 x1, .int .i64 xn] := by rw [hw3, hgq]; exact Blk.new _ _ _
        rw [← hw3, ← hgq]
        clear hw3 hgq c0 c1
        replace hR := hR.below hb3
        replace hS := hS.below hb3
        replace hK := hK.trans (.of_below hb3)
        replace hbel := hbel.trans (hb3.mono hbel.size)
        clear hb3
        go_cut [9] (fun s9 wx => s9 = .bool true ∧ RowsAre 87 55 57 g1 g2 gq x1 xn w2 w wx)
        case first =>
          by_cases hk0 : x1 = 0
          · subst hk0
            obtain ⟨O, L2, E2, hT⟩ : ∃ O L2 E2, Takes l' er (numN xn) O L2 E2 := ⟨_, _, _, rfl, rfl, rfl⟩
            obtain ⟨hO80, hL80⟩ := takes_len hT hl'
            have h8 := Lib.hid (show O.take 8 = O by rw [← hT.1]; exact takeO_num _ _ _)
            have HT := Lib.hid hT
            clear hT
            go_wp2_with fail
            have hcase : (1 ≤ xn ∧ xn ≤ 8) ∨ xn < 1 ∨ 8 < xn := by omega
            rcases hcase with ⟨hx1, hx8⟩ | hx1 | hx8
            · have HT2 := Lib.hid (show Takes l' er (okN true xn) O L2 E2 by have := HT.out; rw [show numN xn = xn by unfold numN; rw [if_neg (by omega)]] at this; exact this)
              refine wp_flw [(fun y_ _ => y_ = .pointer (some ⟨g1, 0, none⟩)), (fun y_ _ => y_ = .pointer (some ⟨gq, 1, none⟩)), (fun y_ _ => y_ = .int .i64 xn), (fun y_ _ => y_ = .int .u64 (getL O : Int)), (fun y_ _ => y_ = .pointer (some ⟨g2, 0, none⟩)), (fun y_ _ => y_ = .pointer (some ⟨gq, 1, none⟩)), (fun y_ _ => y_ = .int .i64 xn), (fun y_ _ => y_ = .pointer (some ⟨gq, 1, none⟩)), (fun y_ _ => y_ = .int .i64 xn), (fun y_ _ => y_ = .bool true), (fun y_ _ => y_ = .bool true), (fun y_ _ => y_ = .pointer (some ⟨gq, 1, none⟩)), (fun y_ _ => y_ = .int .i64 xn), (fun y_ _ => y_ = .bool true), (fun y_ _ => y_ = .bool true), (IsN [g1, g2] (O.length) (O)), (fun y_ _ => y_ = .int .u64 (getL O : Int)), (fun y_ _ => y_ = .bool true), (fun y_ _ => y_ = .bool true)] [g1, g2] (rInv 87 55 g1 g2 l' er L2 E2) [3, 10, 15] (by kernel_rfl) ⟨StabW.eq _ _, StabW.eq _ _, StabW.eq _ _, StabW.eq _ _, StabW.eq _ _, StabW.eq _ _, StabW.eq _ _, StabW.eq _ _, StabW.eq _ _, StabW.eq _ _, StabW.eq _ _, StabW.eq _ _, StabW.eq _ _, StabW.eq _ _, StabW.eq _ _, StabW.b _ _ _, StabW.eq _ _, StabW.eq _ _, StabW.eq _ _, trivial⟩ (rInv_stab) (⟨hR, hS⟩) (by kernel_rfl) (by kernel_rfl) (by kernel_rfl) (by rfl) ?_ ?_
              · intro kq hkq
                match kq, hkq with
                | 0, _ =>
                  refine StepW.plain _ rfl rfl rfl [(5, none)] (by kernel_rfl) (fun af wf hbw hf Kf hKf => ?_)
                  obtain ⟨g5, _⟩ := hf
                  have h5 : af.tmps[5]?.getD undef = .pointer (some ⟨g1, 0, none⟩) := g5
                  clear g5
                  go_simp
                  exact hKf _ _ (Below.refl _ _) rfl
                | 1, _ =>
                  refine StepW.plain _ rfl rfl rfl [(8, none)] (by kernel_rfl) (fun af wf hbw hf Kf hKf => ?_)
                  obtain ⟨g8, _⟩ := hf
                  have h8 : af.tmps[8]?.getD undef = .pointer (some ⟨gq, 0, none⟩) := g8
                  clear g8
                  go_simp
                  exact hKf _ _ (Below.refl _ _) rfl
                | 2, _ =>
                  refine StepW.plain _ rfl rfl rfl [(32, some 1)] (by kernel_rfl) (fun af wf hbw hf Kf hKf => ?_)
                  obtain ⟨g32, _⟩ := hf
                  have h32 : af.tmps[32]?.getD undef = .pointer (some ⟨gq, 1, none⟩) := g32
                  clear g32
                  have cB0 := (Blk.kept (Blk.drew (hBq)) hbw ((by simp; omega))).cell
                  go_simp
                  exact hKf _ _ (Below.refl _ _) rfl
                | 3, _ =>
                  refine StepW.chain 0 _ rfl rfl rfl (by decide) [(31, some 0), (33, some 2)] (by kernel_rfl) (fun af wf hbw hiv hf Kf hKf => ?_)
                  obtain ⟨g31, g33, _⟩ := hf
                  have h31 : af.tmps[31]?.getD undef = .pointer (some ⟨g1, 0, none⟩) := g31
                  have h33 : af.tmps[33]?.getD undef = .int .i64 xn := g33
                  clear g31 g33
                  go_simp
                  refine (num_as g1 [g1, g2] l' er xn _ hiv.1 hx2 HT.out).mono ?_
                  rintro e wN ⟨rfl, hr1, hk1⟩
                  exact hKf _ _ (hk1.mono (by simp)) (⟨hr1, hiv.2.kept hk1 (by simp) (by simp; omega)⟩) (rfl)
                | 4, _ =>
                  refine StepW.plain _ rfl rfl rfl [(6, none)] (by kernel_rfl) (fun af wf hbw hf Kf hKf => ?_)
                  obtain ⟨g6, _⟩ := hf
                  have h6 : af.tmps[6]?.getD undef = .pointer (some ⟨g2, 0, none⟩) := g6
                  clear g6
                  go_simp
                  exact hKf _ _ (Below.refl _ _) rfl
                | 5, _ =>
                  refine StepW.plain _ rfl rfl rfl [(8, none)] (by kernel_rfl) (fun af wf hbw hf Kf hKf => ?_)
                  obtain ⟨g8, _⟩ := hf
                  have h8 : af.tmps[8]?.getD undef = .pointer (some ⟨gq, 0, none⟩) := g8
                  clear g8
                  go_simp
                  exact hKf _ _ (Below.refl _ _) rfl
                | 6, _ =>
                  refine StepW.plain _ rfl rfl rfl [(36, some 5)] (by kernel_rfl) (fun af wf hbw hf Kf hKf => ?_)
                  obtain ⟨g36, _⟩ := hf
                  have h36 : af.tmps[36]?.getD undef = .pointer (some ⟨gq, 1, none⟩) := g36
                  clear g36
                  have cB0 := (Blk.kept (Blk.drew (hBq)) hbw ((by simp; omega))).cell
                  go_simp
                  exact hKf _ _ (Below.refl _ _) rfl
                | 7, _ =>
                  refine StepW.plain _ rfl rfl rfl [(8, none)] (by kernel_rfl) (fun af wf hbw hf Kf hKf => ?_)
                  obtain ⟨g8, _⟩ := hf
                  have h8 : af.tmps[8]?.getD undef = .pointer (some ⟨gq, 0, none⟩) := g8
                  clear g8
                  go_simp
                  exact hKf _ _ (Below.refl _ _) rfl
                | 8, _ =>
                  refine StepW.plain _ rfl rfl rfl [(38, some 7)] (by kernel_rfl) (fun af wf hbw hf Kf hKf => ?_)
                  obtain ⟨g38, _⟩ := hf
                  have h38 : af.tmps[38]?.getD undef = .pointer (some ⟨gq, 1, none⟩) := g38
                  clear g38
                  have cB0 := (Blk.kept (Blk.drew (hBq)) hbw ((by simp; omega))).cell
                  go_simp
                  exact hKf _ _ (Below.refl _ _) rfl
                | 9, _ =>
                  refine StepW.plain _ rfl rfl rfl [(39, some 8)] (by kernel_rfl) (fun af wf hbw hf Kf hKf => ?_)
                  obtain ⟨g39, _⟩ := hf
                  have h39 : af.tmps[39]?.getD undef = .int .i64 xn := g39
                  clear g39
                  go_simp
                  exact hKf _ _ (Below.refl _ _) rfl
                | 10, _ =>
                  refine StepW.chain 1 _ rfl rfl rfl (by decide) [(40, some 9)] (by kernel_rfl) (fun af wf hbw hiv hf Kf hKf => ?_)
                  obtain ⟨g40, _⟩ := hf
                  have h40 : af.tmps[40]?.getD undef = .bool true := g40
                  clear g40
                  go_simp
                  exact hKf _ _ (Kept.refl _ _) (hiv) (rfl)
                | 11, _ =>
                  refine StepW.yes _ rfl rfl rfl rfl (fun _ _ h => h) [(8, none)] (by kernel_rfl) (fun af wf hbw hf Kf hKf => ?_)
                  obtain ⟨g8, _⟩ := hf
                  have h8 : af.tmps[8]?.getD undef = .pointer (some ⟨gq, 0, none⟩) := g8
                  clear g8
                  go_simp
                  exact hKf _ _ (Below.refl _ _) rfl
                | 12, _ =>
                  refine StepW.yes _ rfl rfl rfl rfl (fun _ _ h => h) [(42, some 11)] (by kernel_rfl) (fun af wf hbw hf Kf hKf => ?_)
                  obtain ⟨g42, _⟩ := hf
                  have h42 : af.tmps[42]?.getD undef = .pointer (some ⟨gq, 1, none⟩) := g42
                  clear g42
                  have cB0 := (Blk.kept (Blk.drew (hBq)) hbw ((by simp; omega))).cell
                  go_simp
                  exact hKf _ _ (Below.refl _ _) rfl
                | 13, _ =>
                  refine StepW.yes _ rfl rfl rfl rfl (fun _ _ h => h) [(43, some 12)] (by kernel_rfl) (fun af wf hbw hf Kf hKf => ?_)
                  obtain ⟨g43, _⟩ := hf
                  have h43 : af.tmps[43]?.getD undef = .int .i64 xn := g43
                  clear g43
                  go_simp
                  exact hKf _ _ (Below.refl _ _) rfl
                | 14, _ =>
                  refine StepW.plain _ rfl rfl rfl [(41, some 10), (44, some 13)] (by kernel_rfl) (fun af wf hbw hf Kf hKf => ?_)
                  obtain ⟨g41, g44, _⟩ := hf
                  have h41 : af.tmps[41]?.getD undef = .bool true := g41
                  have h44 : af.tmps[44]?.getD undef = .bool true := g44
                  clear g41 g44
                  go_simp
                  exact hKf _ _ (Below.refl _ _) rfl
                | 15, _ =>
                  refine StepW.chain 2 _ rfl rfl rfl (by decide) [(35, some 4), (37, some 6), (45, some 14)] (by kernel_rfl) (fun af wf hbw hiv hf Kf hKf => ?_)
                  obtain ⟨g35, g37, g45, _⟩ := hf
                  have h35 : af.tmps[35]?.getD undef = .pointer (some ⟨g2, 0, none⟩) := g35
                  have h37 : af.tmps[37]?.getD undef = .int .i64 xn := g37
                  have h45 : af.tmps[45]?.getD undef = .bool true := g45
                  clear g35 g37 g45
                  go_simp
                  refine (rtake_as g2 [g1, g2] l' er xn true _ hiv.2 hx2 HT2.out).mono ?_
                  rintro e wN ⟨AO, cO, rfl, hO1, hO2, hO3, hr2, hk2⟩
                  exact hKf _ _ (hk2.mono (by simp)) (⟨hiv.1.kept hk2 (by simp) (by simp; omega), hr2⟩) (⟨AO, cO, rfl, hO3, hO1, hO2⟩)
                | 16, _ =>
                  refine StepW.plain _ rfl rfl rfl [(46, some 15)] (by kernel_rfl) (fun af wf hbw hf Kf hKf => ?_)
                  obtain ⟨g46, _⟩ := hf
                  obtain ⟨A46, c46, h46, hR46, hn46, hm46⟩ : IsN [g1, g2] (O.length) (O) (af.tmps[46]?.getD undef) wf := g46
                  go_simp
                  refine (rget_as _ _ _ O _ hR46.1 (by omega) (by omega) h8.out).mono ?_
                  rintro e wN ⟨rfl, rfl⟩
                  exact hKf _ _ (Below.refl _ _) (rfl)
                | 17, _ =>
                  refine StepW.plain _ rfl rfl rfl [(34, some 3), (47, some 16)] (by kernel_rfl) (fun af wf hbw hf Kf hKf => ?_)
                  obtain ⟨g34, g47, _⟩ := hf
                  have h34 : af.tmps[34]?.getD undef = .int .u64 (getL O : Int) := g34
                  have h47 : af.tmps[47]?.getD undef = .int .u64 (getL O : Int) := g47
                  clear g34 g47
                  go_simp
                  exact hKf _ _ (Below.refl _ _) rfl
                | 18, _ =>
                  refine StepW.plain _ rfl rfl rfl [(48, some 17)] (by kernel_rfl) (fun af wf hbw hf Kf hKf => ?_)
                  obtain ⟨g48, _⟩ := hf
                  have h48 : af.tmps[48]?.getD undef = .bool true := g48
                  clear g48
                  go_simp
                  exact hKf _ _ (Below.refl _ _) rfl
                | i + 19, h => exact absurd h (by show ¬ (i + 19 < 19); omega)
              · intro af wF hbF hiF hdF hsF hbaseF hfactF
                obtain ⟨T, dsF⟩ := af
                obtain rfl : dsF = _ := hdF
                have e0 := hbaseF 0 (not_dst (by kernel_rfl))
                simp only [List.getElem?_toArray, List.getElem?_cons_zero, Option.getD_some] at e0
                have e1 := hbaseF 1 (not_dst (by kernel_rfl))
                simp only [List.getElem?_toArray, List.getElem?_cons_zero, List.getElem?_cons_succ, Option.getD_some] at e1
                have e2 := hbaseF 2 (not_dst (by kernel_rfl))
                simp only [List.getElem?_toArray, List.getElem?_cons_zero, List.getElem?_cons_succ, Option.getD_some] at e2
                have e3 := hbaseF 3 (not_dst (by kernel_rfl))
                simp only [List.getElem?_toArray, List.getElem?_cons_zero, List.getElem?_cons_succ, Option.getD_some] at e3
                have e4 := hbaseF 4 (not_dst (by kernel_rfl))
                simp only [List.getElem?_toArray, List.getElem?_cons_zero, List.getElem?_cons_succ, Option.getD_some] at e4
                have e5 := hbaseF 5 (not_dst (by kernel_rfl))
                simp only [List.getElem?_toArray, List.getElem?_cons_zero, List.getElem?_cons_succ, Option.getD_some] at e5
                have e6 := hbaseF 6 (not_dst (by kernel_rfl))
                simp only [List.getElem?_toArray, List.getElem?_cons_zero, List.getElem?_cons_succ, Option.getD_some] at e6
                have e7 := hbaseF 7 (not_dst (by kernel_rfl))
                simp only [List.getElem?_toArray, List.getElem?_cons_zero, List.getElem?_cons_succ, Option.getD_some] at e7
                have e8 := hbaseF 8 (not_dst (by kernel_rfl))
                simp only [List.getElem?_toArray, List.getElem?_cons_zero, List.getElem?_cons_succ, Option.getD_some] at e8
                have e10 := hbaseF 10 (not_dst (by kernel_rfl))
                simp only [List.getElem?_toArray, List.getElem?_cons_zero, List.getElem?_cons_succ, Option.getD_some] at e10
                have e11 := hbaseF 11 (not_dst (by kernel_rfl))
                simp only [List.getElem?_toArray, List.getElem?_cons_zero, List.getElem?_cons_succ, Option.getD_some] at e11
                have e12 := hbaseF 12 (not_dst (by kernel_rfl))
                simp only [List.getElem?_toArray, List.getElem?_cons_zero, List.getElem?_cons_succ, Option.getD_some] at e12
                have e13 := hbaseF 13 (not_dst (by kernel_rfl))
                simp only [List.getElem?_toArray, List.getElem?_cons_zero, List.getElem?_cons_succ, Option.getD_some] at e13
                have e14 := hbaseF 14 (not_dst (by kernel_rfl))
                simp only [List.getElem?_toArray, List.getElem?_cons_zero, List.getElem?_cons_succ, Option.getD_some] at e14
                have e15 := hbaseF 15 (not_dst (by kernel_rfl))
                simp only [List.getElem?_toArray, List.getElem?_cons_zero, List.getElem?_cons_succ, Option.getD_some] at e15
                have e16 := hbaseF 16 (not_dst (by kernel_rfl))
                simp only [List.getElem?_toArray, List.getElem?_cons_zero, List.getElem?_cons_succ, Option.getD_some] at e16
                have e17 := hbaseF 17 (not_dst (by kernel_rfl))
                simp only [List.getElem?_toArray, List.getElem?_cons_zero, List.getElem?_cons_succ, Option.getD_some] at e17
                have e18 := hbaseF 18 (not_dst (by kernel_rfl))
                simp only [List.getElem?_toArray, List.getElem?_cons_zero, List.getElem?_cons_succ, Option.getD_some] at e18
                have e19 := hbaseF 19 (not_dst (by kernel_rfl))
                simp only [List.getElem?_toArray, List.getElem?_cons_zero, List.getElem?_cons_succ, Option.getD_some] at e19
                have e20 := hbaseF 20 (not_dst (by kernel_rfl))
                simp only [List.getElem?_toArray, List.getElem?_cons_zero, List.getElem?_cons_succ, Option.getD_some] at e20
                have e21 := hbaseF 21 (not_dst (by kernel_rfl))
                simp only [List.getElem?_toArray, List.getElem?_cons_zero, List.getElem?_cons_succ, Option.getD_some] at e21
                have e22 := hbaseF 22 (not_dst (by kernel_rfl))
                simp only [List.getElem?_toArray, List.getElem?_cons_zero, List.getElem?_cons_succ, Option.getD_some] at e22
                have e23 := hbaseF 23 (not_dst (by kernel_rfl))
                simp only [List.getElem?_toArray, List.getElem?_cons_zero, List.getElem?_cons_succ, Option.getD_some] at e23
                have e24 := hbaseF 24 (not_dst (by kernel_rfl))
                simp only [List.getElem?_toArray, List.getElem?_cons_zero, List.getElem?_cons_succ, Option.getD_some] at e24
                have e25 := hbaseF 25 (not_dst (by kernel_rfl))
                simp only [List.getElem?_toArray, List.getElem?_cons_zero, List.getElem?_cons_succ, Option.getD_some] at e25
                have e26 := hbaseF 26 (not_dst (by kernel_rfl))
                simp only [List.getElem?_toArray, List.getElem?_cons_zero, List.getElem?_cons_succ, Option.getD_some] at e26
                have e27 := hbaseF 27 (not_dst (by kernel_rfl))
                simp only [List.getElem?_toArray, List.getElem?_cons_zero, List.getElem?_cons_succ, Option.getD_some] at e27
                have e28 := hbaseF 28 (not_dst (by kernel_rfl))
                simp only [List.getElem?_toArray, List.getElem?_cons_zero, List.getElem?_cons_succ, Option.getD_some] at e28
                have e29 := hbaseF 29 (not_dst (by kernel_rfl))
                simp only [List.getElem?_toArray, List.getElem?_cons_zero, List.getElem?_cons_succ, Option.getD_some] at e29
                have e30 := hbaseF 30 (not_dst (by kernel_rfl))
                simp only [List.getElem?_toArray, List.getElem?_cons_zero, List.getElem?_cons_succ, Option.getD_some] at e30
                have e49 := hbaseF 49 (not_dst (by kernel_rfl))
                simp only [List.getElem?_toArray, List.getElem?_cons_zero, List.getElem?_cons_succ, Option.getD_some] at e49
                have e50 := hbaseF 50 (not_dst (by kernel_rfl))
                simp only [List.getElem?_toArray, List.getElem?_cons_zero, List.getElem?_cons_succ, Option.getD_some] at e50
                have e51 := hbaseF 51 (not_dst (by kernel_rfl))
                simp only [List.getElem?_toArray, List.getElem?_cons_zero, List.getElem?_cons_succ, Option.getD_some] at e51
                have e52 := hbaseF 52 (not_dst (by kernel_rfl))
                simp only [List.getElem?_toArray, List.getElem?_cons_zero, List.getElem?_cons_succ, Option.getD_some] at e52
                have e53 := hbaseF 53 (not_dst (by kernel_rfl))
                simp only [List.getElem?_toArray, List.getElem?_cons_zero, List.getElem?_cons_succ, Option.getD_some] at e53
                have e54 := hbaseF 54 (not_dst (by kernel_rfl))
                simp only [List.getElem?_toArray, List.getElem?_cons_zero, List.getElem?_cons_succ, Option.getD_some] at e54
                have e55 := hbaseF 55 (not_dst (by kernel_rfl))
                simp only [List.getElem?_toArray, List.getElem?_cons_zero, List.getElem?_cons_succ, Option.getD_some] at e55
                have e56 := hbaseF 56 (not_dst (by kernel_rfl))
                simp only [List.getElem?_toArray, List.getElem?_cons_zero, List.getElem?_cons_succ, Option.getD_some] at e56
                have e57 := hbaseF 57 (not_dst (by kernel_rfl))
                simp only [List.getElem?_toArray, List.getElem?_cons_zero, List.getElem?_cons_succ, Option.getD_some] at e57
                have e58 := hbaseF 58 (not_dst (by kernel_rfl))
                simp only [List.getElem?_toArray, List.getElem?_cons_zero, List.getElem?_cons_succ, Option.getD_some] at e58
                have e59 := hbaseF 59 (not_dst (by kernel_rfl))
                simp only [List.getElem?_toArray, List.getElem?_cons_zero, List.getElem?_cons_succ, Option.getD_some] at e59
                have e60 := hbaseF 60 (not_dst (by kernel_rfl))
                simp only [List.getElem?_toArray, List.getElem?_cons_zero, List.getElem?_cons_succ, Option.getD_some] at e60
                have e61 := hbaseF 61 (not_dst (by kernel_rfl))
                simp only [List.getElem?_toArray, List.getElem?_cons_zero, List.getElem?_cons_succ, Option.getD_some] at e61
                have e62 := hbaseF 62 (not_dst (by kernel_rfl))
                simp only [List.getElem?_toArray, List.getElem?_cons_zero, List.getElem?_cons_succ, Option.getD_some] at e62
                have e63 := hbaseF 63 (not_dst (by kernel_rfl))
                simp only [List.getElem?_toArray, List.getElem?_cons_zero, List.getElem?_cons_succ, Option.getD_some] at e63
                have e64 := hbaseF 64 (not_dst (by kernel_rfl))
                simp only [List.getElem?_toArray, List.getElem?_cons_zero, List.getElem?_cons_succ, Option.getD_some] at e64
                have e65 := hbaseF 65 (not_dst (by kernel_rfl))
                simp only [List.getElem?_toArray, List.getElem?_cons_zero, List.getElem?_cons_succ, Option.getD_some] at e65
                have e66 := hbaseF 66 (not_dst (by kernel_rfl))
                simp only [List.getElem?_toArray, List.getElem?_cons_zero, List.getElem?_cons_succ, Option.getD_some] at e66
                have e67 := hbaseF 67 (not_dst (by kernel_rfl))
                simp only [List.getElem?_toArray, List.getElem?_cons_zero, List.getElem?_cons_succ, Option.getD_some] at e67
                have e68 := hbaseF 68 (not_dst (by kernel_rfl))
                simp only [List.getElem?_toArray, List.getElem?_cons_zero, List.getElem?_cons_succ, Option.getD_some] at e68
                have e69 := hbaseF 69 (not_dst (by kernel_rfl))
                simp only [List.getElem?_toArray, List.getElem?_cons_zero, List.getElem?_cons_succ, Option.getD_some] at e69
                have e70 := hbaseF 70 (not_dst (by kernel_rfl))
                simp only [List.getElem?_toArray, List.getElem?_cons_zero, List.getElem?_cons_succ, Option.getD_some] at e70
                have e71 := hbaseF 71 (not_dst (by kernel_rfl))
                simp only [List.getElem?_toArray, List.getElem?_cons_zero, List.getElem?_cons_succ, Option.getD_some] at e71
                have e72 := hbaseF 72 (not_dst (by kernel_rfl))
                simp only [List.getElem?_toArray, List.getElem?_cons_zero, List.getElem?_cons_succ, Option.getD_some] at e72
                have e73 := hbaseF 73 (not_dst (by kernel_rfl))
                simp only [List.getElem?_toArray, List.getElem?_cons_zero, List.getElem?_cons_succ, Option.getD_some] at e73
                have e74 := hbaseF 74 (not_dst (by kernel_rfl))
                simp only [List.getElem?_toArray, List.getElem?_cons_zero, List.getElem?_cons_succ, Option.getD_some] at e74
                have e75 := hbaseF 75 (not_dst (by kernel_rfl))
                simp only [List.getElem?_toArray, List.getElem?_cons_zero, List.getElem?_cons_succ, Option.getD_some] at e75
                have e76 := hbaseF 76 (not_dst (by kernel_rfl))
                simp only [List.getElem?_toArray, List.getElem?_cons_zero, List.getElem?_cons_succ, Option.getD_some] at e76
                have e77 := hbaseF 77 (not_dst (by kernel_rfl))
                simp only [List.getElem?_toArray, List.getElem?_cons_zero, List.getElem?_cons_succ, Option.getD_some] at e77
                have e78 := hbaseF 78 (not_dst (by kernel_rfl))
                simp only [List.getElem?_toArray, List.getElem?_cons_zero, List.getElem?_cons_succ, Option.getD_some] at e78
                have e79 := hbaseF 79 (not_dst (by kernel_rfl))
                simp only [List.getElem?_toArray, List.getElem?_cons_zero, List.getElem?_cons_succ, Option.getD_some] at e79
                have e80 := hbaseF 80 (not_dst (by kernel_rfl))
                simp only [List.getElem?_toArray, List.getElem?_cons_zero, List.getElem?_cons_succ, Option.getD_some] at e80
                have e81 := hbaseF 81 (not_dst (by kernel_rfl))
                simp only [List.getElem?_toArray, List.getElem?_cons_zero, List.getElem?_cons_succ, Option.getD_some] at e81
                have e82 := hbaseF 82 (not_dst (by kernel_rfl))
                simp only [List.getElem?_toArray, List.getElem?_cons_zero, List.getElem?_cons_succ, Option.getD_some] at e82
                have e83 := hbaseF 83 (not_dst (by kernel_rfl))
                simp only [List.getElem?_toArray, List.getElem?_cons_zero, List.getElem?_cons_succ, Option.getD_some] at e83
                have e84 := hbaseF 84 (not_dst (by kernel_rfl))
                simp only [List.getElem?_toArray, List.getElem?_cons_zero, List.getElem?_cons_succ, Option.getD_some] at e84
                have e85 := hbaseF 85 (not_dst (by kernel_rfl))
                simp only [List.getElem?_toArray, List.getElem?_cons_zero, List.getElem?_cons_succ, Option.getD_some] at e85
                have e86 := hbaseF 86 (not_dst (by kernel_rfl))
                simp only [List.getElem?_toArray, List.getElem?_cons_zero, List.getElem?_cons_succ, Option.getD_some] at e86
                have e87 := hbaseF 87 (not_dst (by kernel_rfl))
                simp only [List.getElem?_toArray, List.getElem?_cons_zero, List.getElem?_cons_succ, Option.getD_some] at e87
                have e88 := hbaseF 88 (not_dst (by kernel_rfl))
                simp only [List.getElem?_toArray, List.getElem?_cons_zero, List.getElem?_cons_succ, Option.getD_some] at e88
                have e89 := hbaseF 89 (not_dst (by kernel_rfl))
                simp only [List.getElem?_toArray, List.getElem?_cons_zero, List.getElem?_cons_succ, Option.getD_some] at e89
                have e90 := hbaseF 90 (not_dst (by kernel_rfl))
                simp only [List.getElem?_toArray, List.getElem?_cons_zero, List.getElem?_cons_succ, Option.getD_some] at e90
                have e91 := hbaseF 91 (not_dst (by kernel_rfl))
                simp only [List.getElem?_toArray, List.getElem?_cons_zero, List.getElem?_cons_succ, Option.getD_some] at e91
                have e92 := hbaseF 92 (not_dst (by kernel_rfl))
                simp only [List.getElem?_toArray, List.getElem?_cons_zero, List.getElem?_cons_succ, Option.getD_some] at e92
                have e93 := hbaseF 93 (not_dst (by kernel_rfl))
                simp only [List.getElem?_toArray, List.getElem?_cons_zero, List.getElem?_cons_succ, Option.getD_some] at e93
                have e94 := hbaseF 94 (not_dst (by kernel_rfl))
                simp only [List.getElem?_toArray, List.getElem?_cons_zero, List.getElem?_cons_succ, Option.getD_some] at e94
                have e95 := hbaseF 95 (not_dst (by kernel_rfl))
                simp only [List.getElem?_toArray, List.getElem?_cons_zero, List.getElem?_cons_succ, Option.getD_some] at e95
                have e96 := hbaseF 96 (not_dst (by kernel_rfl))
                simp only [List.getElem?_toArray, List.getElem?_cons_zero, List.getElem?_cons_succ, Option.getD_some] at e96
                have e97 := hbaseF 97 (not_dst (by kernel_rfl))
                simp only [List.getElem?_toArray, List.getElem?_cons_zero, List.getElem?_cons_succ, Option.getD_some] at e97
                have e98 := hbaseF 98 (not_dst (by kernel_rfl))
                simp only [List.getElem?_toArray, List.getElem?_cons_zero, List.getElem?_cons_succ, Option.getD_some] at e98
                have e99 := hbaseF 99 (not_dst (by kernel_rfl))
                simp only [List.getElem?_toArray, List.getElem?_cons_zero, List.getElem?_cons_succ, Option.getD_some] at e99
                have e100 := hbaseF 100 (not_dst (by kernel_rfl))
                simp only [List.getElem?_toArray, List.getElem?_cons_zero, List.getElem?_cons_succ, Option.getD_some] at e100
                have e101 := hbaseF 101 (not_dst (by kernel_rfl))
                simp only [List.getElem?_toArray, List.getElem?_cons_zero, List.getElem?_cons_succ, Option.getD_some] at e101
                have e102 := hbaseF 102 (not_dst (by kernel_rfl))
                simp only [List.getElem?_toArray, List.getElem?_cons_zero, List.getElem?_cons_succ, Option.getD_some] at e102
                have e103 := hbaseF 103 (not_dst (by kernel_rfl))
                simp only [List.getElem?_toArray, List.getElem?_cons_zero, List.getElem?_cons_succ, Option.getD_some] at e103
                have e104 := hbaseF 104 (not_dst (by kernel_rfl))
                simp only [List.getElem?_toArray, List.getElem?_cons_zero, List.getElem?_cons_succ, Option.getD_some] at e104
                have e105 := hbaseF 105 (not_dst (by kernel_rfl))
                simp only [List.getElem?_toArray, List.getElem?_cons_zero, List.getElem?_cons_succ, Option.getD_some] at e105
                have e106 := hbaseF 106 (not_dst (by kernel_rfl))
                simp only [List.getElem?_toArray, List.getElem?_cons_zero, List.getElem?_cons_succ, Option.getD_some] at e106
                have e107 := hbaseF 107 (not_dst (by kernel_rfl))
                simp only [List.getElem?_toArray, List.getElem?_cons_zero, List.getElem?_cons_succ, Option.getD_some] at e107
                have e108 := hbaseF 108 (not_dst (by kernel_rfl))
                simp only [List.getElem?_toArray, List.getElem?_cons_zero, List.getElem?_cons_succ, Option.getD_some] at e108
                have e109 := hbaseF 109 (not_dst (by kernel_rfl))
                simp only [List.getElem?_toArray, List.getElem?_cons_zero, List.getElem?_cons_succ, Option.getD_some] at e109
                have e110 := hbaseF 110 (not_dst (by kernel_rfl))
                simp only [List.getElem?_toArray, List.getElem?_cons_zero, List.getElem?_cons_succ, Option.getD_some] at e110
                have e111 := hbaseF 111 (not_dst (by kernel_rfl))
                simp only [List.getElem?_toArray, List.getElem?_cons_zero, List.getElem?_cons_succ, Option.getD_some] at e111
                have e112 := hbaseF 112 (not_dst (by kernel_rfl))
                simp only [List.getElem?_toArray, List.getElem?_cons_zero, List.getElem?_cons_succ, Option.getD_some] at e112
                have e9 := hfactF 18 9 (by decide) rfl
                replace e9 : T[9]?.getD undef = .bool true := e9
                clear hbaseF hfactF
                have hT : T = #[T[0]?.getD undef, T[1]?.getD undef, T[2]?.getD undef, T[3]?.getD undef, T[4]?.getD undef, T[5]?.getD undef, T[6]?.getD undef, T[7]?.getD undef, T[8]?.getD undef, T[9]?.getD undef, T[10]?.getD undef, T[11]?.getD undef, T[12]?.getD undef, T[13]?.getD undef, T[14]?.getD undef, T[15]?.getD undef, T[16]?.getD undef, T[17]?.getD undef, T[18]?.getD undef, T[19]?.getD undef, T[20]?.getD undef, T[21]?.getD undef, T[22]?.getD undef, T[23]?.getD undef, T[24]?.getD undef, T[25]?.getD undef, T[26]?.getD undef, T[27]?.getD undef, T[28]?.getD undef, T[29]?.getD undef, T[30]?.getD undef, T[31]?.getD undef, T[32]?.getD undef, T[33]?.getD undef, T[34]?.getD undef, T[35]?.getD undef, T[36]?.getD undef, T[37]?.getD undef, T[38]?.getD undef, T[39]?.getD undef, T[40]?.getD undef, T[41]?.getD undef, T[42]?.getD undef, T[43]?.getD undef, T[44]?.getD undef, T[45]?.getD undef, T[46]?.getD undef, T[47]?.getD undef, T[48]?.getD undef, T[49]?.getD undef, T[50]?.getD undef, T[51]?.getD undef, T[52]?.getD undef, T[53]?.getD undef, T[54]?.getD undef, T[55]?.getD undef, T[56]?.getD undef, T[57]?.getD undef, T[58]?.getD undef, T[59]?.getD undef, T[60]?.getD undef, T[61]?.getD undef, T[62]?.getD undef, T[63]?.getD undef, T[64]?.getD undef, T[65]?.getD undef, T[66]?.getD undef, T[67]?.getD undef, T[68]?.getD undef, T[69]?.getD undef, T[70]?.getD undef, T[71]?.getD undef, T[72]?.getD undef, T[73]?.getD undef, T[74]?.getD undef, T[75]?.getD undef, T[76]?.getD undef, T[77]?.getD undef, T[78]?.getD undef, T[79]?.getD undef, T[80]?.getD undef, T[81]?.getD undef, T[82]?.getD undef, T[83]?.getD undef, T[84]?.getD undef, T[85]?.getD undef, T[86]?.getD undef, T[87]?.getD undef, T[88]?.getD undef, T[89]?.getD undef, T[90]?.getD undef, T[91]?.getD undef, T[92]?.getD undef, T[93]?.getD undef, T[94]?.getD undef, T[95]?.getD undef, T[96]?.getD undef, T[97]?.getD undef, T[98]?.getD undef, T[99]?.getD undef, T[100]?.getD undef, T[101]?.getD undef, T[102]?.getD undef, T[103]?.getD undef, T[104]?.getD undef, T[105]?.getD undef, T[106]?.getD undef, T[107]?.getD undef, T[108]?.getD undef, T[109]?.getD undef, T[110]?.getD undef, T[111]?.getD undef, T[112]?.getD undef] := arr_eq T 113 hsF
                clear hsF
                rw [e0] at hT; clear e0
                rw [e1] at hT; clear e1
                rw [e2] at hT; clear e2
                rw [e3] at hT; clear e3
                rw [e4] at hT; clear e4
                rw [e5] at hT; clear e5
                rw [e6] at hT; clear e6
                rw [e7] at hT; clear e7
                rw [e8] at hT; clear e8
                rw [e9] at hT; clear e9
                rw [e10] at hT; clear e10
                rw [e11] at hT; clear e11
                rw [e12] at hT; clear e12
                rw [e13] at hT; clear e13
                rw [e14] at hT; clear e14
                rw [e15] at hT; clear e15
                rw [e16] at hT; clear e16
                rw [e17] at hT; clear e17
                rw [e18] at hT; clear e18
                rw [e19] at hT; clear e19
                rw [e20] at hT; clear e20
                rw [e21] at hT; clear e21
                rw [e22] at hT; clear e22
                rw [e23] at hT; clear e23
                rw [e24] at hT; clear e24
                rw [e25] at hT; clear e25
                rw [e26] at hT; clear e26
                rw [e27] at hT; clear e27
                rw [e28] at hT; clear e28
                rw [e29] at hT; clear e29
                rw [e30] at hT; clear e30
                generalize T[31]?.getD undef = u31 at hT
                generalize T[32]?.getD undef = u32 at hT
                generalize T[33]?.getD undef = u33 at hT
                generalize T[34]?.getD undef = u34 at hT
                generalize T[35]?.getD undef = u35 at hT
                generalize T[36]?.getD undef = u36 at hT
                generalize T[37]?.getD undef = u37 at hT
                generalize T[38]?.getD undef = u38 at hT
                generalize T[39]?.getD undef = u39 at hT
                generalize T[40]?.getD undef = u40 at hT
                generalize T[41]?.getD undef = u41 at hT
                generalize T[42]?.getD undef = u42 at hT
                generalize T[43]?.getD undef = u43 at hT
                generalize T[44]?.getD undef = u44 at hT
                generalize T[45]?.getD undef = u45 at hT
                generalize T[46]?.getD undef = u46 at hT
                generalize T[47]?.getD undef = u47 at hT
                generalize T[48]?.getD undef = u48 at hT
                rw [e49] at hT; clear e49
                rw [e50] at hT; clear e50
                rw [e51] at hT; clear e51
                rw [e52] at hT; clear e52
                rw [e53] at hT; clear e53
                rw [e54] at hT; clear e54
                rw [e55] at hT; clear e55
                rw [e56] at hT; clear e56
                rw [e57] at hT; clear e57
                rw [e58] at hT; clear e58
                rw [e59] at hT; clear e59
                rw [e60] at hT; clear e60
                rw [e61] at hT; clear e61
                rw [e62] at hT; clear e62
                rw [e63] at hT; clear e63
                rw [e64] at hT; clear e64
                rw [e65] at hT; clear e65
                rw [e66] at hT; clear e66
                rw [e67] at hT; clear e67
                rw [e68] at hT; clear e68
                rw [e69] at hT; clear e69
                rw [e70] at hT; clear e70
                rw [e71] at hT; clear e71
                rw [e72] at hT; clear e72
                rw [e73] at hT; clear e73
                rw [e74] at hT; clear e74
                rw [e75] at hT; clear e75
                rw [e76] at hT; clear e76
                rw [e77] at hT; clear e77
                rw [e78] at hT; clear e78
                rw [e79] at hT; clear e79
                rw [e80] at hT; clear e80
                rw [e81] at hT; clear e81
                rw [e82] at hT; clear e82
                rw [e83] at hT; clear e83
                rw [e84] at hT; clear e84
                rw [e85] at hT; clear e85
                rw [e86] at hT; clear e86
                rw [e87] at hT; clear e87
                rw [e88] at hT; clear e88
                rw [e89] at hT; clear e89
                rw [e90] at hT; clear e90
                rw [e91] at hT; clear e91
                rw [e92] at hT; clear e92
                rw [e93] at hT; clear e93
                rw [e94] at hT; clear e94
                rw [e95] at hT; clear e95
                rw [e96] at hT; clear e96
                rw [e97] at hT; clear e97
                rw [e98] at hT; clear e98
                rw [e99] at hT; clear e99
                rw [e100] at hT; clear e100
                rw [e101] at hT; clear e101
                rw [e102] at hT; clear e102
                rw [e103] at hT; clear e103
                rw [e104] at hT; clear e104
                rw [e105] at hT; clear e105
                rw [e106] at hT; clear e106
                rw [e107] at hT; clear e107
                rw [e108] at hT; clear e108
                rw [e109] at hT; clear e109
                rw [e110] at hT; clear e110
                rw [e111] at hT; clear e111
                rw [e112] at hT; clear e112
                subst hT
                go_wp2_with fail
                go_meet
                exact ⟨rfl, L2, E2, hL80, hiF.1, hiF.2, hBq.kept hbF (by simp; omega), hK.trans hbF, hbel.trans (hbF.below hbel.size (by intro x hx; simp at hx; omega))⟩
            · have HT2 := Lib.hid (show Takes l' er (okN false xn) O L2 E2 by have := HT.out; rw [show numN xn = -1 by unfold numN; rw [if_pos (by omega)]] at this; exact this)
              refine wp_flw [(fun y_ _ => y_ = .pointer (some ⟨g1, 0, none⟩)), (fun y_ _ => y_ = .pointer (some ⟨gq, 1, none⟩)), (fun y_ _ => y_ = .int .i64 xn), (fun y_ _ => y_ = .int .u64 (getL O : Int)), (fun y_ _ => y_ = .pointer (some ⟨g2, 0, none⟩)), (fun y_ _ => y_ = .pointer (some ⟨gq, 1, none⟩)), (fun y_ _ => y_ = .int .i64 xn), (fun y_ _ => y_ = .pointer (some ⟨gq, 1, none⟩)), (fun y_ _ => y_ = .int .i64 xn), (fun y_ _ => y_ = .bool false), (fun y_ _ => y_ = .bool false), (fun y_ _ => y_ = undef), (fun y_ _ => y_ = undef), (fun y_ _ => y_ = undef), (fun y_ _ => y_ = .bool false), (IsN [g1, g2] (O.length) (O)), (fun y_ _ => y_ = .int .u64 (getL O : Int)), (fun y_ _ => y_ = .bool true), (fun y_ _ => y_ = .bool true)] [g1, g2] (rInv 87 55 g1 g2 l' er L2 E2) [3, 10, 15] (by kernel_rfl) ⟨StabW.eq _ _, StabW.eq _ _, StabW.eq _ _, StabW.eq _ _, StabW.eq _ _, StabW.eq _ _, StabW.eq _ _, StabW.eq _ _, StabW.eq _ _, StabW.eq _ _, StabW.eq _ _, StabW.eq _ _, StabW.eq _ _, StabW.eq _ _, StabW.eq _ _, StabW.b _ _ _, StabW.eq _ _, StabW.eq _ _, StabW.eq _ _, trivial⟩ (rInv_stab) (⟨hR, hS⟩) (by kernel_rfl) (by kernel_rfl) (by kernel_rfl) (by rfl) ?_ ?_
              · intro kq hkq
                match kq, hkq with
                | 0, _ =>
                  refine StepW.plain _ rfl rfl rfl [(5, none)] (by kernel_rfl) (fun af wf hbw hf Kf hKf => ?_)
                  obtain ⟨g5, _⟩ := hf
                  have h5 : af.tmps[5]?.getD undef = .pointer (some ⟨g1, 0, none⟩) := g5
                  clear g5
                  go_simp
                  exact hKf _ _ (Below.refl _ _) rfl
                | 1, _ =>
                  refine StepW.plain _ rfl rfl rfl [(8, none)] (by kernel_rfl) (fun af wf hbw hf Kf hKf => ?_)
                  obtain ⟨g8, _⟩ := hf
                  have h8 : af.tmps[8]?.getD undef = .pointer (some ⟨gq, 0, none⟩) := g8
                  clear g8
                  go_simp
                  exact hKf _ _ (Below.refl _ _) rfl
                | 2, _ =>
                  refine StepW.plain _ rfl rfl rfl [(32, some 1)] (by kernel_rfl) (fun af wf hbw hf Kf hKf => ?_)
                  obtain ⟨g32, _⟩ := hf
                  have h32 : af.tmps[32]?.getD undef = .pointer (some ⟨gq, 1, none⟩) := g32
                  clear g32
                  have cB0 := (Blk.kept (Blk.drew (hBq)) hbw ((by simp; omega))).cell
                  go_simp
                  exact hKf _ _ (Below.refl _ _) rfl
                | 3, _ =>
                  refine StepW.chain 0 _ rfl rfl rfl (by decide) [(31, some 0), (33, some 2)] (by kernel_rfl) (fun af wf hbw hiv hf Kf hKf => ?_)
                  obtain ⟨g31, g33, _⟩ := hf
                  have h31 : af.tmps[31]?.getD undef = .pointer (some ⟨g1, 0, none⟩) := g31
                  have h33 : af.tmps[33]?.getD undef = .int .i64 xn := g33
                  clear g31 g33
                  go_simp
                  refine (num_as g1 [g1, g2] l' er xn _ hiv.1 hx2 HT.out).mono ?_
                  rintro e wN ⟨rfl, hr1, hk1⟩
                  exact hKf _ _ (hk1.mono (by simp)) (⟨hr1, hiv.2.kept hk1 (by simp) (by simp; omega)⟩) (rfl)
                | 4, _ =>
                  refine StepW.plain _ rfl rfl rfl [(6, none)] (by kernel_rfl) (fun af wf hbw hf Kf hKf => ?_)
                  obtain ⟨g6, _⟩ := hf
                  have h6 : af.tmps[6]?.getD undef = .pointer (some ⟨g2, 0, none⟩) := g6
                  clear g6
                  go_simp
                  exact hKf _ _ (Below.refl _ _) rfl
                | 5, _ =>
                  refine StepW.plain _ rfl rfl rfl [(8, none)] (by kernel_rfl) (fun af wf hbw hf Kf hKf => ?_)
                  obtain ⟨g8, _⟩ := hf
                  have h8 : af.tmps[8]?.getD undef = .pointer (some ⟨gq, 0, none⟩) := g8
                  clear g8
                  go_simp
                  exact hKf _ _ (Below.refl _ _) rfl
                | 6, _ =>
                  refine StepW.plain _ rfl rfl rfl [(36, some 5)] (by kernel_rfl) (fun af wf hbw hf Kf hKf => ?_)
                  obtain ⟨g36, _⟩ := hf
                  have h36 : af.tmps[36]?.getD undef = .pointer (some ⟨gq, 1, none⟩) := g36
                  clear g36
                  have cB0 := (Blk.kept (Blk.drew (hBq)) hbw ((by simp; omega))).cell
                  go_simp
                  exact hKf _ _ (Below.refl _ _) rfl
                | 7, _ =>
                  refine StepW.plain _ rfl rfl rfl [(8, none)] (by kernel_rfl) (fun af wf hbw hf Kf hKf => ?_)
                  obtain ⟨g8, _⟩ := hf
                  have h8 : af.tmps[8]?.getD undef = .pointer (some ⟨gq, 0, none⟩) := g8
                  clear g8
                  go_simp
                  exact hKf _ _ (Below.refl _ _) rfl
                | 8, _ =>
                  refine StepW.plain _ rfl rfl rfl [(38, some 7)] (by kernel_rfl) (fun af wf hbw hf Kf hKf => ?_)
                  obtain ⟨g38, _⟩ := hf
                  have h38 : af.tmps[38]?.getD undef = .pointer (some ⟨gq, 1, none⟩) := g38
                  clear g38
                  have cB0 := (Blk.kept (Blk.drew (hBq)) hbw ((by simp; omega))).cell
                  go_simp
                  exact hKf _ _ (Below.refl _ _) rfl
                | 9, _ =>
                  refine StepW.plain _ rfl rfl rfl [(39, some 8)] (by kernel_rfl) (fun af wf hbw hf Kf hKf => ?_)
                  obtain ⟨g39, _⟩ := hf
                  have h39 : af.tmps[39]?.getD undef = .int .i64 xn := g39
                  clear g39
                  have hdd : decide ((1 : Int) ≤ xn) = false := by simp; omega
                  go_simp
                  exact hKf _ _ (Below.refl _ _) rfl
                | 10, _ =>
                  refine StepW.chain 1 _ rfl rfl rfl (by decide) [(40, some 9)] (by kernel_rfl) (fun af wf hbw hiv hf Kf hKf => ?_)
                  obtain ⟨g40, _⟩ := hf
                  have h40 : af.tmps[40]?.getD undef = .bool false := g40
                  clear g40
                  go_simp
                  exact hKf _ _ (Kept.refl _ _) (hiv) (rfl)
                | 11, _ => exact StepW.no _ rfl rfl rfl rfl (fun _ _ h => h) (by decide) (by kernel_rfl) (fun _ => rfl)
                | 12, _ => exact StepW.no _ rfl rfl rfl rfl (fun _ _ h => h) (by decide) (by kernel_rfl) (fun _ => rfl)
                | 13, _ => exact StepW.no _ rfl rfl rfl rfl (fun _ _ h => h) (by decide) (by kernel_rfl) (fun _ => rfl)
                | 14, _ =>
                  refine StepW.plain _ rfl rfl rfl [(41, some 10), (44, some 13)] (by kernel_rfl) (fun af wf hbw hf Kf hKf => ?_)
                  obtain ⟨g41, g44, _⟩ := hf
                  have h41 : af.tmps[41]?.getD undef = .bool false := g41
                  have h44 : af.tmps[44]?.getD undef = undef := g44
                  clear g41 g44
                  go_simp
                  exact hKf _ _ (Below.refl _ _) rfl
                | 15, _ =>
                  refine StepW.chain 2 _ rfl rfl rfl (by decide) [(35, some 4), (37, some 6), (45, some 14)] (by kernel_rfl) (fun af wf hbw hiv hf Kf hKf => ?_)
                  obtain ⟨g35, g37, g45, _⟩ := hf
                  have h35 : af.tmps[35]?.getD undef = .pointer (some ⟨g2, 0, none⟩) := g35
                  have h37 : af.tmps[37]?.getD undef = .int .i64 xn := g37
                  have h45 : af.tmps[45]?.getD undef = .bool false := g45
                  clear g35 g37 g45
                  go_simp
                  refine (rtake_as g2 [g1, g2] l' er xn false _ hiv.2 hx2 HT2.out).mono ?_
                  rintro e wN ⟨AO, cO, rfl, hO1, hO2, hO3, hr2, hk2⟩
                  exact hKf _ _ (hk2.mono (by simp)) (⟨hiv.1.kept hk2 (by simp) (by simp; omega), hr2⟩) (⟨AO, cO, rfl, hO3, hO1, hO2⟩)
                | 16, _ =>
                  refine StepW.plain _ rfl rfl rfl [(46, some 15)] (by kernel_rfl) (fun af wf hbw hf Kf hKf => ?_)
                  obtain ⟨g46, _⟩ := hf
                  obtain ⟨A46, c46, h46, hR46, hn46, hm46⟩ : IsN [g1, g2] (O.length) (O) (af.tmps[46]?.getD undef) wf := g46
                  go_simp
                  refine (rget_as _ _ _ O _ hR46.1 (by omega) (by omega) h8.out).mono ?_
                  rintro e wN ⟨rfl, rfl⟩
                  exact hKf _ _ (Below.refl _ _) (rfl)
                | 17, _ =>
                  refine StepW.plain _ rfl rfl rfl [(34, some 3), (47, some 16)] (by kernel_rfl) (fun af wf hbw hf Kf hKf => ?_)
                  obtain ⟨g34, g47, _⟩ := hf
                  have h34 : af.tmps[34]?.getD undef = .int .u64 (getL O : Int) := g34
                  have h47 : af.tmps[47]?.getD undef = .int .u64 (getL O : Int) := g47
                  clear g34 g47
                  go_simp
                  exact hKf _ _ (Below.refl _ _) rfl
                | 18, _ =>
                  refine StepW.plain _ rfl rfl rfl [(48, some 17)] (by kernel_rfl) (fun af wf hbw hf Kf hKf => ?_)
                  obtain ⟨g48, _⟩ := hf
                  have h48 : af.tmps[48]?.getD undef = .bool true := g48
                  clear g48
                  go_simp
                  exact hKf _ _ (Below.refl _ _) rfl
                | i + 19, h => exact absurd h (by show ¬ (i + 19 < 19); omega)
              · intro af wF hbF hiF hdF hsF hbaseF hfactF
                obtain ⟨T, dsF⟩ := af
                obtain rfl : dsF = _ := hdF
                have e0 := hbaseF 0 (not_dst (by kernel_rfl))
                simp only [List.getElem?_toArray, List.getElem?_cons_zero, Option.getD_some] at e0
                have e1 := hbaseF 1 (not_dst (by kernel_rfl))
                simp only [List.getElem?_toArray, List.getElem?_cons_zero, List.getElem?_cons_succ, Option.getD_some] at e1
                have e2 := hbaseF 2 (not_dst (by kernel_rfl))
                simp only [List.getElem?_toArray, List.getElem?_cons_zero, List.getElem?_cons_succ, Option.getD_some] at e2
                have e3 := hbaseF 3 (not_dst (by kernel_rfl))
                simp only [List.getElem?_toArray, List.getElem?_cons_zero, List.getElem?_cons_succ, Option.getD_some] at e3
                have e4 := hbaseF 4 (not_dst (by kernel_rfl))
                simp only [List.getElem?_toArray, List.getElem?_cons_zero, List.getElem?_cons_succ, Option.getD_some] at e4
                have e5 := hbaseF 5 (not_dst (by kernel_rfl))
                simp only [List.getElem?_toArray, List.getElem?_cons_zero, List.getElem?_cons_succ, Option.getD_some] at e5
                have e6 := hbaseF 6 (not_dst (by kernel_rfl))
                simp only [List.getElem?_toArray, List.getElem?_cons_zero, List.getElem?_cons_succ, Option.getD_some] at e6
                have e7 := hbaseF 7 (not_dst (by kernel_rfl))
                simp only [List.getElem?_toArray, List.getElem?_cons_zero, List.getElem?_cons_succ, Option.getD_some] at e7
                have e8 := hbaseF 8 (not_dst (by kernel_rfl))
                simp only [List.getElem?_toArray, List.getElem?_cons_zero, List.getElem?_cons_succ, Option.getD_some] at e8
                have e10 := hbaseF 10 (not_dst (by kernel_rfl))
                simp only [List.getElem?_toArray, List.getElem?_cons_zero, List.getElem?_cons_succ, Option.getD_some] at e10
                have e11 := hbaseF 11 (not_dst (by kernel_rfl))
                simp only [List.getElem?_toArray, List.getElem?_cons_zero, List.getElem?_cons_succ, Option.getD_some] at e11
                have e12 := hbaseF 12 (not_dst (by kernel_rfl))
                simp only [List.getElem?_toArray, List.getElem?_cons_zero, List.getElem?_cons_succ, Option.getD_some] at e12
                have e13 := hbaseF 13 (not_dst (by kernel_rfl))
                simp only [List.getElem?_toArray, List.getElem?_cons_zero, List.getElem?_cons_succ, Option.getD_some] at e13
                have e14 := hbaseF 14 (not_dst (by kernel_rfl))
                simp only [List.getElem?_toArray, List.getElem?_cons_zero, List.getElem?_cons_succ, Option.getD_some] at e14
                have e15 := hbaseF 15 (not_dst (by kernel_rfl))
                simp only [List.getElem?_toArray, List.getElem?_cons_zero, List.getElem?_cons_succ, Option.getD_some] at e15
                have e16 := hbaseF 16 (not_dst (by kernel_rfl))
                simp only [List.getElem?_toArray, List.getElem?_cons_zero, List.getElem?_cons_succ, Option.getD_some] at e16
                have e17 := hbaseF 17 (not_dst (by kernel_rfl))
                simp only [List.getElem?_toArray, List.getElem?_cons_zero, List.getElem?_cons_succ, Option.getD_some] at e17
                have e18 := hbaseF 18 (not_dst (by kernel_rfl))
                simp only [List.getElem?_toArray, List.getElem?_cons_zero, List.getElem?_cons_succ, Option.getD_some] at e18
                have e19 := hbaseF 19 (not_dst (by kernel_rfl))
                simp only [List.getElem?_toArray, List.getElem?_cons_zero, List.getElem?_cons_succ, Option.getD_some] at e19
                have e20 := hbaseF 20 (not_dst (by kernel_rfl))
                simp only [List.getElem?_toArray, List.getElem?_cons_zero, List.getElem?_cons_succ, Option.getD_some] at e20
                have e21 := hbaseF 21 (not_dst (by kernel_rfl))
                simp only [List.getElem?_toArray, List.getElem?_cons_zero, List.getElem?_cons_succ, Option.getD_some] at e21
                have e22 := hbaseF 22 (not_dst (by kernel_rfl))
                simp only [List.getElem?_toArray, List.getElem?_cons_zero, List.getElem?_cons_succ, Option.getD_some] at e22
                have e23 := hbaseF 23 (not_dst (by kernel_rfl))
                simp only [List.getElem?_toArray, List.getElem?_cons_zero, List.getElem?_cons_succ, Option.getD_some] at e23
                have e24 := hbaseF 24 (not_dst (by kernel_rfl))
                simp only [List.getElem?_toArray, List.getElem?_cons_zero, List.getElem?_cons_succ, Option.getD_some] at e24
                have e25 := hbaseF 25 (not_dst (by kernel_rfl))
                simp only [List.getElem?_toArray, List.getElem?_cons_zero, List.getElem?_cons_succ, Option.getD_some] at e25
                have e26 := hbaseF 26 (not_dst (by kernel_rfl))
                simp only [List.getElem?_toArray, List.getElem?_cons_zero, List.getElem?_cons_succ, Option.getD_some] at e26
                have e27 := hbaseF 27 (not_dst (by kernel_rfl))
                simp only [List.getElem?_toArray, List.getElem?_cons_zero, List.getElem?_cons_succ, Option.getD_some] at e27
                have e28 := hbaseF 28 (not_dst (by kernel_rfl))
                simp only [List.getElem?_toArray, List.getElem?_cons_zero, List.getElem?_cons_succ, Option.getD_some] at e28
                have e29 := hbaseF 29 (not_dst (by kernel_rfl))
                simp only [List.getElem?_toArray, List.getElem?_cons_zero, List.getElem?_cons_succ, Option.getD_some] at e29
                have e30 := hbaseF 30 (not_dst (by kernel_rfl))
                simp only [List.getElem?_toArray, List.getElem?_cons_zero, List.getElem?_cons_succ, Option.getD_some] at e30
                have e49 := hbaseF 49 (not_dst (by kernel_rfl))
                simp only [List.getElem?_toArray, List.getElem?_cons_zero, List.getElem?_cons_succ, Option.getD_some] at e49
                have e50 := hbaseF 50 (not_dst (by kernel_rfl))
                simp only [List.getElem?_toArray, List.getElem?_cons_zero, List.getElem?_cons_succ, Option.getD_some] at e50
                have e51 := hbaseF 51 (not_dst (by kernel_rfl))
                simp only [List.getElem?_toArray, List.getElem?_cons_zero, List.getElem?_cons_succ, Option.getD_some] at e51
                have e52 := hbaseF 52 (not_dst (by kernel_rfl))
                simp only [List.getElem?_toArray, List.getElem?_cons_zero, List.getElem?_cons_succ, Option.getD_some] at e52
                have e53 := hbaseF 53 (not_dst (by kernel_rfl))
                simp only [List.getElem?_toArray, List.getElem?_cons_zero, List.getElem?_cons_succ, Option.getD_some] at e53
                have e54 := hbaseF 54 (not_dst (by kernel_rfl))
                simp only [List.getElem?_toArray, List.getElem?_cons_zero, List.getElem?_cons_succ, Option.getD_some] at e54
                have e55 := hbaseF 55 (not_dst (by kernel_rfl))
                simp only [List.getElem?_toArray, List.getElem?_cons_zero, List.getElem?_cons_succ, Option.getD_some] at e55
                have e56 := hbaseF 56 (not_dst (by kernel_rfl))
                simp only [List.getElem?_toArray, List.getElem?_cons_zero, List.getElem?_cons_succ, Option.getD_some] at e56
                have e57 := hbaseF 57 (not_dst (by kernel_rfl))
                simp only [List.getElem?_toArray, List.getElem?_cons_zero, List.getElem?_cons_succ, Option.getD_some] at e57
                have e58 := hbaseF 58 (not_dst (by kernel_rfl))
                simp only [List.getElem?_toArray, List.getElem?_cons_zero, List.getElem?_cons_succ, Option.getD_some] at e58
                have e59 := hbaseF 59 (not_dst (by kernel_rfl))
                simp only [List.getElem?_toArray, List.getElem?_cons_zero, List.getElem?_cons_succ, Option.getD_some] at e59
                have e60 := hbaseF 60 (not_dst (by kernel_rfl))
                simp only [List.getElem?_toArray, List.getElem?_cons_zero, List.getElem?_cons_succ, Option.getD_some] at e60
                have e61 := hbaseF 61 (not_dst (by kernel_rfl))
                simp only [List.getElem?_toArray, List.getElem?_cons_zero, List.getElem?_cons_succ, Option.getD_some] at e61
                have e62 := hbaseF 62 (not_dst (by kernel_rfl))
                simp only [List.getElem?_toArray, List.getElem?_cons_zero, List.getElem?_cons_succ, Option.getD_some] at e62
                have e63 := hbaseF 63 (not_dst (by kernel_rfl))
                simp only [List.getElem?_toArray, List.getElem?_cons_zero, List.getElem?_cons_succ, Option.getD_some] at e63
                have e64 := hbaseF 64 (not_dst (by kernel_rfl))
                simp only [List.getElem?_toArray, List.getElem?_cons_zero, List.getElem?_cons_succ, Option.getD_some] at e64
                have e65 := hbaseF 65 (not_dst (by kernel_rfl))
                simp only [List.getElem?_toArray, List.getElem?_cons_zero, List.getElem?_cons_succ, Option.getD_some] at e65
                have e66 := hbaseF 66 (not_dst (by kernel_rfl))
                simp only [List.getElem?_toArray, List.getElem?_cons_zero, List.getElem?_cons_succ, Option.getD_some] at e66
                have e67 := hbaseF 67 (not_dst (by kernel_rfl))
                simp only [List.getElem?_toArray, List.getElem?_cons_zero, List.getElem?_cons_succ, Option.getD_some] at e67
                have e68 := hbaseF 68 (not_dst (by kernel_rfl))
                simp only [List.getElem?_toArray, List.getElem?_cons_zero, List.getElem?_cons_succ, Option.getD_some] at e68
                have e69 := hbaseF 69 (not_dst (by kernel_rfl))
                simp only [List.getElem?_toArray, List.getElem?_cons_zero, List.getElem?_cons_succ, Option.getD_some] at e69
                have e70 := hbaseF 70 (not_dst (by kernel_rfl))
                simp only [List.getElem?_toArray, List.getElem?_cons_zero, List.getElem?_cons_succ, Option.getD_some] at e70
                have e71 := hbaseF 71 (not_dst (by kernel_rfl))
                simp only [List.getElem?_toArray, List.getElem?_cons_zero, List.getElem?_cons_succ, Option.getD_some] at e71
                have e72 := hbaseF 72 (not_dst (by kernel_rfl))
                simp only [List.getElem?_toArray, List.getElem?_cons_zero, List.getElem?_cons_succ, Option.getD_some] at e72
                have e73 := hbaseF 73 (not_dst (by kernel_rfl))
                simp only [List.getElem?_toArray, List.getElem?_cons_zero, List.getElem?_cons_succ, Option.getD_some] at e73
                have e74 := hbaseF 74 (not_dst (by kernel_rfl))
                simp only [List.getElem?_toArray, List.getElem?_cons_zero, List.getElem?_cons_succ, Option.getD_some] at e74
                have e75 := hbaseF 75 (not_dst (by kernel_rfl))
                simp only [List.getElem?_toArray, List.getElem?_cons_zero, List.getElem?_cons_succ, Option.getD_some] at e75
                have e76 := hbaseF 76 (not_dst (by kernel_rfl))
                simp only [List.getElem?_toArray, List.getElem?_cons_zero, List.getElem?_cons_succ, Option.getD_some] at e76
                have e77 := hbaseF 77 (not_dst (by kernel_rfl))
                simp only [List.getElem?_toArray, List.getElem?_cons_zero, List.getElem?_cons_succ, Option.getD_some] at e77
                have e78 := hbaseF 78 (not_dst (by kernel_rfl))
                simp only [List.getElem?_toArray, List.getElem?_cons_zero, List.getElem?_cons_succ, Option.getD_some] at e78
                have e79 := hbaseF 79 (not_dst (by kernel_rfl))
                simp only [List.getElem?_toArray, List.getElem?_cons_zero, List.getElem?_cons_succ, Option.getD_some] at e79
                have e80 := hbaseF 80 (not_dst (by kernel_rfl))
                simp only [List.getElem?_toArray, List.getElem?_cons_zero, List.getElem?_cons_succ, Option.getD_some] at e80
                have e81 := hbaseF 81 (not_dst (by kernel_rfl))
                simp only [List.getElem?_toArray, List.getElem?_cons_zero, List.getElem?_cons_succ, Option.getD_some] at e81
                have e82 := hbaseF 82 (not_dst (by kernel_rfl))
                simp only [List.getElem?_toArray, List.getElem?_cons_zero, List.getElem?_cons_succ, Option.getD_some] at e82
                have e83 := hbaseF 83 (not_dst (by kernel_rfl))
                simp only [List.getElem?_toArray, List.getElem?_cons_zero, List.getElem?_cons_succ, Option.getD_some] at e83
                have e84 := hbaseF 84 (not_dst (by kernel_rfl))
                simp only [List.getElem?_toArray, List.getElem?_cons_zero, List.getElem?_cons_succ, Option.getD_some] at e84
                have e85 := hbaseF 85 (not_dst (by kernel_rfl))
                simp only [List.getElem?_toArray, List.getElem?_cons_zero, List.getElem?_cons_succ, Option.getD_some] at e85
                have e86 := hbaseF 86 (not_dst (by kernel_rfl))
                simp only [List.getElem?_toArray, List.getElem?_cons_zero, List.getElem?_cons_succ, Option.getD_some] at e86
                have e87 := hbaseF 87 (not_dst (by kernel_rfl))
                simp only [List.getElem?_toArray, List.getElem?_cons_zero, List.getElem?_cons_succ, Option.getD_some] at e87
                have e88 := hbaseF 88 (not_dst (by kernel_rfl))
                simp only [List.getElem?_toArray, List.getElem?_cons_zero, List.getElem?_cons_succ, Option.getD_some] at e88
                have e89 := hbaseF 89 (not_dst (by kernel_rfl))
                simp only [List.getElem?_toArray, List.getElem?_cons_zero, List.getElem?_cons_succ, Option.getD_some] at e89
                have e90 := hbaseF 90 (not_dst (by kernel_rfl))
                simp only [List.getElem?_toArray, List.getElem?_cons_zero, List.getElem?_cons_succ, Option.getD_some] at e90
                have e91 := hbaseF 91 (not_dst (by kernel_rfl))
                simp only [List.getElem?_toArray, List.getElem?_cons_zero, List.getElem?_cons_succ, Option.getD_some] at e91
                have e92 := hbaseF 92 (not_dst (by kernel_rfl))
                simp only [List.getElem?_toArray, List.getElem?_cons_zero, List.getElem?_cons_succ, Option.getD_some] at e92
                have e93 := hbaseF 93 (not_dst (by kernel_rfl))
                simp only [List.getElem?_toArray, List.getElem?_cons_zero, List.getElem?_cons_succ, Option.getD_some] at e93
                have e94 := hbaseF 94 (not_dst (by kernel_rfl))
                simp only [List.getElem?_toArray, List.getElem?_cons_zero, List.getElem?_cons_succ, Option.getD_some] at e94
                have e95 := hbaseF 95 (not_dst (by kernel_rfl))
                simp only [List.getElem?_toArray, List.getElem?_cons_zero, List.getElem?_cons_succ, Option.getD_some] at e95
                have e96 := hbaseF 96 (not_dst (by kernel_rfl))
                simp only [List.getElem?_toArray, List.getElem?_cons_zero, List.getElem?_cons_succ, Option.getD_some] at e96
                have e97 := hbaseF 97 (not_dst (by kernel_rfl))
                simp only [List.getElem?_toArray, List.getElem?_cons_zero, List.getElem?_cons_succ, Option.getD_some] at e97
                have e98 := hbaseF 98 (not_dst (by kernel_rfl))
                simp only [List.getElem?_toArray, List.getElem?_cons_zero, List.getElem?_cons_succ, Option.getD_some] at e98
                have e99 := hbaseF 99 (not_dst (by kernel_rfl))
                simp only [List.getElem?_toArray, List.getElem?_cons_zero, List.getElem?_cons_succ, Option.getD_some] at e99
                have e100 := hbaseF 100 (not_dst (by kernel_rfl))
                simp only [List.getElem?_toArray, List.getElem?_cons_zero, List.getElem?_cons_succ, Option.getD_some] at e100
                have e101 := hbaseF 101 (not_dst (by kernel_rfl))
                simp only [List.getElem?_toArray, List.getElem?_cons_zero, List.getElem?_cons_succ, Option.getD_some] at e101
                have e102 := hbaseF 102 (not_dst (by kernel_rfl))
                simp only [List.getElem?_toArray, List.getElem?_cons_zero, List.getElem?_cons_succ, Option.getD_some] at e102
                have e103 := hbaseF 103 (not_dst (by kernel_rfl))
                simp only [List.getElem?_toArray, List.getElem?_cons_zero, List.getElem?_cons_succ, Option.getD_some] at e103
                have e104 := hbaseF 104 (not_dst (by kernel_rfl))
                simp only [List.getElem?_toArray, List.getElem?_cons_zero, List.getElem?_cons_succ, Option.getD_some] at e104
                have e105 := hbaseF 105 (not_dst (by kernel_rfl))
                simp only [List.getElem?_toArray, List.getElem?_cons_zero, List.getElem?_cons_succ, Option.getD_some] at e105
                have e106 := hbaseF 106 (not_dst (by kernel_rfl))
                simp only [List.getElem?_toArray, List.getElem?_cons_zero, List.getElem?_cons_succ, Option.getD_some] at e106
                have e107 := hbaseF 107 (not_dst (by kernel_rfl))
                simp only [List.getElem?_toArray, List.getElem?_cons_zero, List.getElem?_cons_succ, Option.getD_some] at e107
                have e108 := hbaseF 108 (not_dst (by kernel_rfl))
                simp only [List.getElem?_toArray, List.getElem?_cons_zero, List.getElem?_cons_succ, Option.getD_some] at e108
                have e109 := hbaseF 109 (not_dst (by kernel_rfl))
                simp only [List.getElem?_toArray, List.getElem?_cons_zero, List.getElem?_cons_succ, Option.getD_some] at e109
                have e110 := hbaseF 110 (not_dst (by kernel_rfl))
                simp only [List.getElem?_toArray, List.getElem?_cons_zero, List.getElem?_cons_succ, Option.getD_some] at e110
                have e111 := hbaseF 111 (not_dst (by kernel_rfl))
                simp only [List.getElem?_toArray, List.getElem?_cons_zero, List.getElem?_cons_succ, Option.getD_some] at e111
                have e112 := hbaseF 112 (not_dst (by kernel_rfl))
                simp only [List.getElem?_toArray, List.getElem?_cons_zero, List.getElem?_cons_succ, Option.getD_some] at e112
                have e9 := hfactF 18 9 (by decide) rfl
                replace e9 : T[9]?.getD undef = .bool true := e9
                clear hbaseF hfactF
                have hT : T = #[T[0]?.getD undef, T[1]?.getD undef, T[2]?.getD undef, T[3]?.getD undef, T[4]?.getD undef, T[5]?.getD undef, T[6]?.getD undef, T[7]?.getD undef, T[8]?.getD undef, T[9]?.getD undef, T[10]?.getD undef, T[11]?.getD undef, T[12]?.getD undef, T[13]?.getD undef, T[14]?.getD undef, T[15]?.getD undef, T[16]?.getD undef, T[17]?.getD undef, T[18]?.getD undef, T[19]?.getD undef, T[20]?.getD undef, T[21]?.getD undef, T[22]?.getD undef, T[23]?.getD undef, T[24]?.getD undef, T[25]?.getD undef, T[26]?.getD undef, T[27]?.getD undef, T[28]?.getD undef, T[29]?.getD undef, T[30]?.getD undef, T[31]?.getD undef, T[32]?.getD undef, T[33]?.getD undef, T[34]?.getD undef, T[35]?.getD undef, T[36]?.getD undef, T[37]?.getD undef, T[38]?.getD undef, T[39]?.getD undef, T[40]?.getD undef, T[41]?.getD undef, T[42]?.getD undef, T[43]?.getD undef, T[44]?.getD undef, T[45]?.getD undef, T[46]?.getD undef, T[47]?.getD undef, T[48]?.getD undef, T[49]?.getD undef, T[50]?.getD undef, T[51]?.getD undef, T[52]?.getD undef, T[53]?.getD undef, T[54]?.getD undef, T[55]?.getD undef, T[56]?.getD undef, T[57]?.getD undef, T[58]?.getD undef, T[59]?.getD undef, T[60]?.getD undef, T[61]?.getD undef, T[62]?.getD undef, T[63]?.getD undef, T[64]?.getD undef, T[65]?.getD undef, T[66]?.getD undef, T[67]?.getD undef, T[68]?.getD undef, T[69]?.getD undef, T[70]?.getD undef, T[71]?.getD undef, T[72]?.getD undef, T[73]?.getD undef, T[74]?.getD undef, T[75]?.getD undef, T[76]?.getD undef, T[77]?.getD undef, T[78]?.getD undef, T[79]?.getD undef, T[80]?.getD undef, T[81]?.getD undef, T[82]?.getD undef, T[83]?.getD undef, T[84]?.getD undef, T[85]?.getD undef, T[86]?.getD undef, T[87]?.getD undef, T[88]?.getD undef, T[89]?.getD undef, T[90]?.getD undef, T[91]?.getD undef, T[92]?.getD undef, T[93]?.getD undef, T[94]?.getD undef, T[95]?.getD undef, T[96]?.getD undef, T[97]?.getD undef, T[98]?.getD undef, T[99]?.getD undef, T[100]?.getD undef, T[101]?.getD undef, T[102]?.getD undef, T[103]?.getD undef, T[104]?.getD undef, T[105]?.getD undef, T[106]?.getD undef, T[107]?.getD undef, T[108]?.getD undef, T[109]?.getD undef, T[110]?.getD undef, T[111]?.getD undef, T[112]?.getD undef] := arr_eq T 113 hsF
                clear hsF
                rw [e0] at hT; clear e0
                rw [e1] at hT; clear e1
                rw [e2] at hT; clear e2
                rw [e3] at hT; clear e3
                rw [e4] at hT; clear e4
                rw [e5] at hT; clear e5
                rw [e6] at hT; clear e6
                rw [e7] at hT; clear e7
                rw [e8] at hT; clear e8
                rw [e9] at hT; clear e9
                rw [e10] at hT; clear e10
                rw [e11] at hT; clear e11
                rw [e12] at hT; clear e12
                rw [e13] at hT; clear e13
                rw [e14] at hT; clear e14
                rw [e15] at hT; clear e15
                rw [e16] at hT; clear e16
                rw [e17] at hT; clear e17
                rw [e18] at hT; clear e18
                rw [e19] at hT; clear e19
                rw [e20] at hT; clear e20
                rw [e21] at hT; clear e21
                rw [e22] at hT; clear e22
                rw [e23] at hT; clear e23
                rw [e24] at hT; clear e24
                rw [e25] at hT; clear e25
                rw [e26] at hT; clear e26
                rw [e27] at hT; clear e27
                rw [e28] at hT; clear e28
                rw [e29] at hT; clear e29
                rw [e30] at hT; clear e30
                generalize T[31]?.getD undef = u31 at hT
                generalize T[32]?.getD undef = u32 at hT
                generalize T[33]?.getD undef = u33 at hT
                generalize T[34]?.getD undef = u34 at hT
                generalize T[35]?.getD undef = u35 at hT
                generalize T[36]?.getD undef = u36 at hT
                generalize T[37]?.getD undef = u37 at hT
                generalize T[38]?.getD undef = u38 at hT
                generalize T[39]?.getD undef = u39 at hT
                generalize T[40]?.getD undef = u40 at hT
                generalize T[41]?.getD undef = u41 at hT
                generalize T[42]?.getD undef = u42 at hT
                generalize T[43]?.getD undef = u43 at hT
                generalize T[44]?.getD undef = u44 at hT
                generalize T[45]?.getD undef = u45 at hT
                generalize T[46]?.getD undef = u46 at hT
                generalize T[47]?.getD undef = u47 at hT
                generalize T[48]?.getD undef = u48 at hT
                rw [e49] at hT; clear e49
                rw [e50] at hT; clear e50
                rw [e51] at hT; clear e51
                rw [e52] at hT; clear e52
                rw [e53] at hT; clear e53
                rw [e54] at hT; clear e54
                rw [e55] at hT; clear e55
                rw [e56] at hT; clear e56
                rw [e57] at hT; clear e57
                rw [e58] at hT; clear e58
                rw [e59] at hT; clear e59
                rw [e60] at hT; clear e60
                rw [e61] at hT; clear e61
                rw [e62] at hT; clear e62
                rw [e63] at hT; clear e63
                rw [e64] at hT; clear e64
                rw [e65] at hT; clear e65
                rw [e66] at hT; clear e66
                rw [e67] at hT; clear e67
                rw [e68] at hT; clear e68
                rw [e69] at hT; clear e69
                rw [e70] at hT; clear e70
                rw [e71] at hT; clear e71
                rw [e72] at hT; clear e72
                rw [e73] at hT; clear e73
                rw [e74] at hT; clear e74
                rw [e75] at hT; clear e75
                rw [e76] at hT; clear e76
                rw [e77] at hT; clear e77
                rw [e78] at hT; clear e78
                rw [e79] at hT; clear e79
                rw [e80] at hT; clear e80
                rw [e81] at hT; clear e81
                rw [e82] at hT; clear e82
                rw [e83] at hT; clear e83
                rw [e84] at hT; clear e84
                rw [e85] at hT; clear e85
                rw [e86] at hT; clear e86
                rw [e87] at hT; clear e87
                rw [e88] at hT; clear e88
                rw [e89] at hT; clear e89
                rw [e90] at hT; clear e90
                rw [e91] at hT; clear e91
                rw [e92] at hT; clear e92
                rw [e93] at hT; clear e93
                rw [e94] at hT; clear e94
                rw [e95] at hT; clear e95
                rw [e96] at hT; clear e96
                rw [e97] at hT; clear e97
                rw [e98] at hT; clear e98
                rw [e99] at hT; clear e99
                rw [e100] at hT; clear e100
                rw [e101] at hT; clear e101
                rw [e102] at hT; clear e102
                rw [e103] at hT; clear e103
                rw [e104] at hT; clear e104
                rw [e105] at hT; clear e105
                rw [e106] at hT; clear e106
                rw [e107] at hT; clear e107
                rw [e108] at hT; clear e108
                rw [e109] at hT; clear e109
                rw [e110] at hT; clear e110
                rw [e111] at hT; clear e111
                rw [e112] at hT; clear e112
                subst hT
                go_wp2_with fail
                go_meet
                exact ⟨rfl, L2, E2, hL80, hiF.1, hiF.2, hBq.kept hbF (by simp; omega), hK.trans hbF, hbel.trans (hbF.below hbel.size (by intro x hx; simp at hx; omega))⟩
            · have HT2 := Lib.hid (show Takes l' er (okN false xn) O L2 E2 by have := HT.out; rw [show numN xn = -1 by unfold numN; rw [if_pos (by omega)]] at this; exact this)
              have hx1' : 1 ≤ xn := by omega
              refine wp_flw [(fun y_ _ => y_ = .pointer (some ⟨g1, 0, none⟩)), (fun y_ _ => y_ = .pointer (some ⟨gq, 1, none⟩)), (fun y_ _ => y_ = .int .i64 xn), (fun y_ _ => y_ = .int .u64 (getL O : Int)), (fun y_ _ => y_ = .pointer (some ⟨g2, 0, none⟩)), (fun y_ _ => y_ = .pointer (some ⟨gq, 1, none⟩)), (fun y_ _ => y_ = .int .i64 xn), (fun y_ _ => y_ = .pointer (some ⟨gq, 1, none⟩)), (fun y_ _ => y_ = .int .i64 xn), (fun y_ _ => y_ = .bool true), (fun y_ _ => y_ = .bool true), (fun y_ _ => y_ = .pointer (some ⟨gq, 1, none⟩)), (fun y_ _ => y_ = .int .i64 xn), (fun y_ _ => y_ = .bool false), (fun y_ _ => y_ = .bool false), (IsN [g1, g2] (O.length) (O)), (fun y_ _ => y_ = .int .u64 (getL O : Int)), (fun y_ _ => y_ = .bool true), (fun y_ _ => y_ = .bool true)] [g1, g2] (rInv 87 55 g1 g2 l' er L2 E2) [3, 10, 15] (by kernel_rfl) ⟨StabW.eq _ _, StabW.eq _ _, StabW.eq _ _, StabW.eq _ _, StabW.eq _ _, StabW.eq _ _, StabW.eq _ _, StabW.eq _ _, StabW.eq _ _, StabW.eq _ _, StabW.eq _ _, StabW.eq _ _, StabW.eq _ _, StabW.eq _ _, StabW.eq _ _, StabW.b _ _ _, StabW.eq _ _, StabW.eq _ _, StabW.eq _ _, trivial⟩ (rInv_stab) (⟨hR, hS⟩) (by kernel_rfl) (by kernel_rfl) (by kernel_rfl) (by rfl) ?_ ?_
              · intro kq hkq
                match kq, hkq with
                | 0, _ =>
                  refine StepW.plain _ rfl rfl rfl [(5, none)] (by kernel_rfl) (fun af wf hbw hf Kf hKf => ?_)
                  obtain ⟨g5, _⟩ := hf
                  have h5 : af.tmps[5]?.getD undef = .pointer (some ⟨g1, 0, none⟩) := g5
                  clear g5
                  go_simp
                  exact hKf _ _ (Below.refl _ _) rfl
                | 1, _ =>
                  refine StepW.plain _ rfl rfl rfl [(8, none)] (by kernel_rfl) (fun af wf hbw hf Kf hKf => ?_)
                  obtain ⟨g8, _⟩ := hf
                  have h8 : af.tmps[8]?.getD undef = .pointer (some ⟨gq, 0, none⟩) := g8
                  clear g8
                  go_simp
                  exact hKf _ _ (Below.refl _ _) rfl
                | 2, _ =>
                  refine StepW.plain _ rfl rfl rfl [(32, some 1)] (by kernel_rfl) (fun af wf hbw hf Kf hKf => ?_)
                  obtain ⟨g32, _⟩ := hf
                  have h32 : af.tmps[32]?.getD undef = .pointer (some ⟨gq, 1, none⟩) := g32
                  clear g32
                  have cB0 := (Blk.kept (Blk.drew (hBq)) hbw ((by simp; omega))).cell
                  go_simp
                  exact hKf _ _ (Below.refl _ _) rfl
                | 3, _ =>
                  refine StepW.chain 0 _ rfl rfl rfl (by decide) [(31, some 0), (33, some 2)] (by kernel_rfl) (fun af wf hbw hiv hf Kf hKf => ?_)
                  obtain ⟨g31, g33, _⟩ := hf
                  have h31 : af.tmps[31]?.getD undef = .pointer (some ⟨g1, 0, none⟩) := g31
                  have h33 : af.tmps[33]?.getD undef = .int .i64 xn := g33
                  clear g31 g33
                  go_simp
                  refine (num_as g1 [g1, g2] l' er xn _ hiv.1 hx2 HT.out).mono ?_
                  rintro e wN ⟨rfl, hr1, hk1⟩
                  exact hKf _ _ (hk1.mono (by simp)) (⟨hr1, hiv.2.kept hk1 (by simp) (by simp; omega)⟩) (rfl)
                | 4, _ =>
                  refine StepW.plain _ rfl rfl rfl [(6, none)] (by kernel_rfl) (fun af wf hbw hf Kf hKf => ?_)
                  obtain ⟨g6, _⟩ := hf
                  have h6 : af.tmps[6]?.getD undef = .pointer (some ⟨g2, 0, none⟩) := g6
                  clear g6
                  go_simp
                  exact hKf _ _ (Below.refl _ _) rfl
                | 5, _ =>
                  refine StepW.plain _ rfl rfl rfl [(8, none)] (by kernel_rfl) (fun af wf hbw hf Kf hKf => ?_)
                  obtain ⟨g8, _⟩ := hf
                  have h8 : af.tmps[8]?.getD undef = .pointer (some ⟨gq, 0, none⟩) := g8
                  clear g8
                  go_simp
                  exact hKf _ _ (Below.refl _ _) rfl
                | 6, _ =>
                  refine StepW.plain _ rfl rfl rfl [(36, some 5)] (by kernel_rfl) (fun af wf hbw hf Kf hKf => ?_)
                  obtain ⟨g36, _⟩ := hf
                  have h36 : af.tmps[36]?.getD undef = .pointer (some ⟨gq, 1, none⟩) := g36
                  clear g36
                  have cB0 := (Blk.kept (Blk.drew (hBq)) hbw ((by simp; omega))).cell
                  go_simp
                  exact hKf _ _ (Below.refl _ _) rfl
                | 7, _ =>
                  refine StepW.plain _ rfl rfl rfl [(8, none)] (by kernel_rfl) (fun af wf hbw hf Kf hKf => ?_)
                  obtain ⟨g8, _⟩ := hf
                  have h8 : af.tmps[8]?.getD undef = .pointer (some ⟨gq, 0, none⟩) := g8
                  clear g8
                  go_simp
                  exact hKf _ _ (Below.refl _ _) rfl
                | 8, _ =>
                  refine StepW.plain _ rfl rfl rfl [(38, some 7)] (by kernel_rfl) (fun af wf hbw hf Kf hKf => ?_)
                  obtain ⟨g38, _⟩ := hf
                  have h38 : af.tmps[38]?.getD undef = .pointer (some ⟨gq, 1, none⟩) := g38
                  clear g38
                  have cB0 := (Blk.kept (Blk.drew (hBq)) hbw ((by simp; omega))).cell
                  go_simp
                  exact hKf _ _ (Below.refl _ _) rfl
                | 9, _ =>
                  refine StepW.plain _ rfl rfl rfl [(39, some 8)] (by kernel_rfl) (fun af wf hbw hf Kf hKf => ?_)
                  obtain ⟨g39, _⟩ := hf
                  have h39 : af.tmps[39]?.getD undef = .int .i64 xn := g39
                  clear g39
                  go_simp
                  exact hKf _ _ (Below.refl _ _) rfl
                | 10, _ =>
                  refine StepW.chain 1 _ rfl rfl rfl (by decide) [(40, some 9)] (by kernel_rfl) (fun af wf hbw hiv hf Kf hKf => ?_)
                  obtain ⟨g40, _⟩ := hf
                  have h40 : af.tmps[40]?.getD undef = .bool true := g40
                  clear g40
                  go_simp
                  exact hKf _ _ (Kept.refl _ _) (hiv) (rfl)
                | 11, _ =>
                  refine StepW.yes _ rfl rfl rfl rfl (fun _ _ h => h) [(8, none)] (by kernel_rfl) (fun af wf hbw hf Kf hKf => ?_)
                  obtain ⟨g8, _⟩ := hf
                  have h8 : af.tmps[8]?.getD undef = .pointer (some ⟨gq, 0, none⟩) := g8
                  clear g8
                  go_simp
                  exact hKf _ _ (Below.refl _ _) rfl
                | 12, _ =>
                  refine StepW.yes _ rfl rfl rfl rfl (fun _ _ h => h) [(42, some 11)] (by kernel_rfl) (fun af wf hbw hf Kf hKf => ?_)
                  obtain ⟨g42, _⟩ := hf
                  have h42 : af.tmps[42]?.getD undef = .pointer (some ⟨gq, 1, none⟩) := g42
                  clear g42
                  have cB0 := (Blk.kept (Blk.drew (hBq)) hbw ((by simp; omega))).cell
                  go_simp
                  exact hKf _ _ (Below.refl _ _) rfl
                | 13, _ =>
                  refine StepW.yes _ rfl rfl rfl rfl (fun _ _ h => h) [(43, some 12)] (by kernel_rfl) (fun af wf hbw hf Kf hKf => ?_)
                  obtain ⟨g43, _⟩ := hf
                  have h43 : af.tmps[43]?.getD undef = .int .i64 xn := g43
                  clear g43
                  have hdd : decide (xn ≤ (8 : Int)) = false := by simp; omega
                  go_simp
                  exact hKf _ _ (Below.refl _ _) rfl
                | 14, _ =>
                  refine StepW.plain _ rfl rfl rfl [(41, some 10), (44, some 13)] (by kernel_rfl) (fun af wf hbw hf Kf hKf => ?_)
                  obtain ⟨g41, g44, _⟩ := hf
                  have h41 : af.tmps[41]?.getD undef = .bool true := g41
                  have h44 : af.tmps[44]?.getD undef = .bool false := g44
                  clear g41 g44
                  go_simp
                  exact hKf _ _ (Below.refl _ _) rfl
                | 15, _ =>
                  refine StepW.chain 2 _ rfl rfl rfl (by decide) [(35, some 4), (37, some 6), (45, some 14)] (by kernel_rfl) (fun af wf hbw hiv hf Kf hKf => ?_)
                  obtain ⟨g35, g37, g45, _⟩ := hf
                  have h35 : af.tmps[35]?.getD undef = .pointer (some ⟨g2, 0, none⟩) := g35
                  have h37 : af.tmps[37]?.getD undef = .int .i64 xn := g37
                  have h45 : af.tmps[45]?.getD undef = .bool false := g45
                  clear g35 g37 g45
                  go_simp
                  refine (rtake_as g2 [g1, g2] l' er xn false _ hiv.2 hx2 HT2.out).mono ?_
                  rintro e wN ⟨AO, cO, rfl, hO1, hO2, hO3, hr2, hk2⟩
                  exact hKf _ _ (hk2.mono (by simp)) (⟨hiv.1.kept hk2 (by simp) (by simp; omega), hr2⟩) (⟨AO, cO, rfl, hO3, hO1, hO2⟩)
                | 16, _ =>
                  refine StepW.plain _ rfl rfl rfl [(46, some 15)] (by kernel_rfl) (fun af wf hbw hf Kf hKf => ?_)
                  obtain ⟨g46, _⟩ := hf
                  obtain ⟨A46, c46, h46, hR46, hn46, hm46⟩ : IsN [g1, g2] (O.length) (O) (af.tmps[46]?.getD undef) wf := g46
                  go_simp
                  refine (rget_as _ _ _ O _ hR46.1 (by omega) (by omega) h8.out).mono ?_
                  rintro e wN ⟨rfl, rfl⟩
                  exact hKf _ _ (Below.refl _ _) (rfl)
                | 17, _ =>
                  refine StepW.plain _ rfl rfl rfl [(34, some 3), (47, some 16)] (by kernel_rfl) (fun af wf hbw hf Kf hKf => ?_)
                  obtain ⟨g34, g47, _⟩ := hf
                  have h34 : af.tmps[34]?.getD undef = .int .u64 (getL O : Int) := g34
                  have h47 : af.tmps[47]?.getD undef = .int .u64 (getL O : Int) := g47
                  clear g34 g47
                  go_simp
                  exact hKf _ _ (Below.refl _ _) rfl
                | 18, _ =>
                  refine StepW.plain _ rfl rfl rfl [(48, some 17)] (by kernel_rfl) (fun af wf hbw hf Kf hKf => ?_)
                  obtain ⟨g48, _⟩ := hf
                  have h48 : af.tmps[48]?.getD undef = .bool true := g48
                  clear g48
                  go_simp
                  exact hKf _ _ (Below.refl _ _) rfl
                | i + 19, h => exact absurd h (by show ¬ (i + 19 < 19); omega)
              · intro af wF hbF hiF hdF hsF hbaseF hfactF
                obtain ⟨T, dsF⟩ := af
                obtain rfl : dsF = _ := hdF
                have e0 := hbaseF 0 (not_dst (by kernel_rfl))
                simp only [List.getElem?_toArray, List.getElem?_cons_zero, Option.getD_some] at e0
                have e1 := hbaseF 1 (not_dst (by kernel_rfl))
                simp only [List.getElem?_toArray, List.getElem?_cons_zero, List.getElem?_cons_succ, Option.getD_some] at e1
                have e2 := hbaseF 2 (not_dst (by kernel_rfl))
                simp only [List.getElem?_toArray, List.getElem?_cons_zero, List.getElem?_cons_succ, Option.getD_some] at e2
                have e3 := hbaseF 3 (not_dst (by kernel_rfl))
                simp only [List.getElem?_toArray, List.getElem?_cons_zero, List.getElem?_cons_succ, Option.getD_some] at e3
                have e4 := hbaseF 4 (not_dst (by kernel_rfl))
                simp only [List.getElem?_toArray, List.getElem?_cons_zero, List.getElem?_cons_succ, Option.getD_some] at e4
                have e5 := hbaseF 5 (not_dst (by kernel_rfl))
                simp only [List.getElem?_toArray, List.getElem?_cons_zero, List.getElem?_cons_succ, Option.getD_some] at e5
                have e6 := hbaseF 6 (not_dst (by kernel_rfl))
                simp only [List.getElem?_toArray, List.getElem?_cons_zero, List.getElem?_cons_succ, Option.getD_some] at e6
                have e7 := hbaseF 7 (not_dst (by kernel_rfl))
                simp only [List.getElem?_toArray, List.getElem?_cons_zero, List.getElem?_cons_succ, Option.getD_some] at e7
                have e8 := hbaseF 8 (not_dst (by kernel_rfl))
                simp only [List.getElem?_toArray, List.getElem?_cons_zero, List.getElem?_cons_succ, Option.getD_some] at e8
                have e10 := hbaseF 10 (not_dst (by kernel_rfl))
                simp only [List.getElem?_toArray, List.getElem?_cons_zero, List.getElem?_cons_succ, Option.getD_some] at e10
                have e11 := hbaseF 11 (not_dst (by kernel_rfl))
                simp only [List.getElem?_toArray, List.getElem?_cons_zero, List.getElem?_cons_succ, Option.getD_some] at e11
                have e12 := hbaseF 12 (not_dst (by kernel_rfl))
                simp only [List.getElem?_toArray, List.getElem?_cons_zero, List.getElem?_cons_succ, Option.getD_some] at e12
                have e13 := hbaseF 13 (not_dst (by kernel_rfl))
                simp only [List.getElem?_toArray, List.getElem?_cons_zero, List.getElem?_cons_succ, Option.getD_some] at e13
                have e14 := hbaseF 14 (not_dst (by kernel_rfl))
                simp only [List.getElem?_toArray, List.getElem?_cons_zero, List.getElem?_cons_succ, Option.getD_some] at e14
                have e15 := hbaseF 15 (not_dst (by kernel_rfl))
                simp only [List.getElem?_toArray, List.getElem?_cons_zero, List.getElem?_cons_succ, Option.getD_some] at e15
                have e16 := hbaseF 16 (not_dst (by kernel_rfl))
                simp only [List.getElem?_toArray, List.getElem?_cons_zero, List.getElem?_cons_succ, Option.getD_some] at e16
                have e17 := hbaseF 17 (not_dst (by kernel_rfl))
                simp only [List.getElem?_toArray, List.getElem?_cons_zero, List.getElem?_cons_succ, Option.getD_some] at e17
                have e18 := hbaseF 18 (not_dst (by kernel_rfl))
                simp only [List.getElem?_toArray, List.getElem?_cons_zero, List.getElem?_cons_succ, Option.getD_some] at e18
                have e19 := hbaseF 19 (not_dst (by kernel_rfl))
                simp only [List.getElem?_toArray, List.getElem?_cons_zero, List.getElem?_cons_succ, Option.getD_some] at e19
                have e20 := hbaseF 20 (not_dst (by kernel_rfl))
                simp only [List.getElem?_toArray, List.getElem?_cons_zero, List.getElem?_cons_succ, Option.getD_some] at e20
                have e21 := hbaseF 21 (not_dst (by kernel_rfl))
                simp only [List.getElem?_toArray, List.getElem?_cons_zero, List.getElem?_cons_succ, Option.getD_some] at e21
                have e22 := hbaseF 22 (not_dst (by kernel_rfl))
                simp only [List.getElem?_toArray, List.getElem?_cons_zero, List.getElem?_cons_succ, Option.getD_some] at e22
                have e23 := hbaseF 23 (not_dst (by kernel_rfl))
                simp only [List.getElem?_toArray, List.getElem?_cons_zero, List.getElem?_cons_succ, Option.getD_some] at e23
                have e24 := hbaseF 24 (not_dst (by kernel_rfl))
                simp only [List.getElem?_toArray, List.getElem?_cons_zero, List.getElem?_cons_succ, Option.getD_some] at e24
                have e25 := hbaseF 25 (not_dst (by kernel_rfl))
                simp only [List.getElem?_toArray, List.getElem?_cons_zero, List.getElem?_cons_succ, Option.getD_some] at e25
                have e26 := hbaseF 26 (not_dst (by kernel_rfl))
                simp only [List.getElem?_toArray, List.getElem?_cons_zero, List.getElem?_cons_succ, Option.getD_some] at e26
                have e27 := hbaseF 27 (not_dst (by kernel_rfl))
                simp only [List.getElem?_toArray, List.getElem?_cons_zero, List.getElem?_cons_succ, Option.getD_some] at e27
                have e28 := hbaseF 28 (not_dst (by kernel_rfl))
                simp only [List.getElem?_toArray, List.getElem?_cons_zero, List.getElem?_cons_succ, Option.getD_some] at e28
                have e29 := hbaseF 29 (not_dst (by kernel_rfl))
                simp only [List.getElem?_toArray, List.getElem?_cons_zero, List.getElem?_cons_succ, Option.getD_some] at e29
                have e30 := hbaseF 30 (not_dst (by kernel_rfl))
                simp only [List.getElem?_toArray, List.getElem?_cons_zero, List.getElem?_cons_succ, Option.getD_some] at e30
                have e49 := hbaseF 49 (not_dst (by kernel_rfl))
                simp only [List.getElem?_toArray, List.getElem?_cons_zero, List.getElem?_cons_succ, Option.getD_some] at e49
                have e50 := hbaseF 50 (not_dst (by kernel_rfl))
                simp only [List.getElem?_toArray, List.getElem?_cons_zero, List.getElem?_cons_succ, Option.getD_some] at e50
                have e51 := hbaseF 51 (not_dst (by kernel_rfl))
                simp only [List.getElem?_toArray, List.getElem?_cons_zero, List.getElem?_cons_succ, Option.getD_some] at e51
                have e52 := hbaseF 52 (not_dst (by kernel_rfl))
                simp only [List.getElem?_toArray, List.getElem?_cons_zero, List.getElem?_cons_succ, Option.getD_some] at e52
                have e53 := hbaseF 53 (not_dst (by kernel_rfl))
                simp only [List.getElem?_toArray, List.getElem?_cons_zero, List.getElem?_cons_succ, Option.getD_some] at e53
                have e54 := hbaseF 54 (not_dst (by kernel_rfl))
                simp only [List.getElem?_toArray, List.getElem?_cons_zero, List.getElem?_cons_succ, Option.getD_some] at e54
                have e55 := hbaseF 55 (not_dst (by kernel_rfl))
                simp only [List.getElem?_toArray, List.getElem?_cons_zero, List.getElem?_cons_succ, Option.getD_some] at e55
                have e56 := hbaseF 56 (not_dst (by kernel_rfl))
                simp only [List.getElem?_toArray, List.getElem?_cons_zero, List.getElem?_cons_succ, Option.getD_some] at e56
                have e57 := hbaseF 57 (not_dst (by kernel_rfl))
                simp only [List.getElem?_toArray, List.getElem?_cons_zero, List.getElem?_cons_succ, Option.getD_some] at e57
                have e58 := hbaseF 58 (not_dst (by kernel_rfl))
                simp only [List.getElem?_toArray, List.getElem?_cons_zero, List.getElem?_cons_succ, Option.getD_some] at e58
                have e59 := hbaseF 59 (not_dst (by kernel_rfl))
                simp only [List.getElem?_toArray, List.getElem?_cons_zero, List.getElem?_cons_succ, Option.getD_some] at e59
                have e60 := hbaseF 60 (not_dst (by kernel_rfl))
                simp only [List.getElem?_toArray, List.getElem?_cons_zero, List.getElem?_cons_succ, Option.getD_some] at e60
                have e61 := hbaseF 61 (not_dst (by kernel_rfl))
                simp only [List.getElem?_toArray, List.getElem?_cons_zero, List.getElem?_cons_succ, Option.getD_some] at e61
                have e62 := hbaseF 62 (not_dst (by kernel_rfl))
                simp only [List.getElem?_toArray, List.getElem?_cons_zero, List.getElem?_cons_succ, Option.getD_some] at e62
                have e63 := hbaseF 63 (not_dst (by kernel_rfl))
                simp only [List.getElem?_toArray, List.getElem?_cons_zero, List.getElem?_cons_succ, Option.getD_some] at e63
                have e64 := hbaseF 64 (not_dst (by kernel_rfl))
                simp only [List.getElem?_toArray, List.getElem?_cons_zero, List.getElem?_cons_succ, Option.getD_some] at e64
                have e65 := hbaseF 65 (not_dst (by kernel_rfl))
                simp only [List.getElem?_toArray, List.getElem?_cons_zero, List.getElem?_cons_succ, Option.getD_some] at e65
                have e66 := hbaseF 66 (not_dst (by kernel_rfl))
                simp only [List.getElem?_toArray, List.getElem?_cons_zero, List.getElem?_cons_succ, Option.getD_some] at e66
                have e67 := hbaseF 67 (not_dst (by kernel_rfl))
                simp only [List.getElem?_toArray, List.getElem?_cons_zero, List.getElem?_cons_succ, Option.getD_some] at e67
                have e68 := hbaseF 68 (not_dst (by kernel_rfl))
                simp only [List.getElem?_toArray, List.getElem?_cons_zero, List.getElem?_cons_succ, Option.getD_some] at e68
                have e69 := hbaseF 69 (not_dst (by kernel_rfl))
                simp only [List.getElem?_toArray, List.getElem?_cons_zero, List.getElem?_cons_succ, Option.getD_some] at e69
                have e70 := hbaseF 70 (not_dst (by kernel_rfl))
                simp only [List.getElem?_toArray, List.getElem?_cons_zero, List.getElem?_cons_succ, Option.getD_some] at e70
                have e71 := hbaseF 71 (not_dst (by kernel_rfl))
                simp only [List.getElem?_toArray, List.getElem?_cons_zero, List.getElem?_cons_succ, Option.getD_some] at e71
                have e72 := hbaseF 72 (not_dst (by kernel_rfl))
                simp only [List.getElem?_toArray, List.getElem?_cons_zero, List.getElem?_cons_succ, Option.getD_some] at e72
                have e73 := hbaseF 73 (not_dst (by kernel_rfl))
                simp only [List.getElem?_toArray, List.getElem?_cons_zero, List.getElem?_cons_succ, Option.getD_some] at e73
                have e74 := hbaseF 74 (not_dst (by kernel_rfl))
                simp only [List.getElem?_toArray, List.getElem?_cons_zero, List.getElem?_cons_succ, Option.getD_some] at e74
                have e75 := hbaseF 75 (not_dst (by kernel_rfl))
                simp only [List.getElem?_toArray, List.getElem?_cons_zero, List.getElem?_cons_succ, Option.getD_some] at e75
                have e76 := hbaseF 76 (not_dst (by kernel_rfl))
                simp only [List.getElem?_toArray, List.getElem?_cons_zero, List.getElem?_cons_succ, Option.getD_some] at e76
                have e77 := hbaseF 77 (not_dst (by kernel_rfl))
                simp only [List.getElem?_toArray, List.getElem?_cons_zero, List.getElem?_cons_succ, Option.getD_some] at e77
                have e78 := hbaseF 78 (not_dst (by kernel_rfl))
                simp only [List.getElem?_toArray, List.getElem?_cons_zero, List.getElem?_cons_succ, Option.getD_some] at e78
                have e79 := hbaseF 79 (not_dst (by kernel_rfl))
                simp only [List.getElem?_toArray, List.getElem?_cons_zero, List.getElem?_cons_succ, Option.getD_some] at e79
                have e80 := hbaseF 80 (not_dst (by kernel_rfl))
                simp only [List.getElem?_toArray, List.getElem?_cons_zero, List.getElem?_cons_succ, Option.getD_some] at e80
                have e81 := hbaseF 81 (not_dst (by kernel_rfl))
                simp only [List.getElem?_toArray, List.getElem?_cons_zero, List.getElem?_cons_succ, Option.getD_some] at e81
                have e82 := hbaseF 82 (not_dst (by kernel_rfl))
                simp only [List.getElem?_toArray, List.getElem?_cons_zero, List.getElem?_cons_succ, Option.getD_some] at e82
                have e83 := hbaseF 83 (not_dst (by kernel_rfl))
                simp only [List.getElem?_toArray, List.getElem?_cons_zero, List.getElem?_cons_succ, Option.getD_some] at e83
                have e84 := hbaseF 84 (not_dst (by kernel_rfl))
                simp only [List.getElem?_toArray, List.getElem?_cons_zero, List.getElem?_cons_succ, Option.getD_some] at e84
                have e85 := hbaseF 85 (not_dst (by kernel_rfl))
                simp only [List.getElem?_toArray, List.getElem?_cons_zero, List.getElem?_cons_succ, Option.getD_some] at e85
                have e86 := hbaseF 86 (not_dst (by kernel_rfl))
                simp only [List.getElem?_toArray, List.getElem?_cons_zero, List.getElem?_cons_succ, Option.getD_some] at e86
                have e87 := hbaseF 87 (not_dst (by kernel_rfl))
                simp only [List.getElem?_toArray, List.getElem?_cons_zero, List.getElem?_cons_succ, Option.getD_some] at e87
                have e88 := hbaseF 88 (not_dst (by kernel_rfl))
                simp only [List.getElem?_toArray, List.getElem?_cons_zero, List.getElem?_cons_succ, Option.getD_some] at e88
                have e89 := hbaseF 89 (not_dst (by kernel_rfl))
                simp only [List.getElem?_toArray, List.getElem?_cons_zero, List.getElem?_cons_succ, Option.getD_some] at e89
                have e90 := hbaseF 90 (not_dst (by kernel_rfl))
                simp only [List.getElem?_toArray, List.getElem?_cons_zero, List.getElem?_cons_succ, Option.getD_some] at e90
                have e91 := hbaseF 91 (not_dst (by kernel_rfl))
                simp only [List.getElem?_toArray, List.getElem?_cons_zero, List.getElem?_cons_succ, Option.getD_some] at e91
                have e92 := hbaseF 92 (not_dst (by kernel_rfl))
                simp only [List.getElem?_toArray, List.getElem?_cons_zero, List.getElem?_cons_succ, Option.getD_some] at e92
                have e93 := hbaseF 93 (not_dst (by kernel_rfl))
                simp only [List.getElem?_toArray, List.getElem?_cons_zero, List.getElem?_cons_succ, Option.getD_some] at e93
                have e94 := hbaseF 94 (not_dst (by kernel_rfl))
                simp only [List.getElem?_toArray, List.getElem?_cons_zero, List.getElem?_cons_succ, Option.getD_some] at e94
                have e95 := hbaseF 95 (not_dst (by kernel_rfl))
                simp only [List.getElem?_toArray, List.getElem?_cons_zero, List.getElem?_cons_succ, Option.getD_some] at e95
                have e96 := hbaseF 96 (not_dst (by kernel_rfl))
                simp only [List.getElem?_toArray, List.getElem?_cons_zero, List.getElem?_cons_succ, Option.getD_some] at e96
                have e97 := hbaseF 97 (not_dst (by kernel_rfl))
                simp only [List.getElem?_toArray, List.getElem?_cons_zero, List.getElem?_cons_succ, Option.getD_some] at e97
                have e98 := hbaseF 98 (not_dst (by kernel_rfl))
                simp only [List.getElem?_toArray, List.getElem?_cons_zero, List.getElem?_cons_succ, Option.getD_some] at e98
                have e99 := hbaseF 99 (not_dst (by kernel_rfl))
                simp only [List.getElem?_toArray, List.getElem?_cons_zero, List.getElem?_cons_succ, Option.getD_some] at e99
                have e100 := hbaseF 100 (not_dst (by kernel_rfl))
                simp only [List.getElem?_toArray, List.getElem?_cons_zero, List.getElem?_cons_succ, Option.getD_some] at e100
                have e101 := hbaseF 101 (not_dst (by kernel_rfl))
                simp only [List.getElem?_toArray, List.getElem?_cons_zero, List.getElem?_cons_succ, Option.getD_some] at e101
                have e102 := hbaseF 102 (not_dst (by kernel_rfl))
                simp only [List.getElem?_toArray, List.getElem?_cons_zero, List.getElem?_cons_succ, Option.getD_some] at e102
                have e103 := hbaseF 103 (not_dst (by kernel_rfl))
                simp only [List.getElem?_toArray, List.getElem?_cons_zero, List.getElem?_cons_succ, Option.getD_some] at e103
                have e104 := hbaseF 104 (not_dst (by kernel_rfl))
                simp only [List.getElem?_toArray, List.getElem?_cons_zero, List.getElem?_cons_succ, Option.getD_some] at e104
                have e105 := hbaseF 105 (not_dst (by kernel_rfl))
                simp only [List.getElem?_toArray, List.getElem?_cons_zero, List.getElem?_cons_succ, Option.getD_some] at e105
                have e106 := hbaseF 106 (not_dst (by kernel_rfl))
                simp only [List.getElem?_toArray, List.getElem?_cons_zero, List.getElem?_cons_succ, Option.getD_some] at e106
                have e107 := hbaseF 107 (not_dst (by kernel_rfl))
                simp only [List.getElem?_toArray, List.getElem?_cons_zero, List.getElem?_cons_succ, Option.getD_some] at e107
                have e108 := hbaseF 108 (not_dst (by kernel_rfl))
                simp only [List.getElem?_toArray, List.getElem?_cons_zero, List.getElem?_cons_succ, Option.getD_some] at e108
                have e109 := hbaseF 109 (not_dst (by kernel_rfl))
                simp only [List.getElem?_toArray, List.getElem?_cons_zero, List.getElem?_cons_succ, Option.getD_some] at e109
                have e110 := hbaseF 110 (not_dst (by kernel_rfl))
                simp only [List.getElem?_toArray, List.getElem?_cons_zero, List.getElem?_cons_succ, Option.getD_some] at e110
                have e111 := hbaseF 111 (not_dst (by kernel_rfl))
                simp only [List.getElem?_toArray, List.getElem?_cons_zero, List.getElem?_cons_succ, Option.getD_some] at e111
                have e112 := hbaseF 112 (not_dst (by kernel_rfl))
                simp only [List.getElem?_toArray, List.getElem?_cons_zero, List.getElem?_cons_succ, Option.getD_some] at e112
                have e9 := hfactF 18 9 (by decide) rfl
                replace e9 : T[9]?.getD undef = .bool true := e9
                clear hbaseF hfactF
                have hT : T = #[T[0]?.getD undef, T[1]?.getD undef, T[2]?.getD undef, T[3]?.getD undef, T[4]?.getD undef, T[5]?.getD undef, T[6]?.getD undef, T[7]?.getD undef, T[8]?.getD undef, T[9]?.getD undef, T[10]?.getD undef, T[11]?.getD undef, T[12]?.getD undef, T[13]?.getD undef, T[14]?.getD undef, T[15]?.getD undef, T[16]?.getD undef, T[17]?.getD undef, T[18]?.getD undef, T[19]?.getD undef, T[20]?.getD undef, T[21]?.getD undef, T[22]?.getD undef, T[23]?.getD undef, T[24]?.getD undef, T[25]?.getD undef, T[26]?.getD undef, T[27]?.getD undef, T[28]?.getD undef, T[29]?.getD undef, T[30]?.getD undef, T[31]?.getD undef, T[32]?.getD undef, T[33]?.getD undef, T[34]?.getD undef, T[35]?.getD undef, T[36]?.getD undef, T[37]?.getD undef, T[38]?.getD undef, T[39]?.getD undef, T[40]?.getD undef, T[41]?.getD undef, T[42]?.getD undef, T[43]?.getD undef, T[44]?.getD undef, T[45]?.getD undef, T[46]?.getD undef, T[47]?.getD undef, T[48]?.getD undef, T[49]?.getD undef, T[50]?.getD undef, T[51]?.getD undef, T[52]?.getD undef, T[53]?.getD undef, T[54]?.getD undef, T[55]?.getD undef, T[56]?.getD undef, T[57]?.getD undef, T[58]?.getD undef, T[59]?.getD undef, T[60]?.getD undef, T[61]?.getD undef, T[62]?.getD undef, T[63]?.getD undef, T[64]?.getD undef, T[65]?.getD undef, T[66]?.getD undef, T[67]?.getD undef, T[68]?.getD undef, T[69]?.getD undef, T[70]?.getD undef, T[71]?.getD undef, T[72]?.getD undef, T[73]?.getD undef, T[74]?.getD undef, T[75]?.getD undef, T[76]?.getD undef, T[77]?.getD undef, T[78]?.getD undef, T[79]?.getD undef, T[80]?.getD undef, T[81]?.getD undef, T[82]?.getD undef, T[83]?.getD undef, T[84]?.getD undef, T[85]?.getD undef, T[86]?.getD undef, T[87]?.getD undef, T[88]?.getD undef, T[89]?.getD undef, T[90]?.getD undef, T[91]?.getD undef, T[92]?.getD undef, T[93]?.getD undef, T[94]?.getD undef, T[95]?.getD undef, T[96]?.getD undef, T[97]?.getD undef, T[98]?.getD undef, T[99]?.getD undef, T[100]?.getD undef, T[101]?.getD undef, T[102]?.getD undef, T[103]?.getD undef, T[104]?.getD undef, T[105]?.getD undef, T[106]?.getD undef, T[107]?.getD undef, T[108]?.getD undef, T[109]?.getD undef, T[110]?.getD undef, T[111]?.getD undef, T[112]?.getD undef] := arr_eq T 113 hsF
                clear hsF
                rw [e0] at hT; clear e0
                rw [e1] at hT; clear e1
                rw [e2] at hT; clear e2
                rw [e3] at hT; clear e3
                rw [e4] at hT; clear e4
                rw [e5] at hT; clear e5
                rw [e6] at hT; clear e6
                rw [e7] at hT; clear e7
                rw [e8] at hT; clear e8
                rw [e9] at hT; clear e9
                rw [e10] at hT; clear e10
                rw [e11] at hT; clear e11
                rw [e12] at hT; clear e12
                rw [e13] at hT; clear e13
                rw [e14] at hT; clear e14
                rw [e15] at hT; clear e15
                rw [e16] at hT; clear e16
                rw [e17] at hT; clear e17
                rw [e18] at hT; clear e18
                rw [e19] at hT; clear e19
                rw [e20] at hT; clear e20
                rw [e21] at hT; clear e21
                rw [e22] at hT; clear e22
                rw [e23] at hT; clear e23
                rw [e24] at hT; clear e24
                rw [e25] at hT; clear e25
                rw [e26] at hT; clear e26
                rw [e27] at hT; clear e27
                rw [e28] at hT; clear e28
                rw [e29] at hT; clear e29
                rw [e30] at hT; clear e30
                generalize T[31]?.getD undef = u31 at hT
                generalize T[32]?.getD undef = u32 at hT
                generalize T[33]?.getD undef = u33 at hT
                generalize T[34]?.getD undef = u34 at hT
                generalize T[35]?.getD undef = u35 at hT
                generalize T[36]?.getD undef = u36 at hT
                generalize T[37]?.getD undef = u37 at hT
                generalize T[38]?.getD undef = u38 at hT
                generalize T[39]?.getD undef = u39 at hT
                generalize T[40]?.getD undef = u40 at hT
                generalize T[41]?.getD undef = u41 at hT
                generalize T[42]?.getD undef = u42 at hT
                generalize T[43]?.getD undef = u43 at hT
                generalize T[44]?.getD undef = u44 at hT
                generalize T[45]?.getD undef = u45 at hT
                generalize T[46]?.getD undef = u46 at hT
                generalize T[47]?.getD undef = u47 at hT
                generalize T[48]?.getD undef = u48 at hT
                rw [e49] at hT; clear e49
                rw [e50] at hT; clear e50
                rw [e51] at hT; clear e51
                rw [e52] at hT; clear e52
                rw [e53] at hT; clear e53
                rw [e54] at hT; clear e54
                rw [e55] at hT; clear e55
                rw [e56] at hT; clear e56
                rw [e57] at hT; clear e57
                rw [e58] at hT; clear e58
                rw [e59] at hT; clear e59
                rw [e60] at hT; clear e60
                rw [e61] at hT; clear e61
                rw [e62] at hT; clear e62
                rw [e63] at hT; clear e63
                rw [e64] at hT; clear e64
                rw [e65] at hT; clear e65
                rw [e66] at hT; clear e66
                rw [e67] at hT; clear e67
                rw [e68] at hT; clear e68
                rw [e69] at hT; clear e69
                rw [e70] at hT; clear e70
                rw [e71] at hT; clear e71
                rw [e72] at hT; clear e72
                rw [e73] at hT; clear e73
                rw [e74] at hT; clear e74
                rw [e75] at hT; clear e75
                rw [e76] at hT; clear e76
                rw [e77] at hT; clear e77
                rw [e78] at hT; clear e78
                rw [e79] at hT; clear e79
                rw [e80] at hT; clear e80
                rw [e81] at hT; clear e81
                rw [e82] at hT; clear e82
                rw [e83] at hT; clear e83
                rw [e84] at hT; clear e84
                rw [e85] at hT; clear e85
                rw [e86] at hT; clear e86
                rw [e87] at hT; clear e87
                rw [e88] at hT; clear e88
                rw [e89] at hT; clear e89
                rw [e90] at hT; clear e90
                rw [e91] at hT; clear e91
                rw [e92] at hT; clear e92
                rw [e93] at hT; clear e93
                rw [e94] at hT; clear e94
                rw [e95] at hT; clear e95
                rw [e96] at hT; clear e96
                rw [e97] at hT; clear e97
                rw [e98] at hT; clear e98
                rw [e99] at hT; clear e99
                rw [e100] at hT; clear e100
                rw [e101] at hT; clear e101
                rw [e102] at hT; clear e102
                rw [e103] at hT; clear e103
                rw [e104] at hT; clear e104
                rw [e105] at hT; clear e105
                rw [e106] at hT; clear e106
                rw [e107] at hT; clear e107
                rw [e108] at hT; clear e108
                rw [e109] at hT; clear e109
                rw [e110] at hT; clear e110
                rw [e111] at hT; clear e111
                rw [e112] at hT; clear e112
                subst hT
                go_wp2_with fail
                go_meet
                exact ⟨rfl, L2, E2, hL80, hiF.1, hiF.2, hBq.kept hbF (by simp; omega), hK.trans hbF, hbel.trans (hbF.below hbel.size (by intro x hx; simp at hx; omega))⟩
          · have hq0 : (x1 == 0) = false := by simp [hk0]
            clear hk0
            go_wp2_with fail
            go_meet
            exact ⟨rfl, l', er, hl', hR, hS, hBq, hK, hbel⟩
        case rest =>
          obtain ⟨rfl, hcut⟩ := hcut
          clear hR hS hBq hK hbel hl' hQ
          obtain ⟨l1, er1, hl', hR, hS, hBq, hK, hbel⟩ := hcut
          clear l' er
          generalize l1 = l' at *
          generalize er1 = er at *
          have cQ := hBq.cell
          go_upto_if 51 with fail
          clear cQ
          go_cut [9] (fun s9 wx => s9 = .bool true ∧ RowsAre 87 55 57 g1 g2 gq x1 xn w2 w wx)
          case first =>
            by_cases hk1 : x1 = 1
            · subst hk1
              obtain ⟨O, L2, E2, hT⟩ : ∃ O L2 E2, Takes l' er xn O L2 E2 := ⟨_, _, _, rfl, rfl, rfl⟩
              obtain ⟨hO80, hL80⟩ := takes_len hT hl'
              have HT := Lib.hid hT
              clear hT
              go_wp2_with fail
              refine wp_flw [(fun y_ _ => y_ = .pointer (some ⟨g1, 0, none⟩)), (fun y_ _ => y_ = .pointer (some ⟨gq, 1, none⟩)), (fun y_ _ => y_ = .int .i64 xn), (IsN [g1, g2] (O.length) (O)), (fun y_ _ => y_ = .string (str (O))), (fun y_ _ => y_ = .pointer (some ⟨g2, 0, none⟩)), (fun y_ _ => y_ = .pointer (some ⟨gq, 1, none⟩)), (fun y_ _ => y_ = .int .i64 xn), (IsN [g1, g2] (O.length) (O)), (fun y_ _ => y_ = .string (str (O))), (fun y_ _ => y_ = .bool true), (fun y_ _ => y_ = .bool true)] [g1, g2] (rInvB 87 55 g1 g2 l' er L2 E2) [3, 8] (by kernel_rfl) ⟨StabW.eq _ _, StabW.eq _ _, StabW.eq _ _, StabW.b _ _ _, StabW.eq _ _, StabW.eq _ _, StabW.eq _ _, StabW.eq _ _, StabW.b _ _ _, StabW.eq _ _, StabW.eq _ _, StabW.eq _ _, trivial⟩ (rInvB_stab) (⟨hR, hS⟩) (by kernel_rfl) (by kernel_rfl) (by kernel_rfl) (by rfl) ?_ ?_
              · intro kq hkq
                match kq, hkq with
                | 0, _ =>
                  refine StepW.plain _ rfl rfl rfl [(5, none)] (by kernel_rfl) (fun af wf hbw hf Kf hKf => ?_)
                  obtain ⟨g5, _⟩ := hf
                  have h5 : af.tmps[5]?.getD undef = .pointer (some ⟨g1, 0, none⟩) := g5
                  clear g5
                  go_simp
                  exact hKf _ _ (Below.refl _ _) rfl
                | 1, _ =>
                  refine StepW.plain _ rfl rfl rfl [(8, none)] (by kernel_rfl) (fun af wf hbw hf Kf hKf => ?_)
                  obtain ⟨g8, _⟩ := hf
                  have h8 : af.tmps[8]?.getD undef = .pointer (some ⟨gq, 0, none⟩) := g8
                  clear g8
                  go_simp
                  exact hKf _ _ (Below.refl _ _) rfl
                | 2, _ =>
                  refine StepW.plain _ rfl rfl rfl [(53, some 1)] (by kernel_rfl) (fun af wf hbw hf Kf hKf => ?_)
                  obtain ⟨g53, _⟩ := hf
                  have h53 : af.tmps[53]?.getD undef = .pointer (some ⟨gq, 1, none⟩) := g53
                  clear g53
                  have cB0 := (Blk.kept (Blk.drew (hBq)) hbw ((by simp; omega))).cell
                  go_simp
                  exact hKf _ _ (Below.refl _ _) rfl
                | 3, _ =>
                  refine StepW.chain 0 _ rfl rfl rfl (by decide) [(52, some 0), (54, some 2)] (by kernel_rfl) (fun af wf hbw hiv hf Kf hKf => ?_)
                  obtain ⟨g52, g54, _⟩ := hf
                  have h52 : af.tmps[52]?.getD undef = .pointer (some ⟨g1, 0, none⟩) := g52
                  have h54 : af.tmps[54]?.getD undef = .int .i64 xn := g54
                  clear g52 g54
                  go_simp
                  refine (rbytes_as g1 [g1, g2] l' er xn _ hiv.1 hx2 (by omega) HT.out).mono ?_
                  rintro e wN ⟨vO, rfl, hFO, hr1, hk1⟩
                  exact hKf _ _ (hk1.mono (by simp)) (⟨hr1, hiv.2.kept hk1 (by simp) (by simp; omega)⟩) (IsN.of hFO (by have := hiv.1.lt; have := hiv.2.lt; intro z hz; simp at hz; omega) rfl)
                | 4, _ =>
                  refine StepW.plain _ rfl rfl rfl [(55, some 3)] (by kernel_rfl) (fun af wf hbw hf Kf hKf => ?_)
                  obtain ⟨g55, _⟩ := hf
                  obtain ⟨A55, c55, h55, hR55, hn55, hm55⟩ : IsN [g1, g2] (O.length) (O) (af.tmps[55]?.getD undef) wf := g55
                  have hcv := conv c55 _ hR55.1
                  go_simp
                  exact hKf _ _ (Below.refl _ _) rfl
                | 5, _ =>
                  refine StepW.plain _ rfl rfl rfl [(6, none)] (by kernel_rfl) (fun af wf hbw hf Kf hKf => ?_)
                  obtain ⟨g6, _⟩ := hf
                  have h6 : af.tmps[6]?.getD undef = .pointer (some ⟨g2, 0, none⟩) := g6
                  clear g6
                  go_simp
                  exact hKf _ _ (Below.refl _ _) rfl
                | 6, _ =>
                  refine StepW.plain _ rfl rfl rfl [(8, none)] (by kernel_rfl) (fun af wf hbw hf Kf hKf => ?_)
                  obtain ⟨g8, _⟩ := hf
                  have h8 : af.tmps[8]?.getD undef = .pointer (some ⟨gq, 0, none⟩) := g8
                  clear g8
                  go_simp
                  exact hKf _ _ (Below.refl _ _) rfl
                | 7, _ =>
                  refine StepW.plain _ rfl rfl rfl [(58, some 6)] (by kernel_rfl) (fun af wf hbw hf Kf hKf => ?_)
                  obtain ⟨g58, _⟩ := hf
                  have h58 : af.tmps[58]?.getD undef = .pointer (some ⟨gq, 1, none⟩) := g58
                  clear g58
                  have cB0 := (Blk.kept (Blk.drew (hBq)) hbw ((by simp; omega))).cell
                  go_simp
                  exact hKf _ _ (Below.refl _ _) rfl
                | 8, _ =>
                  refine StepW.chain 1 _ rfl rfl rfl (by decide) [(57, some 5), (59, some 7)] (by kernel_rfl) (fun af wf hbw hiv hf Kf hKf => ?_)
                  obtain ⟨g57, g59, _⟩ := hf
                  have h57 : af.tmps[57]?.getD undef = .pointer (some ⟨g2, 0, none⟩) := g57
                  have h59 : af.tmps[59]?.getD undef = .int .i64 xn := g59
                  clear g57 g59
                  go_simp
                  refine (rtake_as g2 [g1, g2] l' er xn true _ hiv.2 hx2 HT.out).mono ?_
                  rintro e wN ⟨AO, cO, rfl, hO1, hO2, hO3, hr2, hk2⟩
                  exact hKf _ _ (hk2.mono (by simp)) (⟨hiv.1.kept hk2 (by simp) (by simp; omega), hr2⟩) (⟨AO, cO, rfl, hO3, hO1, hO2⟩)
                | 9, _ =>
                  refine StepW.plain _ rfl rfl rfl [(60, some 8)] (by kernel_rfl) (fun af wf hbw hf Kf hKf => ?_)
                  obtain ⟨g60, _⟩ := hf
                  obtain ⟨A60, c60, h60, hR60, hn60, hm60⟩ : IsN [g1, g2] (O.length) (O) (af.tmps[60]?.getD undef) wf := g60
                  have hcv := conv c60 _ hR60.1
                  go_simp
                  exact hKf _ _ (Below.refl _ _) rfl
                | 10, _ =>
                  refine StepW.plain _ rfl rfl rfl [(56, some 4), (61, some 9)] (by kernel_rfl) (fun af wf hbw hf Kf hKf => ?_)
                  obtain ⟨g56, g61, _⟩ := hf
                  have h56 : af.tmps[56]?.getD undef = .string (str (O)) := g56
                  have h61 : af.tmps[61]?.getD undef = .string (str (O)) := g61
                  clear g56 g61
                  go_simp
                  exact hKf _ _ (Below.refl _ _) rfl
                | 11, _ =>
                  refine StepW.plain _ rfl rfl rfl [(62, some 10)] (by kernel_rfl) (fun af wf hbw hf Kf hKf => ?_)
                  obtain ⟨g62, _⟩ := hf
                  have h62 : af.tmps[62]?.getD undef = .bool true := g62
                  clear g62
                  go_simp
                  exact hKf _ _ (Below.refl _ _) rfl
                | i + 12, h => exact absurd h (by show ¬ (i + 12 < 12); omega)
              · intro af wF hbF hiF hdF hsF hbaseF hfactF
                obtain ⟨T, dsF⟩ := af
                obtain rfl : dsF = _ := hdF
                have e0 := hbaseF 0 (not_dst (by kernel_rfl))
                simp only [List.getElem?_toArray, List.getElem?_cons_zero, Option.getD_some] at e0
                have e1 := hbaseF 1 (not_dst (by kernel_rfl))
                simp only [List.getElem?_toArray, List.getElem?_cons_zero, List.getElem?_cons_succ, Option.getD_some] at e1
                have e2 := hbaseF 2 (not_dst (by kernel_rfl))
                simp only [List.getElem?_toArray, List.getElem?_cons_zero, List.getElem?_cons_succ, Option.getD_some] at e2
                have e3 := hbaseF 3 (not_dst (by kernel_rfl))
                simp only [List.getElem?_toArray, List.getElem?_cons_zero, List.getElem?_cons_succ, Option.getD_some] at e3
                have e4 := hbaseF 4 (not_dst (by kernel_rfl))
                simp only [List.getElem?_toArray, List.getElem?_cons_zero, List.getElem?_cons_succ, Option.getD_some] at e4
                have e5 := hbaseF 5 (not_dst (by kernel_rfl))
                simp only [List.getElem?_toArray, List.getElem?_cons_zero, List.getElem?_cons_succ, Option.getD_some] at e5
                have e6 := hbaseF 6 (not_dst (by kernel_rfl))
                simp only [List.getElem?_toArray, List.getElem?_cons_zero, List.getElem?_cons_succ, Option.getD_some] at e6
                have e7 := hbaseF 7 (not_dst (by kernel_rfl))
                simp only [List.getElem?_toArray, List.getElem?_cons_zero, List.getElem?_cons_succ, Option.getD_some] at e7
                have e8 := hbaseF 8 (not_dst (by kernel_rfl))
                simp only [List.getElem?_toArray, List.getElem?_cons_zero, List.getElem?_cons_succ, Option.getD_some] at e8
                have e10 := hbaseF 10 (not_dst (by kernel_rfl))
                simp only [List.getElem?_toArray, List.getElem?_cons_zero, List.getElem?_cons_succ, Option.getD_some] at e10
                have e11 := hbaseF 11 (not_dst (by kernel_rfl))
                simp only [List.getElem?_toArray, List.getElem?_cons_zero, List.getElem?_cons_succ, Option.getD_some] at e11
                have e12 := hbaseF 12 (not_dst (by kernel_rfl))
                simp only [List.getElem?_toArray, List.getElem?_cons_zero, List.getElem?_cons_succ, Option.getD_some] at e12
                have e13 := hbaseF 13 (not_dst (by kernel_rfl))
                simp only [List.getElem?_toArray, List.getElem?_cons_zero, List.getElem?_cons_succ, Option.getD_some] at e13
                have e14 := hbaseF 14 (not_dst (by kernel_rfl))
                simp only [List.getElem?_toArray, List.getElem?_cons_zero, List.getElem?_cons_succ, Option.getD_some] at e14
                have e15 := hbaseF 15 (not_dst (by kernel_rfl))
                simp only [List.getElem?_toArray, List.getElem?_cons_zero, List.getElem?_cons_succ, Option.getD_some] at e15
                have e16 := hbaseF 16 (not_dst (by kernel_rfl))
                simp only [List.getElem?_toArray, List.getElem?_cons_zero, List.getElem?_cons_succ, Option.getD_some] at e16
                have e17 := hbaseF 17 (not_dst (by kernel_rfl))
                simp only [List.getElem?_toArray, List.getElem?_cons_zero, List.getElem?_cons_succ, Option.getD_some] at e17
                have e18 := hbaseF 18 (not_dst (by kernel_rfl))
                simp only [List.getElem?_toArray, List.getElem?_cons_zero, List.getElem?_cons_succ, Option.getD_some] at e18
                have e19 := hbaseF 19 (not_dst (by kernel_rfl))
                simp only [List.getElem?_toArray, List.getElem?_cons_zero, List.getElem?_cons_succ, Option.getD_some] at e19
                have e20 := hbaseF 20 (not_dst (by kernel_rfl))
                simp only [List.getElem?_toArray, List.getElem?_cons_zero, List.getElem?_cons_succ, Option.getD_some] at e20
                have e21 := hbaseF 21 (not_dst (by kernel_rfl))
                simp only [List.getElem?_toArray, List.getElem?_cons_zero, List.getElem?_cons_succ, Option.getD_some] at e21
                have e22 := hbaseF 22 (not_dst (by kernel_rfl))
                simp only [List.getElem?_toArray, List.getElem?_cons_zero, List.getElem?_cons_succ, Option.getD_some] at e22
                have e23 := hbaseF 23 (not_dst (by kernel_rfl))
                simp only [List.getElem?_toArray, List.getElem?_cons_zero, List.getElem?_cons_succ, Option.getD_some] at e23
                have e24 := hbaseF 24 (not_dst (by kernel_rfl))
                simp only [List.getElem?_toArray, List.getElem?_cons_zero, List.getElem?_cons_succ, Option.getD_some] at e24
                have e25 := hbaseF 25 (not_dst (by kernel_rfl))
                simp only [List.getElem?_toArray, List.getElem?_cons_zero, List.getElem?_cons_succ, Option.getD_some] at e25
                have e26 := hbaseF 26 (not_dst (by kernel_rfl))
                simp only [List.getElem?_toArray, List.getElem?_cons_zero, List.getElem?_cons_succ, Option.getD_some] at e26
                have e27 := hbaseF 27 (not_dst (by kernel_rfl))
                simp only [List.getElem?_toArray, List.getElem?_cons_zero, List.getElem?_cons_succ, Option.getD_some] at e27
                have e28 := hbaseF 28 (not_dst (by kernel_rfl))
                simp only [List.getElem?_toArray, List.getElem?_cons_zero, List.getElem?_cons_succ, Option.getD_some] at e28
                have e29 := hbaseF 29 (not_dst (by kernel_rfl))
                simp only [List.getElem?_toArray, List.getElem?_cons_zero, List.getElem?_cons_succ, Option.getD_some] at e29
                have e30 := hbaseF 30 (not_dst (by kernel_rfl))
                simp only [List.getElem?_toArray, List.getElem?_cons_zero, List.getElem?_cons_succ, Option.getD_some] at e30
                have e31 := hbaseF 31 (not_dst (by kernel_rfl))
                simp only [List.getElem?_toArray, List.getElem?_cons_zero, List.getElem?_cons_succ, Option.getD_some] at e31
                have e32 := hbaseF 32 (not_dst (by kernel_rfl))
                simp only [List.getElem?_toArray, List.getElem?_cons_zero, List.getElem?_cons_succ, Option.getD_some] at e32
                have e33 := hbaseF 33 (not_dst (by kernel_rfl))
                simp only [List.getElem?_toArray, List.getElem?_cons_zero, List.getElem?_cons_succ, Option.getD_some] at e33
                have e34 := hbaseF 34 (not_dst (by kernel_rfl))
                simp only [List.getElem?_toArray, List.getElem?_cons_zero, List.getElem?_cons_succ, Option.getD_some] at e34
                have e35 := hbaseF 35 (not_dst (by kernel_rfl))
                simp only [List.getElem?_toArray, List.getElem?_cons_zero, List.getElem?_cons_succ, Option.getD_some] at e35
                have e36 := hbaseF 36 (not_dst (by kernel_rfl))
                simp only [List.getElem?_toArray, List.getElem?_cons_zero, List.getElem?_cons_succ, Option.getD_some] at e36
                have e37 := hbaseF 37 (not_dst (by kernel_rfl))
                simp only [List.getElem?_toArray, List.getElem?_cons_zero, List.getElem?_cons_succ, Option.getD_some] at e37
                have e38 := hbaseF 38 (not_dst (by kernel_rfl))
                simp only [List.getElem?_toArray, List.getElem?_cons_zero, List.getElem?_cons_succ, Option.getD_some] at e38
                have e39 := hbaseF 39 (not_dst (by kernel_rfl))
                simp only [List.getElem?_toArray, List.getElem?_cons_zero, List.getElem?_cons_succ, Option.getD_some] at e39
                have e40 := hbaseF 40 (not_dst (by kernel_rfl))
                simp only [List.getElem?_toArray, List.getElem?_cons_zero, List.getElem?_cons_succ, Option.getD_some] at e40
                have e41 := hbaseF 41 (not_dst (by kernel_rfl))
                simp only [List.getElem?_toArray, List.getElem?_cons_zero, List.getElem?_cons_succ, Option.getD_some] at e41
                have e42 := hbaseF 42 (not_dst (by kernel_rfl))
                simp only [List.getElem?_toArray, List.getElem?_cons_zero, List.getElem?_cons_succ, Option.getD_some] at e42
                have e43 := hbaseF 43 (not_dst (by kernel_rfl))
                simp only [List.getElem?_toArray, List.getElem?_cons_zero, List.getElem?_cons_succ, Option.getD_some] at e43
                have e44 := hbaseF 44 (not_dst (by kernel_rfl))
                simp only [List.getElem?_toArray, List.getElem?_cons_zero, List.getElem?_cons_succ, Option.getD_some] at e44
                have e45 := hbaseF 45 (not_dst (by kernel_rfl))
                simp only [List.getElem?_toArray, List.getElem?_cons_zero, List.getElem?_cons_succ, Option.getD_some] at e45
                have e46 := hbaseF 46 (not_dst (by kernel_rfl))
                simp only [List.getElem?_toArray, List.getElem?_cons_zero, List.getElem?_cons_succ, Option.getD_some] at e46
                have e47 := hbaseF 47 (not_dst (by kernel_rfl))
                simp only [List.getElem?_toArray, List.getElem?_cons_zero, List.getElem?_cons_succ, Option.getD_some] at e47
                have e48 := hbaseF 48 (not_dst (by kernel_rfl))
                simp only [List.getElem?_toArray, List.getElem?_cons_zero, List.getElem?_cons_succ, Option.getD_some] at e48
                have e49 := hbaseF 49 (not_dst (by kernel_rfl))
                simp only [List.getElem?_toArray, List.getElem?_cons_zero, List.getElem?_cons_succ, Option.getD_some] at e49
                have e50 := hbaseF 50 (not_dst (by kernel_rfl))
                simp only [List.getElem?_toArray, List.getElem?_cons_zero, List.getElem?_cons_succ, Option.getD_some] at e50
                have e51 := hbaseF 51 (not_dst (by kernel_rfl))
                simp only [List.getElem?_toArray, List.getElem?_cons_zero, List.getElem?_cons_succ, Option.getD_some] at e51
                have e63 := hbaseF 63 (not_dst (by kernel_rfl))
                simp only [List.getElem?_toArray, List.getElem?_cons_zero, List.getElem?_cons_succ, Option.getD_some] at e63
                have e64 := hbaseF 64 (not_dst (by kernel_rfl))
                simp only [List.getElem?_toArray, List.getElem?_cons_zero, List.getElem?_cons_succ, Option.getD_some] at e64
                have e65 := hbaseF 65 (not_dst (by kernel_rfl))
                simp only [List.getElem?_toArray, List.getElem?_cons_zero, List.getElem?_cons_succ, Option.getD_some] at e65
                have e66 := hbaseF 66 (not_dst (by kernel_rfl))
                simp only [List.getElem?_toArray, List.getElem?_cons_zero, List.getElem?_cons_succ, Option.getD_some] at e66
                have e67 := hbaseF 67 (not_dst (by kernel_rfl))
                simp only [List.getElem?_toArray, List.getElem?_cons_zero, List.getElem?_cons_succ, Option.getD_some] at e67
                have e68 := hbaseF 68 (not_dst (by kernel_rfl))
                simp only [List.getElem?_toArray, List.getElem?_cons_zero, List.getElem?_cons_succ, Option.getD_some] at e68
                have e69 := hbaseF 69 (not_dst (by kernel_rfl))
                simp only [List.getElem?_toArray, List.getElem?_cons_zero, List.getElem?_cons_succ, Option.getD_some] at e69
                have e70 := hbaseF 70 (not_dst (by kernel_rfl))
                simp only [List.getElem?_toArray, List.getElem?_cons_zero, List.getElem?_cons_succ, Option.getD_some] at e70
                have e71 := hbaseF 71 (not_dst (by kernel_rfl))
                simp only [List.getElem?_toArray, List.getElem?_cons_zero, List.getElem?_cons_succ, Option.getD_some] at e71
                have e72 := hbaseF 72 (not_dst (by kernel_rfl))
                simp only [List.getElem?_toArray, List.getElem?_cons_zero, List.getElem?_cons_succ, Option.getD_some] at e72
                have e73 := hbaseF 73 (not_dst (by kernel_rfl))
                simp only [List.getElem?_toArray, List.getElem?_cons_zero, List.getElem?_cons_succ, Option.getD_some] at e73
                have e74 := hbaseF 74 (not_dst (by kernel_rfl))
                simp only [List.getElem?_toArray, List.getElem?_cons_zero, List.getElem?_cons_succ, Option.getD_some] at e74
                have e75 := hbaseF 75 (not_dst (by kernel_rfl))
                simp only [List.getElem?_toArray, List.getElem?_cons_zero, List.getElem?_cons_succ, Option.getD_some] at e75
                have e76 := hbaseF 76 (not_dst (by kernel_rfl))
                simp only [List.getElem?_toArray, List.getElem?_cons_zero, List.getElem?_cons_succ, Option.getD_some] at e76
                have e77 := hbaseF 77 (not_dst (by kernel_rfl))
                simp only [List.getElem?_toArray, List.getElem?_cons_zero, List.getElem?_cons_succ, Option.getD_some] at e77
                have e78 := hbaseF 78 (not_dst (by kernel_rfl))
                simp only [List.getElem?_toArray, List.getElem?_cons_zero, List.getElem?_cons_succ, Option.getD_some] at e78
                have e79 := hbaseF 79 (not_dst (by kernel_rfl))
                simp only [List.getElem?_toArray, List.getElem?_cons_zero, List.getElem?_cons_succ, Option.getD_some] at e79
                have e80 := hbaseF 80 (not_dst (by kernel_rfl))
                simp only [List.getElem?_toArray, List.getElem?_cons_zero, List.getElem?_cons_succ, Option.getD_some] at e80
                have e81 := hbaseF 81 (not_dst (by kernel_rfl))
                simp only [List.getElem?_toArray, List.getElem?_cons_zero, List.getElem?_cons_succ, Option.getD_some] at e81
                have e82 := hbaseF 82 (not_dst (by kernel_rfl))
                simp only [List.getElem?_toArray, List.getElem?_cons_zero, List.getElem?_cons_succ, Option.getD_some] at e82
                have e83 := hbaseF 83 (not_dst (by kernel_rfl))
                simp only [List.getElem?_toArray, List.getElem?_cons_zero, List.getElem?_cons_succ, Option.getD_some] at e83
                have e84 := hbaseF 84 (not_dst (by kernel_rfl))
                simp only [List.getElem?_toArray, List.getElem?_cons_zero, List.getElem?_cons_succ, Option.getD_some] at e84
                have e85 := hbaseF 85 (not_dst (by kernel_rfl))
                simp only [List.getElem?_toArray, List.getElem?_cons_zero, List.getElem?_cons_succ, Option.getD_some] at e85
                have e86 := hbaseF 86 (not_dst (by kernel_rfl))
                simp only [List.getElem?_toArray, List.getElem?_cons_zero, List.getElem?_cons_succ, Option.getD_some] at e86
                have e87 := hbaseF 87 (not_dst (by kernel_rfl))
                simp only [List.getElem?_toArray, List.getElem?_cons_zero, List.getElem?_cons_succ, Option.getD_some] at e87
                have e88 := hbaseF 88 (not_dst (by kernel_rfl))
                simp only [List.getElem?_toArray, List.getElem?_cons_zero, List.getElem?_cons_succ, Option.getD_some] at e88
                have e89 := hbaseF 89 (not_dst (by kernel_rfl))
                simp only [List.getElem?_toArray, List.getElem?_cons_zero, List.getElem?_cons_succ, Option.getD_some] at e89
                have e90 := hbaseF 90 (not_dst (by kernel_rfl))
                simp only [List.getElem?_toArray, List.getElem?_cons_zero, List.getElem?_cons_succ, Option.getD_some] at e90
                have e91 := hbaseF 91 (not_dst (by kernel_rfl))
                simp only [List.getElem?_toArray, List.getElem?_cons_zero, List.getElem?_cons_succ, Option.getD_some] at e91
                have e92 := hbaseF 92 (not_dst (by kernel_rfl))
                simp only [List.getElem?_toArray, List.getElem?_cons_zero, List.getElem?_cons_succ, Option.getD_some] at e92
                have e93 := hbaseF 93 (not_dst (by kernel_rfl))
                simp only [List.getElem?_toArray, List.getElem?_cons_zero, List.getElem?_cons_succ, Option.getD_some] at e93
                have e94 := hbaseF 94 (not_dst (by kernel_rfl))
                simp only [List.getElem?_toArray, List.getElem?_cons_zero, List.getElem?_cons_succ, Option.getD_some] at e94
                have e95 := hbaseF 95 (not_dst (by kernel_rfl))
                simp only [List.getElem?_toArray, List.getElem?_cons_zero, List.getElem?_cons_succ, Option.getD_some] at e95
                have e96 := hbaseF 96 (not_dst (by kernel_rfl))
                simp only [List.getElem?_toArray, List.getElem?_cons_zero, List.getElem?_cons_succ, Option.getD_some] at e96
                have e97 := hbaseF 97 (not_dst (by kernel_rfl))
                simp only [List.getElem?_toArray, List.getElem?_cons_zero, List.getElem?_cons_succ, Option.getD_some] at e97
                have e98 := hbaseF 98 (not_dst (by kernel_rfl))
                simp only [List.getElem?_toArray, List.getElem?_cons_zero, List.getElem?_cons_succ, Option.getD_some] at e98
                have e99 := hbaseF 99 (not_dst (by kernel_rfl))
                simp only [List.getElem?_toArray, List.getElem?_cons_zero, List.getElem?_cons_succ, Option.getD_some] at e99
                have e100 := hbaseF 100 (not_dst (by kernel_rfl))
                simp only [List.getElem?_toArray, List.getElem?_cons_zero, List.getElem?_cons_succ, Option.getD_some] at e100
                have e101 := hbaseF 101 (not_dst (by kernel_rfl))
                simp only [List.getElem?_toArray, List.getElem?_cons_zero, List.getElem?_cons_succ, Option.getD_some] at e101
                have e102 := hbaseF 102 (not_dst (by kernel_rfl))
                simp only [List.getElem?_toArray, List.getElem?_cons_zero, List.getElem?_cons_succ, Option.getD_some] at e102
                have e103 := hbaseF 103 (not_dst (by kernel_rfl))
                simp only [List.getElem?_toArray, List.getElem?_cons_zero, List.getElem?_cons_succ, Option.getD_some] at e103
                have e104 := hbaseF 104 (not_dst (by kernel_rfl))
                simp only [List.getElem?_toArray, List.getElem?_cons_zero, List.getElem?_cons_succ, Option.getD_some] at e104
                have e105 := hbaseF 105 (not_dst (by kernel_rfl))
                simp only [List.getElem?_toArray, List.getElem?_cons_zero, List.getElem?_cons_succ, Option.getD_some] at e105
                have e106 := hbaseF 106 (not_dst (by kernel_rfl))
                simp only [List.getElem?_toArray, List.getElem?_cons_zero, List.getElem?_cons_succ, Option.getD_some] at e106
                have e107 := hbaseF 107 (not_dst (by kernel_rfl))
                simp only [List.getElem?_toArray, List.getElem?_cons_zero, List.getElem?_cons_succ, Option.getD_some] at e107
                have e108 := hbaseF 108 (not_dst (by kernel_rfl))
                simp only [List.getElem?_toArray, List.getElem?_cons_zero, List.getElem?_cons_succ, Option.getD_some] at e108
                have e109 := hbaseF 109 (not_dst (by kernel_rfl))
                simp only [List.getElem?_toArray, List.getElem?_cons_zero, List.getElem?_cons_succ, Option.getD_some] at e109
                have e110 := hbaseF 110 (not_dst (by kernel_rfl))
                simp only [List.getElem?_toArray, List.getElem?_cons_zero, List.getElem?_cons_succ, Option.getD_some] at e110
                have e111 := hbaseF 111 (not_dst (by kernel_rfl))
                simp only [List.getElem?_toArray, List.getElem?_cons_zero, List.getElem?_cons_succ, Option.getD_some] at e111
                have e112 := hbaseF 112 (not_dst (by kernel_rfl))
                simp only [List.getElem?_toArray, List.getElem?_cons_zero, List.getElem?_cons_succ, Option.getD_some] at e112
                have e9 := hfactF 11 9 (by decide) rfl
                replace e9 : T[9]?.getD undef = .bool true := e9
                clear hbaseF hfactF
                have hT : T = #[T[0]?.getD undef, T[1]?.getD undef, T[2]?.getD undef, T[3]?.getD undef, T[4]?.getD undef, T[5]?.getD undef, T[6]?.getD undef, T[7]?.getD undef, T[8]?.getD undef, T[9]?.getD undef, T[10]?.getD undef, T[11]?.getD undef, T[12]?.getD undef, T[13]?.getD undef, T[14]?.getD undef, T[15]?.getD undef, T[16]?.getD undef, T[17]?.getD undef, T[18]?.getD undef, T[19]?.getD undef, T[20]?.getD undef, T[21]?.getD undef, T[22]?.getD undef, T[23]?.getD undef, T[24]?.getD undef, T[25]?.getD undef, T[26]?.getD undef, T[27]?.getD undef, T[28]?.getD undef, T[29]?.getD undef, T[30]?.getD undef, T[31]?.getD undef, T[32]?.getD undef, T[33]?.getD undef, T[34]?.getD undef, T[35]?.getD undef, T[36]?.getD undef, T[37]?.getD undef, T[38]?.getD undef, T[39]?.getD undef, T[40]?.getD undef, T[41]?.getD undef, T[42]?.getD undef, T[43]?.getD undef, T[44]?.getD undef, T[45]?.getD undef, T[46]?.getD undef, T[47]?.getD undef, T[48]?.getD undef, T[49]?.getD undef, T[50]?.getD undef, T[51]?.getD undef, T[52]?.getD undef, T[53]?.getD undef, T[54]?.getD undef, T[55]?.getD undef, T[56]?.getD undef, T[57]?.getD undef, T[58]?.getD undef, T[59]?.getD undef, T[60]?.getD undef, T[61]?.getD undef, T[62]?.getD undef, T[63]?.getD undef, T[64]?.getD undef, T[65]?.getD undef, T[66]?.getD undef, T[67]?.getD undef, T[68]?.getD undef, T[69]?.getD undef, T[70]?.getD undef, T[71]?.getD undef, T[72]?.getD undef, T[73]?.getD undef, T[74]?.getD undef, T[75]?.getD undef, T[76]?.getD undef, T[77]?.getD undef, T[78]?.getD undef, T[79]?.getD undef, T[80]?.getD undef, T[81]?.getD undef, T[82]?.getD undef, T[83]?.getD undef, T[84]?.getD undef, T[85]?.getD undef, T[86]?.getD undef, T[87]?.getD undef, T[88]?.getD undef, T[89]?.getD undef, T[90]?.getD undef, T[91]?.getD undef, T[92]?.getD undef, T[93]?.getD undef, T[94]?.getD undef, T[95]?.getD undef, T[96]?.getD undef, T[97]?.getD undef, T[98]?.getD undef, T[99]?.getD undef, T[100]?.getD undef, T[101]?.getD undef, T[102]?.getD undef, T[103]?.getD undef, T[104]?.getD undef, T[105]?.getD undef, T[106]?.getD undef, T[107]?.getD undef, T[108]?.getD undef, T[109]?.getD undef, T[110]?.getD undef, T[111]?.getD undef, T[112]?.getD undef] := arr_eq T 113 hsF
                clear hsF
                rw [e0] at hT; clear e0
                rw [e1] at hT; clear e1
                rw [e2] at hT; clear e2
                rw [e3] at hT; clear e3
                rw [e4] at hT; clear e4
                rw [e5] at hT; clear e5
                rw [e6] at hT; clear e6
                rw [e7] at hT; clear e7
                rw [e8] at hT; clear e8
                rw [e9] at hT; clear e9
                rw [e10] at hT; clear e10
                rw [e11] at hT; clear e11
                rw [e12] at hT; clear e12
                rw [e13] at hT; clear e13
                rw [e14] at hT; clear e14
                rw [e15] at hT; clear e15
                rw [e16] at hT; clear e16
                rw [e17] at hT; clear e17
                rw [e18] at hT; clear e18
                rw [e19] at hT; clear e19
                rw [e20] at hT; clear e20
                rw [e21] at hT; clear e21
                rw [e22] at hT; clear e22
                rw [e23] at hT; clear e23
                rw [e24] at hT; clear e24
                rw [e25] at hT; clear e25
                rw [e26] at hT; clear e26
                rw [e27] at hT; clear e27
                rw [e28] at hT; clear e28
                rw [e29] at hT; clear e29
                rw [e30] at hT; clear e30
                rw [e31] at hT; clear e31
                rw [e32] at hT; clear e32
                rw [e33] at hT; clear e33
                rw [e34] at hT; clear e34
                rw [e35] at hT; clear e35
                rw [e36] at hT; clear e36
                rw [e37] at hT; clear e37
                rw [e38] at hT; clear e38
                rw [e39] at hT; clear e39
                rw [e40] at hT; clear e40
                rw [e41] at hT; clear e41
                rw [e42] at hT; clear e42
                rw [e43] at hT; clear e43
                rw [e44] at hT; clear e44
                rw [e45] at hT; clear e45
                rw [e46] at hT; clear e46
                rw [e47] at hT; clear e47
                rw [e48] at hT; clear e48
                rw [e49] at hT; clear e49
                rw [e50] at hT; clear e50
                rw [e51] at hT; clear e51
                generalize T[52]?.getD undef = u52 at hT
                generalize T[53]?.getD undef = u53 at hT
                generalize T[54]?.getD undef = u54 at hT
                generalize T[55]?.getD undef = u55 at hT
                generalize T[56]?.getD undef = u56 at hT
                generalize T[57]?.getD undef = u57 at hT
                generalize T[58]?.getD undef = u58 at hT
                generalize T[59]?.getD undef = u59 at hT
                generalize T[60]?.getD undef = u60 at hT
                generalize T[61]?.getD undef = u61 at hT
                generalize T[62]?.getD undef = u62 at hT
                rw [e63] at hT; clear e63
                rw [e64] at hT; clear e64
                rw [e65] at hT; clear e65
                rw [e66] at hT; clear e66
                rw [e67] at hT; clear e67
                rw [e68] at hT; clear e68
                rw [e69] at hT; clear e69
                rw [e70] at hT; clear e70
                rw [e71] at hT; clear e71
                rw [e72] at hT; clear e72
                rw [e73] at hT; clear e73
                rw [e74] at hT; clear e74
                rw [e75] at hT; clear e75
                rw [e76] at hT; clear e76
                rw [e77] at hT; clear e77
                rw [e78] at hT; clear e78
                rw [e79] at hT; clear e79
                rw [e80] at hT; clear e80
                rw [e81] at hT; clear e81
                rw [e82] at hT; clear e82
                rw [e83] at hT; clear e83
                rw [e84] at hT; clear e84
                rw [e85] at hT; clear e85
                rw [e86] at hT; clear e86
                rw [e87] at hT; clear e87
                rw [e88] at hT; clear e88
                rw [e89] at hT; clear e89
                rw [e90] at hT; clear e90
                rw [e91] at hT; clear e91
                rw [e92] at hT; clear e92
                rw [e93] at hT; clear e93
                rw [e94] at hT; clear e94
                rw [e95] at hT; clear e95
                rw [e96] at hT; clear e96
                rw [e97] at hT; clear e97
                rw [e98] at hT; clear e98
                rw [e99] at hT; clear e99
                rw [e100] at hT; clear e100
                rw [e101] at hT; clear e101
                rw [e102] at hT; clear e102
                rw [e103] at hT; clear e103
                rw [e104] at hT; clear e104
                rw [e105] at hT; clear e105
                rw [e106] at hT; clear e106
                rw [e107] at hT; clear e107
                rw [e108] at hT; clear e108
                rw [e109] at hT; clear e109
                rw [e110] at hT; clear e110
                rw [e111] at hT; clear e111
                rw [e112] at hT; clear e112
                subst hT
                go_wp2_with fail
                go_meet
                exact ⟨rfl, L2, E2, hL80, hiF.1, hiF.2, hBq.kept hbF (by simp; omega), hK.trans hbF, hbel.trans (hbF.below hbel.size (by intro x hx; simp at hx; omega))⟩
            · have hq1 : (x1 == 1) = false := by simp [hk1]
              clear hk1
              go_wp2_with fail
              go_meet
              exact ⟨rfl, l', er, hl', hR, hS, hBq, hK, hbel⟩
          case rest =>
            obtain ⟨rfl, L2, E2, hL80, hrF, hsF, hBqF, hKF, hbelF⟩ := hcut
            clear hR hS hBq hK hbel hl' l' er
            obtain ⟨_, A2, c2, hB2, hR2, hc21, hc22⟩ := hsF
            have hsF : RowIs 55 wc g2 [g1, g2] L2 E2 := ⟨by simp, A2, c2, hB2, hR2, hc21, hc22⟩
            have cB2 := hB2.cell
            have cQ := hBqF.cell
            unfold maxLen at hc22
            by_cases hE : E2 = 0
            · obtain ⟨left, hleft⟩ : ∃ left : Int, left = restI L2 E2 := ⟨_, rfl⟩
              have hlq : left = L2.length := by rw [hleft]; unfold restI; rw [if_pos hE]
              have HLf := Lib.hid hleft
              have HLq := Lib.hid hlq
              clear hleft hlq
              subst hE
              go_wp2_with fail
              refine wp_flows [(fun y_ _ => y_ = .bool true), (fun y_ _ => y_ = .bool false), (fun y_ _ => y_ = .bool false), (fun y_ _ => y_ = .pointer (some ⟨g1, 0, none⟩)), (fun y_ _ => y_ = .int .i64 0), (fun y_ _ => y_ = .pointer (some ⟨g2, 0, none⟩)), (fun y_ _ => y_ = .pointer (some ⟨g2, 0, none⟩)), (fun y_ _ => y_ = .pointer (some ⟨g2, 1, none⟩)), (fun y_ _ => y_ = .int .i64 0), (fun y_ _ => y_ = .bool false), (fun y_ _ => y_ = .bool false), (fun y_ _ => y_ = .bool false), (fun y_ _ => y_ = .pointer (some ⟨g1, 0, none⟩)), (fun y_ _ => y_ = .int .i64 (L2.length : Int)), (fun y_ _ => y_ = .int .i64 (L2.length : Int)), (fun y_ _ => y_ = .bool false), (fun y_ _ => y_ = .bool false)] (by kernel_rfl) ⟨Stab.eq _, Stab.eq _, Stab.eq _, Stab.eq _, Stab.eq _, Stab.eq _, Stab.eq _, Stab.eq _, Stab.eq _, Stab.eq _, Stab.eq _, Stab.eq _, Stab.eq _, Stab.eq _, Stab.eq _, Stab.eq _, Stab.eq _, trivial⟩ (by kernel_rfl) (by rfl) ?_ ?_
              · intro kq hkq
                match kq, hkq with
                | 0, _ =>
                  refine StepOk.plain _ 73 rfl rfl rfl [(9, none)] (by kernel_rfl) (fun af wf hbw hf Kf hKf => ?_)
                  obtain ⟨g9, _⟩ := hf
                  have h9 : af.tmps[9]?.getD undef = .bool true := g9
                  clear g9
                  go_simp
                  exact hKf _ _ (Below.refl _ _) rfl
                | 1, _ =>
                  refine StepOk.plain _ 74 rfl rfl rfl [(73, some 0)] (by kernel_rfl) (fun af wf hbw hf Kf hKf => ?_)
                  obtain ⟨g73, _⟩ := hf
                  have h73 : af.tmps[73]?.getD undef = .bool true := g73
                  clear g73
                  go_simp
                  exact hKf _ _ (Below.refl _ _) rfl
                | 2, _ =>
                  refine StepOk.plain _ 75 rfl rfl rfl [(74, some 1)] (by kernel_rfl) (fun af wf hbw hf Kf hKf => ?_)
                  obtain ⟨g74, _⟩ := hf
                  have h74 : af.tmps[74]?.getD undef = .bool false := g74
                  clear g74
                  go_simp
                  exact hKf _ _ (Below.refl _ _) rfl
                | 3, _ =>
                  refine StepOk.yes _ 76 rfl rfl rfl rfl (fun _ _ h => h) [(5, none)] (by kernel_rfl) (fun af wf hbw hf Kf hKf => ?_)
                  obtain ⟨g5, _⟩ := hf
                  have h5 : af.tmps[5]?.getD undef = .pointer (some ⟨g1, 0, none⟩) := g5
                  clear g5
                  go_simp
                  exact hKf _ _ (Below.refl _ _) rfl
                | 4, _ =>
                  refine StepOk.yes _ 77 rfl rfl rfl rfl (fun _ _ h => h) [(76, some 3)] (by kernel_rfl) (fun af wf hbw hf Kf hKf => ?_)
                  obtain ⟨g76, _⟩ := hf
                  have h76 : af.tmps[76]?.getD undef = .pointer (some ⟨g1, 0, none⟩) := g76
                  clear g76
                  go_simp
                  refine (err_any g1 [g1, g2] L2 0 _ (RowIs.below (RowIs.drew hrF) hbw)).mono ?_
                  rintro e wN ⟨rfl, rfl⟩
                  exact hKf _ _ (Below.refl _ _) (rfl)
                | 5, _ =>
                  refine StepOk.yes _ 78 rfl rfl rfl rfl (fun _ _ h => h) [(6, none)] (by kernel_rfl) (fun af wf hbw hf Kf hKf => ?_)
                  obtain ⟨g6, _⟩ := hf
                  have h6 : af.tmps[6]?.getD undef = .pointer (some ⟨g2, 0, none⟩) := g6
                  clear g6
                  go_simp
                  exact hKf _ _ (Below.refl _ _) rfl
                | 6, _ =>
                  refine StepOk.yes _ 79 rfl rfl rfl rfl (fun _ _ h => h) [(78, some 5)] (by kernel_rfl) (fun af wf hbw hf Kf hKf => ?_)
                  obtain ⟨g78, _⟩ := hf
                  have h78 : af.tmps[78]?.getD undef = .pointer (some ⟨g2, 0, none⟩) := g78
                  clear g78
                  go_simp
                  exact hKf _ _ (Below.refl _ _) rfl
                | 7, _ =>
                  refine StepOk.yes _ 80 rfl rfl rfl rfl (fun _ _ h => h) [(79, some 6)] (by kernel_rfl) (fun af wf hbw hf Kf hKf => ?_)
                  obtain ⟨g79, _⟩ := hf
                  have h79 : af.tmps[79]?.getD undef = .pointer (some ⟨g2, 0, none⟩) := g79
                  clear g79
                  go_simp
                  exact hKf _ _ (Below.refl _ _) rfl
                | 8, _ =>
                  refine StepOk.yes _ 81 rfl rfl rfl rfl (fun _ _ h => h) [(80, some 7)] (by kernel_rfl) (fun af wf hbw hf Kf hKf => ?_)
                  obtain ⟨g80, _⟩ := hf
                  have h80 : af.tmps[80]?.getD undef = .pointer (some ⟨g2, 1, none⟩) := g80
                  clear g80
                  have cB0 := (Blk.on (Blk.drew (hB2)) hbw).cell
                  go_simp
                  exact hKf _ _ (Below.refl _ _) rfl
                | 9, _ =>
                  refine StepOk.yes _ 82 rfl rfl rfl rfl (fun _ _ h => h) [(77, some 4), (81, some 8)] (by kernel_rfl) (fun af wf hbw hf Kf hKf => ?_)
                  obtain ⟨g77, g81, _⟩ := hf
                  have h77 : af.tmps[77]?.getD undef = .int .i64 0 := g77
                  have h81 : af.tmps[81]?.getD undef = .int .i64 0 := g81
                  clear g77 g81
                  go_simp
                  exact hKf _ _ (Below.refl _ _) rfl
                | 10, _ =>
                  refine StepOk.plain _ 83 rfl rfl rfl [(75, some 2), (82, some 9)] (by kernel_rfl) (fun af wf hbw hf Kf hKf => ?_)
                  obtain ⟨g75, g82, _⟩ := hf
                  have h75 : af.tmps[75]?.getD undef = .bool false := g75
                  have h82 : af.tmps[82]?.getD undef = .bool false := g82
                  clear g75 g82
                  go_simp
                  exact hKf _ _ (Below.refl _ _) rfl
                | 11, _ =>
                  refine StepOk.plain _ 84 rfl rfl rfl [(83, some 10)] (by kernel_rfl) (fun af wf hbw hf Kf hKf => ?_)
                  obtain ⟨g83, _⟩ := hf
                  have h83 : af.tmps[83]?.getD undef = .bool false := g83
                  clear g83
                  go_simp
                  exact hKf _ _ (Below.refl _ _) rfl
                | 12, _ =>
                  refine StepOk.yes _ 85 rfl rfl rfl rfl (fun _ _ h => h) [(5, none)] (by kernel_rfl) (fun af wf hbw hf Kf hKf => ?_)
                  obtain ⟨g5, _⟩ := hf
                  have h5 : af.tmps[5]?.getD undef = .pointer (some ⟨g1, 0, none⟩) := g5
                  clear g5
                  go_simp
                  exact hKf _ _ (Below.refl _ _) rfl
                | 13, _ =>
                  refine StepOk.yes _ 86 rfl rfl rfl rfl (fun _ _ h => h) [(85, some 12)] (by kernel_rfl) (fun af wf hbw hf Kf hKf => ?_)
                  obtain ⟨g85, _⟩ := hf
                  have h85 : af.tmps[85]?.getD undef = .pointer (some ⟨g1, 0, none⟩) := g85
                  clear g85
                  go_simp
                  refine (rest_any g1 [g1, g2] L2 0 _ (RowIs.below (RowIs.drew hrF) hbw)).mono ?_
                  rintro e wN ⟨rfl, rfl⟩
                  exact hKf _ _ (Below.refl _ _) (int_eq (HLf.out.symm.trans HLq.out))
                | 14, _ =>
                  refine StepOk.yes _ 87 rfl rfl rfl rfl (fun _ _ h => h) [(10, none)] (by kernel_rfl) (fun af wf hbw hf Kf hKf => ?_)
                  obtain ⟨g10, _⟩ := hf
                  have h10 : af.tmps[10]?.getD undef = .int .i64 (L2.length : Int) := g10
                  clear g10
                  go_simp
                  exact hKf _ _ (Below.refl _ _) rfl
                | 15, _ =>
                  refine StepOk.yes _ 88 rfl rfl rfl rfl (fun _ _ h => h) [(86, some 13), (87, some 14)] (by kernel_rfl) (fun af wf hbw hf Kf hKf => ?_)
                  obtain ⟨g86, g87, _⟩ := hf
                  have h86 : af.tmps[86]?.getD undef = .int .i64 (L2.length : Int) := g86
                  have h87 : af.tmps[87]?.getD undef = .int .i64 (L2.length : Int) := g87
                  clear g86 g87
                  go_simp
                  exact hKf _ _ (Below.refl _ _) rfl
                | 16, _ =>
                  refine StepOk.plain _ 89 rfl rfl rfl [(84, some 11), (88, some 15)] (by kernel_rfl) (fun af wf hbw hf Kf hKf => ?_)
                  obtain ⟨g84, g88, _⟩ := hf
                  have h84 : af.tmps[84]?.getD undef = .bool false := g84
                  have h88 : af.tmps[88]?.getD undef = .bool false := g88
                  clear g84 g88
                  go_simp
                  exact hKf _ _ (Below.refl _ _) rfl
                | i + 17, h => exact absurd h (by show ¬ (i + 17 < 17); omega)
              · intro af wF hbF hdF hsF hbaseF hfactF
                obtain ⟨T, dsF⟩ := af
                obtain rfl : dsF = _ := hdF
                have e0 := hbaseF 0 (not_dst (by kernel_rfl))
                simp only [List.getElem?_toArray, List.getElem?_cons_zero, Option.getD_some] at e0
                have e1 := hbaseF 1 (not_dst (by kernel_rfl))
                simp only [List.getElem?_toArray, List.getElem?_cons_zero, List.getElem?_cons_succ, Option.getD_some] at e1
                have e2 := hbaseF 2 (not_dst (by kernel_rfl))
                simp only [List.getElem?_toArray, List.getElem?_cons_zero, List.getElem?_cons_succ, Option.getD_some] at e2
                have e3 := hbaseF 3 (not_dst (by kernel_rfl))
                simp only [List.getElem?_toArray, List.getElem?_cons_zero, List.getElem?_cons_succ, Option.getD_some] at e3
                have e4 := hbaseF 4 (not_dst (by kernel_rfl))
                simp only [List.getElem?_toArray, List.getElem?_cons_zero, List.getElem?_cons_succ, Option.getD_some] at e4
                have e5 := hbaseF 5 (not_dst (by kernel_rfl))
                simp only [List.getElem?_toArray, List.getElem?_cons_zero, List.getElem?_cons_succ, Option.getD_some] at e5
                have e6 := hbaseF 6 (not_dst (by kernel_rfl))
                simp only [List.getElem?_toArray, List.getElem?_cons_zero, List.getElem?_cons_succ, Option.getD_some] at e6
                have e7 := hbaseF 7 (not_dst (by kernel_rfl))
                simp only [List.getElem?_toArray, List.getElem?_cons_zero, List.getElem?_cons_succ, Option.getD_some] at e7
                have e8 := hbaseF 8 (not_dst (by kernel_rfl))
                simp only [List.getElem?_toArray, List.getElem?_cons_zero, List.getElem?_cons_succ, Option.getD_some] at e8
                have e9 := hbaseF 9 (not_dst (by kernel_rfl))
                simp only [List.getElem?_toArray, List.getElem?_cons_zero, List.getElem?_cons_succ, Option.getD_some] at e9
                have e10 := hbaseF 10 (not_dst (by kernel_rfl))
                simp only [List.getElem?_toArray, List.getElem?_cons_zero, List.getElem?_cons_succ, Option.getD_some] at e10
                have e11 := hbaseF 11 (not_dst (by kernel_rfl))
                simp only [List.getElem?_toArray, List.getElem?_cons_zero, List.getElem?_cons_succ, Option.getD_some] at e11
                have e12 := hbaseF 12 (not_dst (by kernel_rfl))
                simp only [List.getElem?_toArray, List.getElem?_cons_zero, List.getElem?_cons_succ, Option.getD_some] at e12
                have e13 := hbaseF 13 (not_dst (by kernel_rfl))
                simp only [List.getElem?_toArray, List.getElem?_cons_zero, List.getElem?_cons_succ, Option.getD_some] at e13
                have e14 := hbaseF 14 (not_dst (by kernel_rfl))
                simp only [List.getElem?_toArray, List.getElem?_cons_zero, List.getElem?_cons_succ, Option.getD_some] at e14
                have e15 := hbaseF 15 (not_dst (by kernel_rfl))
                simp only [List.getElem?_toArray, List.getElem?_cons_zero, List.getElem?_cons_succ, Option.getD_some] at e15
                have e16 := hbaseF 16 (not_dst (by kernel_rfl))
                simp only [List.getElem?_toArray, List.getElem?_cons_zero, List.getElem?_cons_succ, Option.getD_some] at e16
                have e17 := hbaseF 17 (not_dst (by kernel_rfl))
                simp only [List.getElem?_toArray, List.getElem?_cons_zero, List.getElem?_cons_succ, Option.getD_some] at e17
                have e18 := hbaseF 18 (not_dst (by kernel_rfl))
                simp only [List.getElem?_toArray, List.getElem?_cons_zero, List.getElem?_cons_succ, Option.getD_some] at e18
                have e19 := hbaseF 19 (not_dst (by kernel_rfl))
                simp only [List.getElem?_toArray, List.getElem?_cons_zero, List.getElem?_cons_succ, Option.getD_some] at e19
                have e20 := hbaseF 20 (not_dst (by kernel_rfl))
                simp only [List.getElem?_toArray, List.getElem?_cons_zero, List.getElem?_cons_succ, Option.getD_some] at e20
                have e21 := hbaseF 21 (not_dst (by kernel_rfl))
                simp only [List.getElem?_toArray, List.getElem?_cons_zero, List.getElem?_cons_succ, Option.getD_some] at e21
                have e22 := hbaseF 22 (not_dst (by kernel_rfl))
                simp only [List.getElem?_toArray, List.getElem?_cons_zero, List.getElem?_cons_succ, Option.getD_some] at e22
                have e23 := hbaseF 23 (not_dst (by kernel_rfl))
                simp only [List.getElem?_toArray, List.getElem?_cons_zero, List.getElem?_cons_succ, Option.getD_some] at e23
                have e24 := hbaseF 24 (not_dst (by kernel_rfl))
                simp only [List.getElem?_toArray, List.getElem?_cons_zero, List.getElem?_cons_succ, Option.getD_some] at e24
                have e25 := hbaseF 25 (not_dst (by kernel_rfl))
                simp only [List.getElem?_toArray, List.getElem?_cons_zero, List.getElem?_cons_succ, Option.getD_some] at e25
                have e26 := hbaseF 26 (not_dst (by kernel_rfl))
                simp only [List.getElem?_toArray, List.getElem?_cons_zero, List.getElem?_cons_succ, Option.getD_some] at e26
                have e27 := hbaseF 27 (not_dst (by kernel_rfl))
                simp only [List.getElem?_toArray, List.getElem?_cons_zero, List.getElem?_cons_succ, Option.getD_some] at e27
                have e28 := hbaseF 28 (not_dst (by kernel_rfl))
                simp only [List.getElem?_toArray, List.getElem?_cons_zero, List.getElem?_cons_succ, Option.getD_some] at e28
                have e29 := hbaseF 29 (not_dst (by kernel_rfl))
                simp only [List.getElem?_toArray, List.getElem?_cons_zero, List.getElem?_cons_succ, Option.getD_some] at e29
                have e30 := hbaseF 30 (not_dst (by kernel_rfl))
                simp only [List.getElem?_toArray, List.getElem?_cons_zero, List.getElem?_cons_succ, Option.getD_some] at e30
                have e31 := hbaseF 31 (not_dst (by kernel_rfl))
                simp only [List.getElem?_toArray, List.getElem?_cons_zero, List.getElem?_cons_succ, Option.getD_some] at e31
                have e32 := hbaseF 32 (not_dst (by kernel_rfl))
                simp only [List.getElem?_toArray, List.getElem?_cons_zero, List.getElem?_cons_succ, Option.getD_some] at e32
                have e33 := hbaseF 33 (not_dst (by kernel_rfl))
                simp only [List.getElem?_toArray, List.getElem?_cons_zero, List.getElem?_cons_succ, Option.getD_some] at e33
                have e34 := hbaseF 34 (not_dst (by kernel_rfl))
                simp only [List.getElem?_toArray, List.getElem?_cons_zero, List.getElem?_cons_succ, Option.getD_some] at e34
                have e35 := hbaseF 35 (not_dst (by kernel_rfl))
                simp only [List.getElem?_toArray, List.getElem?_cons_zero, List.getElem?_cons_succ, Option.getD_some] at e35
                have e36 := hbaseF 36 (not_dst (by kernel_rfl))
                simp only [List.getElem?_toArray, List.getElem?_cons_zero, List.getElem?_cons_succ, Option.getD_some] at e36
                have e37 := hbaseF 37 (not_dst (by kernel_rfl))
                simp only [List.getElem?_toArray, List.getElem?_cons_zero, List.getElem?_cons_succ, Option.getD_some] at e37
                have e38 := hbaseF 38 (not_dst (by kernel_rfl))
                simp only [List.getElem?_toArray, List.getElem?_cons_zero, List.getElem?_cons_succ, Option.getD_some] at e38
                have e39 := hbaseF 39 (not_dst (by kernel_rfl))
                simp only [List.getElem?_toArray, List.getElem?_cons_zero, List.getElem?_cons_succ, Option.getD_some] at e39
                have e40 := hbaseF 40 (not_dst (by kernel_rfl))
                simp only [List.getElem?_toArray, List.getElem?_cons_zero, List.getElem?_cons_succ, Option.getD_some] at e40
                have e41 := hbaseF 41 (not_dst (by kernel_rfl))
                simp only [List.getElem?_toArray, List.getElem?_cons_zero, List.getElem?_cons_succ, Option.getD_some] at e41
                have e42 := hbaseF 42 (not_dst (by kernel_rfl))
                simp only [List.getElem?_toArray, List.getElem?_cons_zero, List.getElem?_cons_succ, Option.getD_some] at e42
                have e43 := hbaseF 43 (not_dst (by kernel_rfl))
                simp only [List.getElem?_toArray, List.getElem?_cons_zero, List.getElem?_cons_succ, Option.getD_some] at e43
                have e44 := hbaseF 44 (not_dst (by kernel_rfl))
                simp only [List.getElem?_toArray, List.getElem?_cons_zero, List.getElem?_cons_succ, Option.getD_some] at e44
                have e45 := hbaseF 45 (not_dst (by kernel_rfl))
                simp only [List.getElem?_toArray, List.getElem?_cons_zero, List.getElem?_cons_succ, Option.getD_some] at e45
                have e46 := hbaseF 46 (not_dst (by kernel_rfl))
                simp only [List.getElem?_toArray, List.getElem?_cons_zero, List.getElem?_cons_succ, Option.getD_some] at e46
                have e47 := hbaseF 47 (not_dst (by kernel_rfl))
                simp only [List.getElem?_toArray, List.getElem?_cons_zero, List.getElem?_cons_succ, Option.getD_some] at e47
                have e48 := hbaseF 48 (not_dst (by kernel_rfl))
                simp only [List.getElem?_toArray, List.getElem?_cons_zero, List.getElem?_cons_succ, Option.getD_some] at e48
                have e49 := hbaseF 49 (not_dst (by kernel_rfl))
                simp only [List.getElem?_toArray, List.getElem?_cons_zero, List.getElem?_cons_succ, Option.getD_some] at e49
                have e50 := hbaseF 50 (not_dst (by kernel_rfl))
                simp only [List.getElem?_toArray, List.getElem?_cons_zero, List.getElem?_cons_succ, Option.getD_some] at e50
                have e51 := hbaseF 51 (not_dst (by kernel_rfl))
                simp only [List.getElem?_toArray, List.getElem?_cons_zero, List.getElem?_cons_succ, Option.getD_some] at e51
                have e52 := hbaseF 52 (not_dst (by kernel_rfl))
                simp only [List.getElem?_toArray, List.getElem?_cons_zero, List.getElem?_cons_succ, Option.getD_some] at e52
                have e53 := hbaseF 53 (not_dst (by kernel_rfl))
                simp only [List.getElem?_toArray, List.getElem?_cons_zero, List.getElem?_cons_succ, Option.getD_some] at e53
                have e54 := hbaseF 54 (not_dst (by kernel_rfl))
                simp only [List.getElem?_toArray, List.getElem?_cons_zero, List.getElem?_cons_succ, Option.getD_some] at e54
                have e55 := hbaseF 55 (not_dst (by kernel_rfl))
                simp only [List.getElem?_toArray, List.getElem?_cons_zero, List.getElem?_cons_succ, Option.getD_some] at e55
                have e56 := hbaseF 56 (not_dst (by kernel_rfl))
                simp only [List.getElem?_toArray, List.getElem?_cons_zero, List.getElem?_cons_succ, Option.getD_some] at e56
                have e57 := hbaseF 57 (not_dst (by kernel_rfl))
                simp only [List.getElem?_toArray, List.getElem?_cons_zero, List.getElem?_cons_succ, Option.getD_some] at e57
                have e58 := hbaseF 58 (not_dst (by kernel_rfl))
                simp only [List.getElem?_toArray, List.getElem?_cons_zero, List.getElem?_cons_succ, Option.getD_some] at e58
                have e59 := hbaseF 59 (not_dst (by kernel_rfl))
                simp only [List.getElem?_toArray, List.getElem?_cons_zero, List.getElem?_cons_succ, Option.getD_some] at e59
                have e60 := hbaseF 60 (not_dst (by kernel_rfl))
                simp only [List.getElem?_toArray, List.getElem?_cons_zero, List.getElem?_cons_succ, Option.getD_some] at e60
                have e61 := hbaseF 61 (not_dst (by kernel_rfl))
                simp only [List.getElem?_toArray, List.getElem?_cons_zero, List.getElem?_cons_succ, Option.getD_some] at e61
                have e62 := hbaseF 62 (not_dst (by kernel_rfl))
                simp only [List.getElem?_toArray, List.getElem?_cons_zero, List.getElem?_cons_succ, Option.getD_some] at e62
                have e63 := hbaseF 63 (not_dst (by kernel_rfl))
                simp only [List.getElem?_toArray, List.getElem?_cons_zero, List.getElem?_cons_succ, Option.getD_some] at e63
                have e64 := hbaseF 64 (not_dst (by kernel_rfl))
                simp only [List.getElem?_toArray, List.getElem?_cons_zero, List.getElem?_cons_succ, Option.getD_some] at e64
                have e65 := hbaseF 65 (not_dst (by kernel_rfl))
                simp only [List.getElem?_toArray, List.getElem?_cons_zero, List.getElem?_cons_succ, Option.getD_some] at e65
                have e66 := hbaseF 66 (not_dst (by kernel_rfl))
                simp only [List.getElem?_toArray, List.getElem?_cons_zero, List.getElem?_cons_succ, Option.getD_some] at e66
                have e67 := hbaseF 67 (not_dst (by kernel_rfl))
                simp only [List.getElem?_toArray, List.getElem?_cons_zero, List.getElem?_cons_succ, Option.getD_some] at e67
                have e68 := hbaseF 68 (not_dst (by kernel_rfl))
                simp only [List.getElem?_toArray, List.getElem?_cons_zero, List.getElem?_cons_succ, Option.getD_some] at e68
                have e69 := hbaseF 69 (not_dst (by kernel_rfl))
                simp only [List.getElem?_toArray, List.getElem?_cons_zero, List.getElem?_cons_succ, Option.getD_some] at e69
                have e70 := hbaseF 70 (not_dst (by kernel_rfl))
                simp only [List.getElem?_toArray, List.getElem?_cons_zero, List.getElem?_cons_succ, Option.getD_some] at e70
                have e71 := hbaseF 71 (not_dst (by kernel_rfl))
                simp only [List.getElem?_toArray, List.getElem?_cons_zero, List.getElem?_cons_succ, Option.getD_some] at e71
                have e72 := hbaseF 72 (not_dst (by kernel_rfl))
                simp only [List.getElem?_toArray, List.getElem?_cons_zero, List.getElem?_cons_succ, Option.getD_some] at e72
                have e90 := hbaseF 90 (not_dst (by kernel_rfl))
                simp only [List.getElem?_toArray, List.getElem?_cons_zero, List.getElem?_cons_succ, Option.getD_some] at e90
                have e91 := hbaseF 91 (not_dst (by kernel_rfl))
                simp only [List.getElem?_toArray, List.getElem?_cons_zero, List.getElem?_cons_succ, Option.getD_some] at e91
                have e92 := hbaseF 92 (not_dst (by kernel_rfl))
                simp only [List.getElem?_toArray, List.getElem?_cons_zero, List.getElem?_cons_succ, Option.getD_some] at e92
                have e93 := hbaseF 93 (not_dst (by kernel_rfl))
                simp only [List.getElem?_toArray, List.getElem?_cons_zero, List.getElem?_cons_succ, Option.getD_some] at e93
                have e94 := hbaseF 94 (not_dst (by kernel_rfl))
                simp only [List.getElem?_toArray, List.getElem?_cons_zero, List.getElem?_cons_succ, Option.getD_some] at e94
                have e95 := hbaseF 95 (not_dst (by kernel_rfl))
                simp only [List.getElem?_toArray, List.getElem?_cons_zero, List.getElem?_cons_succ, Option.getD_some] at e95
                have e96 := hbaseF 96 (not_dst (by kernel_rfl))
                simp only [List.getElem?_toArray, List.getElem?_cons_zero, List.getElem?_cons_succ, Option.getD_some] at e96
                have e97 := hbaseF 97 (not_dst (by kernel_rfl))
                simp only [List.getElem?_toArray, List.getElem?_cons_zero, List.getElem?_cons_succ, Option.getD_some] at e97
                have e98 := hbaseF 98 (not_dst (by kernel_rfl))
                simp only [List.getElem?_toArray, List.getElem?_cons_zero, List.getElem?_cons_succ, Option.getD_some] at e98
                have e99 := hbaseF 99 (not_dst (by kernel_rfl))
                simp only [List.getElem?_toArray, List.getElem?_cons_zero, List.getElem?_cons_succ, Option.getD_some] at e99
                have e100 := hbaseF 100 (not_dst (by kernel_rfl))
                simp only [List.getElem?_toArray, List.getElem?_cons_zero, List.getElem?_cons_succ, Option.getD_some] at e100
                have e101 := hbaseF 101 (not_dst (by kernel_rfl))
                simp only [List.getElem?_toArray, List.getElem?_cons_zero, List.getElem?_cons_succ, Option.getD_some] at e101
                have e102 := hbaseF 102 (not_dst (by kernel_rfl))
                simp only [List.getElem?_toArray, List.getElem?_cons_zero, List.getElem?_cons_succ, Option.getD_some] at e102
                have e103 := hbaseF 103 (not_dst (by kernel_rfl))
                simp only [List.getElem?_toArray, List.getElem?_cons_zero, List.getElem?_cons_succ, Option.getD_some] at e103
                have e104 := hbaseF 104 (not_dst (by kernel_rfl))
                simp only [List.getElem?_toArray, List.getElem?_cons_zero, List.getElem?_cons_succ, Option.getD_some] at e104
                have e105 := hbaseF 105 (not_dst (by kernel_rfl))
                simp only [List.getElem?_toArray, List.getElem?_cons_zero, List.getElem?_cons_succ, Option.getD_some] at e105
                have e106 := hbaseF 106 (not_dst (by kernel_rfl))
                simp only [List.getElem?_toArray, List.getElem?_cons_zero, List.getElem?_cons_succ, Option.getD_some] at e106
                have e107 := hbaseF 107 (not_dst (by kernel_rfl))
                simp only [List.getElem?_toArray, List.getElem?_cons_zero, List.getElem?_cons_succ, Option.getD_some] at e107
                have e108 := hbaseF 108 (not_dst (by kernel_rfl))
                simp only [List.getElem?_toArray, List.getElem?_cons_zero, List.getElem?_cons_succ, Option.getD_some] at e108
                have e109 := hbaseF 109 (not_dst (by kernel_rfl))
                simp only [List.getElem?_toArray, List.getElem?_cons_zero, List.getElem?_cons_succ, Option.getD_some] at e109
                have e110 := hbaseF 110 (not_dst (by kernel_rfl))
                simp only [List.getElem?_toArray, List.getElem?_cons_zero, List.getElem?_cons_succ, Option.getD_some] at e110
                have e111 := hbaseF 111 (not_dst (by kernel_rfl))
                simp only [List.getElem?_toArray, List.getElem?_cons_zero, List.getElem?_cons_succ, Option.getD_some] at e111
                have e112 := hbaseF 112 (not_dst (by kernel_rfl))
                simp only [List.getElem?_toArray, List.getElem?_cons_zero, List.getElem?_cons_succ, Option.getD_some] at e112
                have e89 := hfactF 16 89 (by decide) rfl
                replace e89 : T[89]?.getD undef = .bool false := e89
                clear hbaseF hfactF
                have hT : T = #[T[0]?.getD undef, T[1]?.getD undef, T[2]?.getD undef, T[3]?.getD undef, T[4]?.getD undef, T[5]?.getD undef, T[6]?.getD undef, T[7]?.getD undef, T[8]?.getD undef, T[9]?.getD undef, T[10]?.getD undef, T[11]?.getD undef, T[12]?.getD undef, T[13]?.getD undef, T[14]?.getD undef, T[15]?.getD undef, T[16]?.getD undef, T[17]?.getD undef, T[18]?.getD undef, T[19]?.getD undef, T[20]?.getD undef, T[21]?.getD undef, T[22]?.getD undef, T[23]?.getD undef, T[24]?.getD undef, T[25]?.getD undef, T[26]?.getD undef, T[27]?.getD undef, T[28]?.getD undef, T[29]?.getD undef, T[30]?.getD undef, T[31]?.getD undef, T[32]?.getD undef, T[33]?.getD undef, T[34]?.getD undef, T[35]?.getD undef, T[36]?.getD undef, T[37]?.getD undef, T[38]?.getD undef, T[39]?.getD undef, T[40]?.getD undef, T[41]?.getD undef, T[42]?.getD undef, T[43]?.getD undef, T[44]?.getD undef, T[45]?.getD undef, T[46]?.getD undef, T[47]?.getD undef, T[48]?.getD undef, T[49]?.getD undef, T[50]?.getD undef, T[51]?.getD undef, T[52]?.getD undef, T[53]?.getD undef, T[54]?.getD undef, T[55]?.getD undef, T[56]?.getD undef, T[57]?.getD undef, T[58]?.getD undef, T[59]?.getD undef, T[60]?.getD undef, T[61]?.getD undef, T[62]?.getD undef, T[63]?.getD undef, T[64]?.getD undef, T[65]?.getD undef, T[66]?.getD undef, T[67]?.getD undef, T[68]?.getD undef, T[69]?.getD undef, T[70]?.getD undef, T[71]?.getD undef, T[72]?.getD undef, T[73]?.getD undef, T[74]?.getD undef, T[75]?.getD undef, T[76]?.getD undef, T[77]?.getD undef, T[78]?.getD undef, T[79]?.getD undef, T[80]?.getD undef, T[81]?.getD undef, T[82]?.getD undef, T[83]?.getD undef, T[84]?.getD undef, T[85]?.getD undef, T[86]?.getD undef, T[87]?.getD undef, T[88]?.getD undef, T[89]?.getD undef, T[90]?.getD undef, T[91]?.getD undef, T[92]?.getD undef, T[93]?.getD undef, T[94]?.getD undef, T[95]?.getD undef, T[96]?.getD undef, T[97]?.getD undef, T[98]?.getD undef, T[99]?.getD undef, T[100]?.getD undef, T[101]?.getD undef, T[102]?.getD undef, T[103]?.getD undef, T[104]?.getD undef, T[105]?.getD undef, T[106]?.getD undef, T[107]?.getD undef, T[108]?.getD undef, T[109]?.getD undef, T[110]?.getD undef, T[111]?.getD undef, T[112]?.getD undef] := arr_eq T 113 hsF
                clear hsF
                rw [e0] at hT; clear e0
                rw [e1] at hT; clear e1
                rw [e2] at hT; clear e2
                rw [e3] at hT; clear e3
                rw [e4] at hT; clear e4
                rw [e5] at hT; clear e5
                rw [e6] at hT; clear e6
                rw [e7] at hT; clear e7
                rw [e8] at hT; clear e8
                rw [e9] at hT; clear e9
                rw [e10] at hT; clear e10
                rw [e11] at hT; clear e11
                rw [e12] at hT; clear e12
                rw [e13] at hT; clear e13
                rw [e14] at hT; clear e14
                rw [e15] at hT; clear e15
                rw [e16] at hT; clear e16
                rw [e17] at hT; clear e17
                rw [e18] at hT; clear e18
                rw [e19] at hT; clear e19
                rw [e20] at hT; clear e20
                rw [e21] at hT; clear e21
                rw [e22] at hT; clear e22
                rw [e23] at hT; clear e23
                rw [e24] at hT; clear e24
                rw [e25] at hT; clear e25
                rw [e26] at hT; clear e26
                rw [e27] at hT; clear e27
                rw [e28] at hT; clear e28
                rw [e29] at hT; clear e29
                rw [e30] at hT; clear e30
                rw [e31] at hT; clear e31
                rw [e32] at hT; clear e32
                rw [e33] at hT; clear e33
                rw [e34] at hT; clear e34
                rw [e35] at hT; clear e35
                rw [e36] at hT; clear e36
                rw [e37] at hT; clear e37
                rw [e38] at hT; clear e38
                rw [e39] at hT; clear e39
                rw [e40] at hT; clear e40
                rw [e41] at hT; clear e41
                rw [e42] at hT; clear e42
                rw [e43] at hT; clear e43
                rw [e44] at hT; clear e44
                rw [e45] at hT; clear e45
                rw [e46] at hT; clear e46
                rw [e47] at hT; clear e47
                rw [e48] at hT; clear e48
                rw [e49] at hT; clear e49
                rw [e50] at hT; clear e50
                rw [e51] at hT; clear e51
                rw [e52] at hT; clear e52
                rw [e53] at hT; clear e53
                rw [e54] at hT; clear e54
                rw [e55] at hT; clear e55
                rw [e56] at hT; clear e56
                rw [e57] at hT; clear e57
                rw [e58] at hT; clear e58
                rw [e59] at hT; clear e59
                rw [e60] at hT; clear e60
                rw [e61] at hT; clear e61
                rw [e62] at hT; clear e62
                rw [e63] at hT; clear e63
                rw [e64] at hT; clear e64
                rw [e65] at hT; clear e65
                rw [e66] at hT; clear e66
                rw [e67] at hT; clear e67
                rw [e68] at hT; clear e68
                rw [e69] at hT; clear e69
                rw [e70] at hT; clear e70
                rw [e71] at hT; clear e71
                rw [e72] at hT; clear e72
                generalize T[73]?.getD undef = u73 at hT
                generalize T[74]?.getD undef = u74 at hT
                generalize T[75]?.getD undef = u75 at hT
                generalize T[76]?.getD undef = u76 at hT
                generalize T[77]?.getD undef = u77 at hT
                generalize T[78]?.getD undef = u78 at hT
                generalize T[79]?.getD undef = u79 at hT
                generalize T[80]?.getD undef = u80 at hT
                generalize T[81]?.getD undef = u81 at hT
                generalize T[82]?.getD undef = u82 at hT
                generalize T[83]?.getD undef = u83 at hT
                generalize T[84]?.getD undef = u84 at hT
                generalize T[85]?.getD undef = u85 at hT
                generalize T[86]?.getD undef = u86 at hT
                generalize T[87]?.getD undef = u87 at hT
                generalize T[88]?.getD undef = u88 at hT
                rw [e89] at hT; clear e89
                rw [e90] at hT; clear e90
                rw [e91] at hT; clear e91
                rw [e92] at hT; clear e92
                rw [e93] at hT; clear e93
                rw [e94] at hT; clear e94
                rw [e95] at hT; clear e95
                rw [e96] at hT; clear e96
                rw [e97] at hT; clear e97
                rw [e98] at hT; clear e98
                rw [e99] at hT; clear e99
                rw [e100] at hT; clear e100
                rw [e101] at hT; clear e101
                rw [e102] at hT; clear e102
                rw [e103] at hT; clear e103
                rw [e104] at hT; clear e104
                rw [e105] at hT; clear e105
                rw [e106] at hT; clear e106
                rw [e107] at hT; clear e107
                rw [e108] at hT; clear e108
                rw [e109] at hT; clear e109
                rw [e110] at hT; clear e110
                rw [e111] at hT; clear e111
                rw [e112] at hT; clear e112
                subst hT
                go_wp2_with fail
                go_roundw
                case rel => exact ⟨k + 1, L2, 0, by omega, by go_num, hL80, hrF.below hbF, hsF.below hbF, hKF.trans (.of_below hbF), hbelF.trans (hbF.mono hbelF.size)⟩
                case measure => simp [intOf] <;> omega
            · have hE1 : (E2 == 0) = false := by simp [hE]
              have hE2 : (E2 != 0) = true := by simp [hE]
              have HLf := Lib.hid (show restI L2 E2 = 0 by unfold restI; rw [if_neg hE])
              clear hE
              go_wp2_with fail
              refine wp_flows [(fun y_ _ => y_ = .bool true), (fun y_ _ => y_ = .bool false), (fun y_ _ => y_ = .bool false), (fun y_ _ => y_ = .pointer (some ⟨g1, 0, none⟩)), (fun y_ _ => y_ = .int .i64 E2), (fun y_ _ => y_ = .pointer (some ⟨g2, 0, none⟩)), (fun y_ _ => y_ = .pointer (some ⟨g2, 0, none⟩)), (fun y_ _ => y_ = .pointer (some ⟨g2, 1, none⟩)), (fun y_ _ => y_ = .int .i64 E2), (fun y_ _ => y_ = .bool false), (fun y_ _ => y_ = .bool false), (fun y_ _ => y_ = .bool false), (fun y_ _ => y_ = .pointer (some ⟨g1, 0, none⟩)), (fun y_ _ => y_ = .int .i64 (0 : Int)), (fun y_ _ => y_ = .int .i64 (0 : Int)), (fun y_ _ => y_ = .bool false), (fun y_ _ => y_ = .bool false)] (by kernel_rfl) ⟨Stab.eq _, Stab.eq _, Stab.eq _, Stab.eq _, Stab.eq _, Stab.eq _, Stab.eq _, Stab.eq _, Stab.eq _, Stab.eq _, Stab.eq _, Stab.eq _, Stab.eq _, Stab.eq _, Stab.eq _, Stab.eq _, Stab.eq _, trivial⟩ (by kernel_rfl) (by rfl) ?_ ?_
              · intro kq hkq
                match kq, hkq with
                | 0, _ =>
                  refine StepOk.plain _ 73 rfl rfl rfl [(9, none)] (by kernel_rfl) (fun af wf hbw hf Kf hKf => ?_)
                  obtain ⟨g9, _⟩ := hf
                  have h9 : af.tmps[9]?.getD undef = .bool true := g9
                  clear g9
                  go_simp
                  exact hKf _ _ (Below.refl _ _) rfl
                | 1, _ =>
                  refine StepOk.plain _ 74 rfl rfl rfl [(73, some 0)] (by kernel_rfl) (fun af wf hbw hf Kf hKf => ?_)
                  obtain ⟨g73, _⟩ := hf
                  have h73 : af.tmps[73]?.getD undef = .bool true := g73
                  clear g73
                  go_simp
                  exact hKf _ _ (Below.refl _ _) rfl
                | 2, _ =>
                  refine StepOk.plain _ 75 rfl rfl rfl [(74, some 1)] (by kernel_rfl) (fun af wf hbw hf Kf hKf => ?_)
                  obtain ⟨g74, _⟩ := hf
                  have h74 : af.tmps[74]?.getD undef = .bool false := g74
                  clear g74
                  go_simp
                  exact hKf _ _ (Below.refl _ _) rfl
                | 3, _ =>
                  refine StepOk.yes _ 76 rfl rfl rfl rfl (fun _ _ h => h) [(5, none)] (by kernel_rfl) (fun af wf hbw hf Kf hKf => ?_)
                  obtain ⟨g5, _⟩ := hf
                  have h5 : af.tmps[5]?.getD undef = .pointer (some ⟨g1, 0, none⟩) := g5
                  clear g5
                  go_simp
                  exact hKf _ _ (Below.refl _ _) rfl
                | 4, _ =>
                  refine StepOk.yes _ 77 rfl rfl rfl rfl (fun _ _ h => h) [(76, some 3)] (by kernel_rfl) (fun af wf hbw hf Kf hKf => ?_)
                  obtain ⟨g76, _⟩ := hf
                  have h76 : af.tmps[76]?.getD undef = .pointer (some ⟨g1, 0, none⟩) := g76
                  clear g76
                  go_simp
                  refine (err_any g1 [g1, g2] L2 E2 _ (RowIs.below (RowIs.drew hrF) hbw)).mono ?_
                  rintro e wN ⟨rfl, rfl⟩
                  exact hKf _ _ (Below.refl _ _) (rfl)
                | 5, _ =>
                  refine StepOk.yes _ 78 rfl rfl rfl rfl (fun _ _ h => h) [(6, none)] (by kernel_rfl) (fun af wf hbw hf Kf hKf => ?_)
                  obtain ⟨g6, _⟩ := hf
                  have h6 : af.tmps[6]?.getD undef = .pointer (some ⟨g2, 0, none⟩) := g6
                  clear g6
                  go_simp
                  exact hKf _ _ (Below.refl _ _) rfl
                | 6, _ =>
                  refine StepOk.yes _ 79 rfl rfl rfl rfl (fun _ _ h => h) [(78, some 5)] (by kernel_rfl) (fun af wf hbw hf Kf hKf => ?_)
                  obtain ⟨g78, _⟩ := hf
                  have h78 : af.tmps[78]?.getD undef = .pointer (some ⟨g2, 0, none⟩) := g78
                  clear g78
                  go_simp
                  exact hKf _ _ (Below.refl _ _) rfl
                | 7, _ =>
                  refine StepOk.yes _ 80 rfl rfl rfl rfl (fun _ _ h => h) [(79, some 6)] (by kernel_rfl) (fun af wf hbw hf Kf hKf => ?_)
                  obtain ⟨g79, _⟩ := hf
                  have h79 : af.tmps[79]?.getD undef = .pointer (some ⟨g2, 0, none⟩) := g79
                  clear g79
                  go_simp
                  exact hKf _ _ (Below.refl _ _) rfl
                | 8, _ =>
                  refine StepOk.yes _ 81 rfl rfl rfl rfl (fun _ _ h => h) [(80, some 7)] (by kernel_rfl) (fun af wf hbw hf Kf hKf => ?_)
                  obtain ⟨g80, _⟩ := hf
                  have h80 : af.tmps[80]?.getD undef = .pointer (some ⟨g2, 1, none⟩) := g80
                  clear g80
                  have cB0 := (Blk.on (Blk.drew (hB2)) hbw).cell
                  go_simp
                  exact hKf _ _ (Below.refl _ _) rfl
                | 9, _ =>
                  refine StepOk.yes _ 82 rfl rfl rfl rfl (fun _ _ h => h) [(77, some 4), (81, some 8)] (by kernel_rfl) (fun af wf hbw hf Kf hKf => ?_)
                  obtain ⟨g77, g81, _⟩ := hf
                  have h77 : af.tmps[77]?.getD undef = .int .i64 E2 := g77
                  have h81 : af.tmps[81]?.getD undef = .int .i64 E2 := g81
                  clear g77 g81
                  go_simp
                  exact hKf _ _ (Below.refl _ _) rfl
                | 10, _ =>
                  refine StepOk.plain _ 83 rfl rfl rfl [(75, some 2), (82, some 9)] (by kernel_rfl) (fun af wf hbw hf Kf hKf => ?_)
                  obtain ⟨g75, g82, _⟩ := hf
                  have h75 : af.tmps[75]?.getD undef = .bool false := g75
                  have h82 : af.tmps[82]?.getD undef = .bool false := g82
                  clear g75 g82
                  go_simp
                  exact hKf _ _ (Below.refl _ _) rfl
                | 11, _ =>
                  refine StepOk.plain _ 84 rfl rfl rfl [(83, some 10)] (by kernel_rfl) (fun af wf hbw hf Kf hKf => ?_)
                  obtain ⟨g83, _⟩ := hf
                  have h83 : af.tmps[83]?.getD undef = .bool false := g83
                  clear g83
                  go_simp
                  exact hKf _ _ (Below.refl _ _) rfl
                | 12, _ =>
                  refine StepOk.yes _ 85 rfl rfl rfl rfl (fun _ _ h => h) [(5, none)] (by kernel_rfl) (fun af wf hbw hf Kf hKf => ?_)
                  obtain ⟨g5, _⟩ := hf
                  have h5 : af.tmps[5]?.getD undef = .pointer (some ⟨g1, 0, none⟩) := g5
                  clear g5
                  go_simp
                  exact hKf _ _ (Below.refl _ _) rfl
                | 13, _ =>
                  refine StepOk.yes _ 86 rfl rfl rfl rfl (fun _ _ h => h) [(85, some 12)] (by kernel_rfl) (fun af wf hbw hf Kf hKf => ?_)
                  obtain ⟨g85, _⟩ := hf
                  have h85 : af.tmps[85]?.getD undef = .pointer (some ⟨g1, 0, none⟩) := g85
                  clear g85
                  go_simp
                  refine (rest_any g1 [g1, g2] L2 E2 _ (RowIs.below (RowIs.drew hrF) hbw)).mono ?_
                  rintro e wN ⟨rfl, rfl⟩
                  exact hKf _ _ (Below.refl _ _) (int_eq (HLf.out))
                | 14, _ =>
                  refine StepOk.yes _ 87 rfl rfl rfl rfl (fun _ _ h => h) [(10, none)] (by kernel_rfl) (fun af wf hbw hf Kf hKf => ?_)
                  obtain ⟨g10, _⟩ := hf
                  have h10 : af.tmps[10]?.getD undef = .int .i64 (0 : Int) := g10
                  clear g10
                  go_simp
                  exact hKf _ _ (Below.refl _ _) rfl
                | 15, _ =>
                  refine StepOk.yes _ 88 rfl rfl rfl rfl (fun _ _ h => h) [(86, some 13), (87, some 14)] (by kernel_rfl) (fun af wf hbw hf Kf hKf => ?_)
                  obtain ⟨g86, g87, _⟩ := hf
                  have h86 : af.tmps[86]?.getD undef = .int .i64 (0 : Int) := g86
                  have h87 : af.tmps[87]?.getD undef = .int .i64 (0 : Int) := g87
                  clear g86 g87
                  go_simp
                  exact hKf _ _ (Below.refl _ _) rfl
                | 16, _ =>
                  refine StepOk.plain _ 89 rfl rfl rfl [(84, some 11), (88, some 15)] (by kernel_rfl) (fun af wf hbw hf Kf hKf => ?_)
                  obtain ⟨g84, g88, _⟩ := hf
                  have h84 : af.tmps[84]?.getD undef = .bool false := g84
                  have h88 : af.tmps[88]?.getD undef = .bool false := g88
                  clear g84 g88
                  go_simp
                  exact hKf _ _ (Below.refl _ _) rfl
                | i + 17, h => exact absurd h (by show ¬ (i + 17 < 17); omega)
              · intro af wF hbF hdF hsF hbaseF hfactF
                obtain ⟨T, dsF⟩ := af
                obtain rfl : dsF = _ := hdF
                have e0 := hbaseF 0 (not_dst (by kernel_rfl))
                simp only [List.getElem?_toArray, List.getElem?_cons_zero, Option.getD_some] at e0
                have e1 := hbaseF 1 (not_dst (by kernel_rfl))
                simp only [List.getElem?_toArray, List.getElem?_cons_zero, List.getElem?_cons_succ, Option.getD_some] at e1
                have e2 := hbaseF 2 (not_dst (by kernel_rfl))
                simp only [List.getElem?_toArray, List.getElem?_cons_zero, List.getElem?_cons_succ, Option.getD_some] at e2
                have e3 := hbaseF 3 (not_dst (by kernel_rfl))
                simp only [List.getElem?_toArray, List.getElem?_cons_zero, List.getElem?_cons_succ, Option.getD_some] at e3
                have e4 := hbaseF 4 (not_dst (by kernel_rfl))
                simp only [List.getElem?_toArray, List.getElem?_cons_zero, List.getElem?_cons_succ, Option.getD_some] at e4
                have e5 := hbaseF 5 (not_dst (by kernel_rfl))
                simp only [List.getElem?_toArray, List.getElem?_cons_zero, List.getElem?_cons_succ, Option.getD_some] at e5
                have e6 := hbaseF 6 (not_dst (by kernel_rfl))
                simp only [List.getElem?_toArray, List.getElem?_cons_zero, List.getElem?_cons_succ, Option.getD_some] at e6
                have e7 := hbaseF 7 (not_dst (by kernel_rfl))
                simp only [List.getElem?_toArray, List.getElem?_cons_zero, List.getElem?_cons_succ, Option.getD_some] at e7
                have e8 := hbaseF 8 (not_dst (by kernel_rfl))
                simp only [List.getElem?_toArray, List.getElem?_cons_zero, List.getElem?_cons_succ, Option.getD_some] at e8
                have e9 := hbaseF 9 (not_dst (by kernel_rfl))
                simp only [List.getElem?_toArray, List.getElem?_cons_zero, List.getElem?_cons_succ, Option.getD_some] at e9
                have e10 := hbaseF 10 (not_dst (by kernel_rfl))
                simp only [List.getElem?_toArray, List.getElem?_cons_zero, List.getElem?_cons_succ, Option.getD_some] at e10
                have e11 := hbaseF 11 (not_dst (by kernel_rfl))
                simp only [List.getElem?_toArray, List.getElem?_cons_zero, List.getElem?_cons_succ, Option.getD_some] at e11
                have e12 := hbaseF 12 (not_dst (by kernel_rfl))
                simp only [List.getElem?_toArray, List.getElem?_cons_zero, List.getElem?_cons_succ, Option.getD_some] at e12
                have e13 := hbaseF 13 (not_dst (by kernel_rfl))
                simp only [List.getElem?_toArray, List.getElem?_cons_zero, List.getElem?_cons_succ, Option.getD_some] at e13
                have e14 := hbaseF 14 (not_dst (by kernel_rfl))
                simp only [List.getElem?_toArray, List.getElem?_cons_zero, List.getElem?_cons_succ, Option.getD_some] at e14
                have e15 := hbaseF 15 (not_dst (by kernel_rfl))
                simp only [List.getElem?_toArray, List.getElem?_cons_zero, List.getElem?_cons_succ, Option.getD_some] at e15
                have e16 := hbaseF 16 (not_dst (by kernel_rfl))
                simp only [List.getElem?_toArray, List.getElem?_cons_zero, List.getElem?_cons_succ, Option.getD_some] at e16
                have e17 := hbaseF 17 (not_dst (by kernel_rfl))
                simp only [List.getElem?_toArray, List.getElem?_cons_zero, List.getElem?_cons_succ, Option.getD_some] at e17
                have e18 := hbaseF 18 (not_dst (by kernel_rfl))
                simp only [List.getElem?_toArray, List.getElem?_cons_zero, List.getElem?_cons_succ, Option.getD_some] at e18
                have e19 := hbaseF 19 (not_dst (by kernel_rfl))
                simp only [List.getElem?_toArray, List.getElem?_cons_zero, List.getElem?_cons_succ, Option.getD_some] at e19
                have e20 := hbaseF 20 (not_dst (by kernel_rfl))
                simp only [List.getElem?_toArray, List.getElem?_cons_zero, List.getElem?_cons_succ, Option.getD_some] at e20
                have e21 := hbaseF 21 (not_dst (by kernel_rfl))
                simp only [List.getElem?_toArray, List.getElem?_cons_zero, List.getElem?_cons_succ, Option.getD_some] at e21
                have e22 := hbaseF 22 (not_dst (by kernel_rfl))
                simp only [List.getElem?_toArray, List.getElem?_cons_zero, List.getElem?_cons_succ, Option.getD_some] at e22
                have e23 := hbaseF 23 (not_dst (by kernel_rfl))
                simp only [List.getElem?_toArray, List.getElem?_cons_zero, List.getElem?_cons_succ, Option.getD_some] at e23
                have e24 := hbaseF 24 (not_dst (by kernel_rfl))
                simp only [List.getElem?_toArray, List.getElem?_cons_zero, List.getElem?_cons_succ, Option.getD_some] at e24
                have e25 := hbaseF 25 (not_dst (by kernel_rfl))
                simp only [List.getElem?_toArray, List.getElem?_cons_zero, List.getElem?_cons_succ, Option.getD_some] at e25
                have e26 := hbaseF 26 (not_dst (by kernel_rfl))
                simp only [List.getElem?_toArray, List.getElem?_cons_zero, List.getElem?_cons_succ, Option.getD_some] at e26
                have e27 := hbaseF 27 (not_dst (by kernel_rfl))
                simp only [List.getElem?_toArray, List.getElem?_cons_zero, List.getElem?_cons_succ, Option.getD_some] at e27
                have e28 := hbaseF 28 (not_dst (by kernel_rfl))
                simp only [List.getElem?_toArray, List.getElem?_cons_zero, List.getElem?_cons_succ, Option.getD_some] at e28
                have e29 := hbaseF 29 (not_dst (by kernel_rfl))
                simp only [List.getElem?_toArray, List.getElem?_cons_zero, List.getElem?_cons_succ, Option.getD_some] at e29
                have e30 := hbaseF 30 (not_dst (by kernel_rfl))
                simp only [List.getElem?_toArray, List.getElem?_cons_zero, List.getElem?_cons_succ, Option.getD_some] at e30
                have e31 := hbaseF 31 (not_dst (by kernel_rfl))
                simp only [List.getElem?_toArray, List.getElem?_cons_zero, List.getElem?_cons_succ, Option.getD_some] at e31
                have e32 := hbaseF 32 (not_dst (by kernel_rfl))
                simp only [List.getElem?_toArray, List.getElem?_cons_zero, List.getElem?_cons_succ, Option.getD_some] at e32
                have e33 := hbaseF 33 (not_dst (by kernel_rfl))
                simp only [List.getElem?_toArray, List.getElem?_cons_zero, List.getElem?_cons_succ, Option.getD_some] at e33
                have e34 := hbaseF 34 (not_dst (by kernel_rfl))
                simp only [List.getElem?_toArray, List.getElem?_cons_zero, List.getElem?_cons_succ, Option.getD_some] at e34
                have e35 := hbaseF 35 (not_dst (by kernel_rfl))
                simp only [List.getElem?_toArray, List.getElem?_cons_zero, List.getElem?_cons_succ, Option.getD_some] at e35
                have e36 := hbaseF 36 (not_dst (by kernel_rfl))
                simp only [List.getElem?_toArray, List.getElem?_cons_zero, List.getElem?_cons_succ, Option.getD_some] at e36
                have e37 := hbaseF 37 (not_dst (by kernel_rfl))
                simp only [List.getElem?_toArray, List.getElem?_cons_zero, List.getElem?_cons_succ, Option.getD_some] at e37
                have e38 := hbaseF 38 (not_dst (by kernel_rfl))
                simp only [List.getElem?_toArray, List.getElem?_cons_zero, List.getElem?_cons_succ, Option.getD_some] at e38
                have e39 := hbaseF 39 (not_dst (by kernel_rfl))
                simp only [List.getElem?_toArray, List.getElem?_cons_zero, List.getElem?_cons_succ, Option.getD_some] at e39
                have e40 := hbaseF 40 (not_dst (by kernel_rfl))
                simp only [List.getElem?_toArray, List.getElem?_cons_zero, List.getElem?_cons_succ, Option.getD_some] at e40
                have e41 := hbaseF 41 (not_dst (by kernel_rfl))
                simp only [List.getElem?_toArray, List.getElem?_cons_zero, List.getElem?_cons_succ, Option.getD_some] at e41
                have e42 := hbaseF 42 (not_dst (by kernel_rfl))
                simp only [List.getElem?_toArray, List.getElem?_cons_zero, List.getElem?_cons_succ, Option.getD_some] at e42
                have e43 := hbaseF 43 (not_dst (by kernel_rfl))
                simp only [List.getElem?_toArray, List.getElem?_cons_zero, List.getElem?_cons_succ, Option.getD_some] at e43
                have e44 := hbaseF 44 (not_dst (by kernel_rfl))
                simp only [List.getElem?_toArray, List.getElem?_cons_zero, List.getElem?_cons_succ, Option.getD_some] at e44
                have e45 := hbaseF 45 (not_dst (by kernel_rfl))
                simp only [List.getElem?_toArray, List.getElem?_cons_zero, List.getElem?_cons_succ, Option.getD_some] at e45
                have e46 := hbaseF 46 (not_dst (by kernel_rfl))
                simp only [List.getElem?_toArray, List.getElem?_cons_zero, List.getElem?_cons_succ, Option.getD_some] at e46
                have e47 := hbaseF 47 (not_dst (by kernel_rfl))
                simp only [List.getElem?_toArray, List.getElem?_cons_zero, List.getElem?_cons_succ, Option.getD_some] at e47
                have e48 := hbaseF 48 (not_dst (by kernel_rfl))
                simp only [List.getElem?_toArray, List.getElem?_cons_zero, List.getElem?_cons_succ, Option.getD_some] at e48
                have e49 := hbaseF 49 (not_dst (by kernel_rfl))
                simp only [List.getElem?_toArray, List.getElem?_cons_zero, List.getElem?_cons_succ, Option.getD_some] at e49
                have e50 := hbaseF 50 (not_dst (by kernel_rfl))
                simp only [List.getElem?_toArray, List.getElem?_cons_zero, List.getElem?_cons_succ, Option.getD_some] at e50
                have e51 := hbaseF 51 (not_dst (by kernel_rfl))
                simp only [List.getElem?_toArray, List.getElem?_cons_zero, List.getElem?_cons_succ, Option.getD_some] at e51
                have e52 := hbaseF 52 (not_dst (by kernel_rfl))
                simp only [List.getElem?_toArray, List.getElem?_cons_zero, List.getElem?_cons_succ, Option.getD_some] at e52
                have e53 := hbaseF 53 (not_dst (by kernel_rfl))
                simp only [List.getElem?_toArray, List.getElem?_cons_zero, List.getElem?_cons_succ, Option.getD_some] at e53
                have e54 := hbaseF 54 (not_dst (by kernel_rfl))
                simp only [List.getElem?_toArray, List.getElem?_cons_zero, List.getElem?_cons_succ, Option.getD_some] at e54
                have e55 := hbaseF 55 (not_dst (by kernel_rfl))
                simp only [List.getElem?_toArray, List.getElem?_cons_zero, List.getElem?_cons_succ, Option.getD_some] at e55
                have e56 := hbaseF 56 (not_dst (by kernel_rfl))
                simp only [List.getElem?_toArray, List.getElem?_cons_zero, List.getElem?_cons_succ, Option.getD_some] at e56
                have e57 := hbaseF 57 (not_dst (by kernel_rfl))
                simp only [List.getElem?_toArray, List.getElem?_cons_zero, List.getElem?_cons_succ, Option.getD_some] at e57
                have e58 := hbaseF 58 (not_dst (by kernel_rfl))
                simp only [List.getElem?_toArray, List.getElem?_cons_zero, List.getElem?_cons_succ, Option.getD_some] at e58
                have e59 := hbaseF 59 (not_dst (by kernel_rfl))
                simp only [List.getElem?_toArray, List.getElem?_cons_zero, List.getElem?_cons_succ, Option.getD_some] at e59
                have e60 := hbaseF 60 (not_dst (by kernel_rfl))
                simp only [List.getElem?_toArray, List.getElem?_cons_zero, List.getElem?_cons_succ, Option.getD_some] at e60
                have e61 := hbaseF 61 (not_dst (by kernel_rfl))
                simp only [List.getElem?_toArray, List.getElem?_cons_zero, List.getElem?_cons_succ, Option.getD_some] at e61
                have e62 := hbaseF 62 (not_dst (by kernel_rfl))
                simp only [List.getElem?_toArray, List.getElem?_cons_zero, List.getElem?_cons_succ, Option.getD_some] at e62
                have e63 := hbaseF 63 (not_dst (by kernel_rfl))
                simp only [List.getElem?_toArray, List.getElem?_cons_zero, List.getElem?_cons_succ, Option.getD_some] at e63
                have e64 := hbaseF 64 (not_dst (by kernel_rfl))
                simp only [List.getElem?_toArray, List.getElem?_cons_zero, List.getElem?_cons_succ, Option.getD_some] at e64
                have e65 := hbaseF 65 (not_dst (by kernel_rfl))
                simp only [List.getElem?_toArray, List.getElem?_cons_zero, List.getElem?_cons_succ, Option.getD_some] at e65
                have e66 := hbaseF 66 (not_dst (by kernel_rfl))
                simp only [List.getElem?_toArray, List.getElem?_cons_zero, List.getElem?_cons_succ, Option.getD_some] at e66
                have e67 := hbaseF 67 (not_dst (by kernel_rfl))
                simp only [List.getElem?_toArray, List.getElem?_cons_zero, List.getElem?_cons_succ, Option.getD_some] at e67
                have e68 := hbaseF 68 (not_dst (by kernel_rfl))
                simp only [List.getElem?_toArray, List.getElem?_cons_zero, List.getElem?_cons_succ, Option.getD_some] at e68
                have e69 := hbaseF 69 (not_dst (by kernel_rfl))
                simp only [List.getElem?_toArray, List.getElem?_cons_zero, List.getElem?_cons_succ, Option.getD_some] at e69
                have e70 := hbaseF 70 (not_dst (by kernel_rfl))
                simp only [List.getElem?_toArray, List.getElem?_cons_zero, List.getElem?_cons_succ, Option.getD_some] at e70
                have e71 := hbaseF 71 (not_dst (by kernel_rfl))
                simp only [List.getElem?_toArray, List.getElem?_cons_zero, List.getElem?_cons_succ, Option.getD_some] at e71
                have e72 := hbaseF 72 (not_dst (by kernel_rfl))
                simp only [List.getElem?_toArray, List.getElem?_cons_zero, List.getElem?_cons_succ, Option.getD_some] at e72
                have e90 := hbaseF 90 (not_dst (by kernel_rfl))
                simp only [List.getElem?_toArray, List.getElem?_cons_zero, List.getElem?_cons_succ, Option.getD_some] at e90
                have e91 := hbaseF 91 (not_dst (by kernel_rfl))
                simp only [List.getElem?_toArray, List.getElem?_cons_zero, List.getElem?_cons_succ, Option.getD_some] at e91
                have e92 := hbaseF 92 (not_dst (by kernel_rfl))
                simp only [List.getElem?_toArray, List.getElem?_cons_zero, List.getElem?_cons_succ, Option.getD_some] at e92
                have e93 := hbaseF 93 (not_dst (by kernel_rfl))
                simp only [List.getElem?_toArray, List.getElem?_cons_zero, List.getElem?_cons_succ, Option.getD_some] at e93
                have e94 := hbaseF 94 (not_dst (by kernel_rfl))
                simp only [List.getElem?_toArray, List.getElem?_cons_zero, List.getElem?_cons_succ, Option.getD_some] at e94
                have e95 := hbaseF 95 (not_dst (by kernel_rfl))
                simp only [List.getElem?_toArray, List.getElem?_cons_zero, List.getElem?_cons_succ, Option.getD_some] at e95
                have e96 := hbaseF 96 (not_dst (by kernel_rfl))
                simp only [List.getElem?_toArray, List.getElem?_cons_zero, List.getElem?_cons_succ, Option.getD_some] at e96
                have e97 := hbaseF 97 (not_dst (by kernel_rfl))
                simp only [List.getElem?_toArray, List.getElem?_cons_zero, List.getElem?_cons_succ, Option.getD_some] at e97
                have e98 := hbaseF 98 (not_dst (by kernel_rfl))
                simp only [List.getElem?_toArray, List.getElem?_cons_zero, List.getElem?_cons_succ, Option.getD_some] at e98
                have e99 := hbaseF 99 (not_dst (by kernel_rfl))
                simp only [List.getElem?_toArray, List.getElem?_cons_zero, List.getElem?_cons_succ, Option.getD_some] at e99
                have e100 := hbaseF 100 (not_dst (by kernel_rfl))
                simp only [List.getElem?_toArray, List.getElem?_cons_zero, List.getElem?_cons_succ, Option.getD_some] at e100
                have e101 := hbaseF 101 (not_dst (by kernel_rfl))
                simp only [List.getElem?_toArray, List.getElem?_cons_zero, List.getElem?_cons_succ, Option.getD_some] at e101
                have e102 := hbaseF 102 (not_dst (by kernel_rfl))
                simp only [List.getElem?_toArray, List.getElem?_cons_zero, List.getElem?_cons_succ, Option.getD_some] at e102
                have e103 := hbaseF 103 (not_dst (by kernel_rfl))
                simp only [List.getElem?_toArray, List.getElem?_cons_zero, List.getElem?_cons_succ, Option.getD_some] at e103
                have e104 := hbaseF 104 (not_dst (by kernel_rfl))
                simp only [List.getElem?_toArray, List.getElem?_cons_zero, List.getElem?_cons_succ, Option.getD_some] at e104
                have e105 := hbaseF 105 (not_dst (by kernel_rfl))
                simp only [List.getElem?_toArray, List.getElem?_cons_zero, List.getElem?_cons_succ, Option.getD_some] at e105
                have e106 := hbaseF 106 (not_dst (by kernel_rfl))
                simp only [List.getElem?_toArray, List.getElem?_cons_zero, List.getElem?_cons_succ, Option.getD_some] at e106
                have e107 := hbaseF 107 (not_dst (by kernel_rfl))
                simp only [List.getElem?_toArray, List.getElem?_cons_zero, List.getElem?_cons_succ, Option.getD_some] at e107
                have e108 := hbaseF 108 (not_dst (by kernel_rfl))
                simp only [List.getElem?_toArray, List.getElem?_cons_zero, List.getElem?_cons_succ, Option.getD_some] at e108
                have e109 := hbaseF 109 (not_dst (by kernel_rfl))
                simp only [List.getElem?_toArray, List.getElem?_cons_zero, List.getElem?_cons_succ, Option.getD_some] at e109
                have e110 := hbaseF 110 (not_dst (by kernel_rfl))
                simp only [List.getElem?_toArray, List.getElem?_cons_zero, List.getElem?_cons_succ, Option.getD_some] at e110
                have e111 := hbaseF 111 (not_dst (by kernel_rfl))
                simp only [List.getElem?_toArray, List.getElem?_cons_zero, List.getElem?_cons_succ, Option.getD_some] at e111
                have e112 := hbaseF 112 (not_dst (by kernel_rfl))
                simp only [List.getElem?_toArray, List.getElem?_cons_zero, List.getElem?_cons_succ, Option.getD_some] at e112
                have e89 := hfactF 16 89 (by decide) rfl
                replace e89 : T[89]?.getD undef = .bool false := e89
                clear hbaseF hfactF
                have hT : T = #[T[0]?.getD undef, T[1]?.getD undef, T[2]?.getD undef, T[3]?.getD undef, T[4]?.getD undef, T[5]?.getD undef, T[6]?.getD undef, T[7]?.getD undef, T[8]?.getD undef, T[9]?.getD undef, T[10]?.getD undef, T[11]?.getD undef, T[12]?.getD undef, T[13]?.getD undef, T[14]?.getD undef, T[15]?.getD undef, T[16]?.getD undef, T[17]?.getD undef, T[18]?.getD undef, T[19]?.getD undef, T[20]?.getD undef, T[21]?.getD undef, T[22]?.getD undef, T[23]?.getD undef, T[24]?.getD undef, T[25]?.getD undef, T[26]?.getD undef, T[27]?.getD undef, T[28]?.getD undef, T[29]?.getD undef, T[30]?.getD undef, T[31]?.getD undef, T[32]?.getD undef, T[33]?.getD undef, T[34]?.getD undef, T[35]?.getD undef, T[36]?.getD undef, T[37]?.getD undef, T[38]?.getD undef, T[39]?.getD undef, T[40]?.getD undef, T[41]?.getD undef, T[42]?.getD undef, T[43]?.getD undef, T[44]?.getD undef, T[45]?.getD undef, T[46]?.getD undef, T[47]?.getD undef, T[48]?.getD undef, T[49]?.getD undef, T[50]?.getD undef, T[51]?.getD undef, T[52]?.getD undef, T[53]?.getD undef, T[54]?.getD undef, T[55]?.getD undef, T[56]?.getD undef, T[57]?.getD undef, T[58]?.getD undef, T[59]?.getD undef, T[60]?.getD undef, T[61]?.getD undef, T[62]?.getD undef, T[63]?.getD undef, T[64]?.getD undef, T[65]?.getD undef, T[66]?.getD undef, T[67]?.getD undef, T[68]?.getD undef, T[69]?.getD undef, T[70]?.getD undef, T[71]?.getD undef, T[72]?.getD undef, T[73]?.getD undef, T[74]?.getD undef, T[75]?.getD undef, T[76]?.getD undef, T[77]?.getD undef, T[78]?.getD undef, T[79]?.getD undef, T[80]?.getD undef, T[81]?.getD undef, T[82]?.getD undef, T[83]?.getD undef, T[84]?.getD undef, T[85]?.getD undef, T[86]?.getD undef, T[87]?.getD undef, T[88]?.getD undef, T[89]?.getD undef, T[90]?.getD undef, T[91]?.getD undef, T[92]?.getD undef, T[93]?.getD undef, T[94]?.getD undef, T[95]?.getD undef, T[96]?.getD undef, T[97]?.getD undef, T[98]?.getD undef, T[99]?.getD undef, T[100]?.getD undef, T[101]?.getD undef, T[102]?.getD undef, T[103]?.getD undef, T[104]?.getD undef, T[105]?.getD undef, T[106]?.getD undef, T[107]?.getD undef, T[108]?.getD undef, T[109]?.getD undef, T[110]?.getD undef, T[111]?.getD undef, T[112]?.getD undef] := arr_eq T 113 hsF
                clear hsF
                rw [e0] at hT; clear e0
                rw [e1] at hT; clear e1
                rw [e2] at hT; clear e2
                rw [e3] at hT; clear e3
                rw [e4] at hT; clear e4
                rw [e5] at hT; clear e5
                rw [e6] at hT; clear e6
                rw [e7] at hT; clear e7
                rw [e8] at hT; clear e8
                rw [e9] at hT; clear e9
                rw [e10] at hT; clear e10
                rw [e11] at hT; clear e11
                rw [e12] at hT; clear e12
                rw [e13] at hT; clear e13
                rw [e14] at hT; clear e14
                rw [e15] at hT; clear e15
                rw [e16] at hT; clear e16
                rw [e17] at hT; clear e17
                rw [e18] at hT; clear e18
                rw [e19] at hT; clear e19
                rw [e20] at hT; clear e20
                rw [e21] at hT; clear e21
                rw [e22] at hT; clear e22
                rw [e23] at hT; clear e23
                rw [e24] at hT; clear e24
                rw [e25] at hT; clear e25
                rw [e26] at hT; clear e26
                rw [e27] at hT; clear e27
                rw [e28] at hT; clear e28
                rw [e29] at hT; clear e29
                rw [e30] at hT; clear e30
                rw [e31] at hT; clear e31
                rw [e32] at hT; clear e32
                rw [e33] at hT; clear e33
                rw [e34] at hT; clear e34
                rw [e35] at hT; clear e35
                rw [e36] at hT; clear e36
                rw [e37] at hT; clear e37
                rw [e38] at hT; clear e38
                rw [e39] at hT; clear e39
                rw [e40] at hT; clear e40
                rw [e41] at hT; clear e41
                rw [e42] at hT; clear e42
                rw [e43] at hT; clear e43
                rw [e44] at hT; clear e44
                rw [e45] at hT; clear e45
                rw [e46] at hT; clear e46
                rw [e47] at hT; clear e47
                rw [e48] at hT; clear e48
                rw [e49] at hT; clear e49
                rw [e50] at hT; clear e50
                rw [e51] at hT; clear e51
                rw [e52] at hT; clear e52
                rw [e53] at hT; clear e53
                rw [e54] at hT; clear e54
                rw [e55] at hT; clear e55
                rw [e56] at hT; clear e56
                rw [e57] at hT; clear e57
                rw [e58] at hT; clear e58
                rw [e59] at hT; clear e59
                rw [e60] at hT; clear e60
                rw [e61] at hT; clear e61
                rw [e62] at hT; clear e62
                rw [e63] at hT; clear e63
                rw [e64] at hT; clear e64
                rw [e65] at hT; clear e65
                rw [e66] at hT; clear e66
                rw [e67] at hT; clear e67
                rw [e68] at hT; clear e68
                rw [e69] at hT; clear e69
                rw [e70] at hT; clear e70
                rw [e71] at hT; clear e71
                rw [e72] at hT; clear e72
                generalize T[73]?.getD undef = u73 at hT
                generalize T[74]?.getD undef = u74 at hT
                generalize T[75]?.getD undef = u75 at hT
                generalize T[76]?.getD undef = u76 at hT
                generalize T[77]?.getD undef = u77 at hT
                generalize T[78]?.getD undef = u78 at hT
                generalize T[79]?.getD undef = u79 at hT
                generalize T[80]?.getD undef = u80 at hT
                generalize T[81]?.getD undef = u81 at hT
                generalize T[82]?.getD undef = u82 at hT
                generalize T[83]?.getD undef = u83 at hT
                generalize T[84]?.getD undef = u84 at hT
                generalize T[85]?.getD undef = u85 at hT
                generalize T[86]?.getD undef = u86 at hT
                generalize T[87]?.getD undef = u87 at hT
                generalize T[88]?.getD undef = u88 at hT
                rw [e89] at hT; clear e89
                rw [e90] at hT; clear e90
                rw [e91] at hT; clear e91
                rw [e92] at hT; clear e92
                rw [e93] at hT; clear e93
                rw [e94] at hT; clear e94
                rw [e95] at hT; clear e95
                rw [e96] at hT; clear e96
                rw [e97] at hT; clear e97
                rw [e98] at hT; clear e98
                rw [e99] at hT; clear e99
                rw [e100] at hT; clear e100
                rw [e101] at hT; clear e101
                rw [e102] at hT; clear e102
                rw [e103] at hT; clear e103
                rw [e104] at hT; clear e104
                rw [e105] at hT; clear e105
                rw [e106] at hT; clear e106
                rw [e107] at hT; clear e107
                rw [e108] at hT; clear e108
                rw [e109] at hT; clear e109
                rw [e110] at hT; clear e110
                rw [e111] at hT; clear e111
                rw [e112] at hT; clear e112
                subst hT
                go_wp2_with fail
                go_roundw
                case rel => exact ⟨k + 1, L2, E2, by omega, by go_num, hL80, hrF.below hbF, hsF.below hbF, hKF.trans (.of_below hbF), hbelF.trans (hbF.mono hbelF.size)⟩
                case measure => simp [intOf] <;> omega
    · have hbF := hbel
      go_wp2_with fail
      refine (err_nil _).mono ?_
      rintro e wa ⟨rfl, rfl⟩
      go_wp2_with fail
      refine (num_nil _).mono ?_
      rintro e wa ⟨rfl, rfl⟩
      go_wp2_with fail
      refine (rbytes_nil _).mono ?_
      rintro e wa ⟨v, rfl, hFv, hba⟩
      obtain ⟨Av, cv, rfl, hRv, _⟩ := hFv.rdn 0 rfl
      go_wp2_with fail
      refine (rest_nil _).mono ?_
      rintro e wb ⟨rfl, rfl⟩
      go_wp2_with fail
      refine (wawake_any _).mono ?_
      rintro e wb ⟨rfl, hbb⟩
      go_wp2_with fail
      go_ret
      exact ⟨rfl, (by (have q_hbb := Below.size hbb; (try simp at q_hbb); have q_hba := Below.size hba; (try simp at q_hba); have q_hbF := Below.size hbF; (try simp at q_hbF); repeat (first | exact Below.refl _ _ | (refine Below.trans ?_ (Below.mono hbb (by first | omega | (simp; omega) | simp))) | (refine Below.trans ?_ (Below.mono hba (by first | omega | (simp; omega) | simp))) | (refine Below.trans ?_ (Below.mono hbF (by first | omega | (simp; omega) | simp))) | (refine Below.setCell ?_ (by first | omega | (simp; omega) | simp) _) | (refine Below.alloc ?_ (by first | omega | (simp; omega) | simp) _) | apply Below.drew | apply below_drewN)))⟩
end Go.Proofs.Ytdnjlhcmihmgdaa
