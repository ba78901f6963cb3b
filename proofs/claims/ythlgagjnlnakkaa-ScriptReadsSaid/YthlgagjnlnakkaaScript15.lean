/- Scripts: bytes' acts, by the program: Parse. -/
import Derived.Test.YthlgagjnlnakkaaScript14
namespace Go.Proofs.Ythlgagjnlnakkaa
open Go.RowKit

def lenS : Value → Nat | .slice _ n _ => n | _ => 0
def ch5 {α : Type} (a b c d e : α) : Nat → α | 0 => a | 1 => b | 2 => c | 3 => d | _ => e
/-- Parse's end: all was read; or something was left that is no act. -/
def ParsedS (w : World) (b : List UInt8) (e : Ending) (w' : World) : Prop :=
  ((∃ es v, PA b es [] ∧ e = .returned (.tuple #[v, .int .i64 0]) ∧ OwnR actK 34 w.heap.size w.heap.size 5 w' v es) ∨ (∃ es r, PA b es r ∧ r ≠ [] ∧ stepOK r = false ∧ e = .returned (.tuple #[.slice none 0 0, .int .i64 4]))) ∧ Below w.heap.size w w'
theorem stepOK_err {r l : List UInt8} {e : Int} (h : rlast r = (l, e)) (he : e ≠ 0) : stepOK r = false := by simp [stepOK, h, he]
theorem stepOK_may {r : List UInt8} {e : ActD} (h : readA r = e) (hm : mayA e = false) : stepOK r = false := by simp [stepOK, h, hm]
theorem stepOK_pre {r l : List UInt8} {e : ActD} (h : readA r = e) (hl : rlast r = (l, 0)) (hp : ¬ encA e <+: r) : stepOK r = false := by
  have := prefix_iff (b := r) (by rw [hl])
  rw [h] at this
  have hn : ¬ getL (ro1 r) ≤ 1 := fun h => hp (this.2 h)
  unfold stepOK
  rw [show decide (getL (ro1 r) ≤ 1) = false from decide_eq_false hn, Bool.and_false]
theorem stepOK_yes {r l : List UInt8} {e : ActD} (h : readA r = e) (hl : rlast r = (l, 0)) (hm : mayA e = true) (hp : encA e <+: r) : stepOK r = true := by
  have := prefix_iff (b := r) (by rw [hl])
  rw [h] at this
  have hn := this.1 hp
  unfold stepOK
  rw [show decide (getL (ro1 r) ≤ 1) = true from decide_eq_true hn, h, hm, hl]
  rfl
theorem rest_drop {r l : List UInt8} {e : ActD} (h : readA r = e) (hl : rlast r = (l, 0)) (hs : stepOK r = true) : r.drop (encA e).length = l := by
  obtain ⟨_, h2⟩ := stepOK_enc hs
  rw [h, hl] at h2
  conv => lhs; rw [h2]
  simp

set_option maxRecDepth 100000 in
set_option maxHeartbeats 8000000 in
theorem sparse_any (A : Option Addr) (n c : Nat) (b : List UInt8) (w : World) (hr : Rd w A n b) (hn : n ≤ 1000000000) (hc : n ≤ c) (hcm : c ≤ maxLen) :
    Calls Try.prog 17 #[.slice A n c] w (ParsedS w b) := by
  unfold maxLen at hcm
  go_enter Try.func17, Try.ntmps17
  go_wp2_with fail
  go_loopw [0, 4] (fun bv ov wr => ∃ (es : List ActD) (r : List UInt8) (Ab : Option Addr) (nb cb : Nat), bv = .slice Ab nb cb ∧ Rd w Ab nb r ∧ nb ≤ n ∧ nb ≤ cb ∧ cb ≤ c ∧ es.length ≤ n - nb ∧ PA b es r ∧ OwnR actK 34 w.heap.size w.heap.size 5 wr ov es ∧ Below w.heap.size w wr) (fun bv _ _ => lenS bv)
  case atStart => exact ⟨[], b, A, n, c, rfl, hr, by omega, hc, by omega, by simp, PA.nil b, OwnR.nil _, Below.refl _ _⟩
  case round =>
    obtain ⟨wo, hwo⟩ : ∃ wo, wo = wr := ⟨_, rfl⟩
    subst hwo
    obtain ⟨es, r, Ab, nb, cb, rfl, hRb, hnb, hnc, hcc, hel, hPA, hO, hbel⟩ := hrel
    have hbz := hbel.size
    have hrl := hRb.len
    have HPA := Lib.hid hPA
    clear hPA
    by_cases h0 : 0 < nb
    · obtain ⟨l1, l2, l3, l4, l5, l6, l7, l8, L, e1, e2, e3, e4, e5, e6, e7, e8, x0, x1, x2, x3, x4, x5, y, nn, ⟨N0, N1, N2, N3, N4, N5, N6, BC⟩, hread, hlast, hy, ⟨x00, x01⟩, ⟨x10, x11⟩, ⟨x20, x21⟩, ⟨x30, x31⟩, ⟨x40, x41⟩, ⟨x50, x51⟩, hnn, hLr⟩ := read_chain r (by omega)
      have HE := Lib.hid hread
      have HL := Lib.hid hlast
      have hne := Lib.hid (show r ≠ [] by intro h; rw [h] at hrl; simp at hrl; omega)
      obtain ⟨nL, hnL⟩ : ∃ nL, L.length = nL := ⟨_, rfl⟩
      have hRb1 := hRb.on hbel (Nat.le_refl _)
      have q0 : (0 : Int) < nb := by omega
      clear hread hlast
      go_wp2_with fail
      refine (of_any Ab nb cb r _ hRb1 (by omega)).mono ?_
      rintro e w1 ⟨g, rfl, hg, hR1, hb1⟩
      have hz1 := hR1.lt
      go_wp2_with fail
      refine (N0 g [g] _ hR1).mono ?_
      rintro e w2 ⟨rfl, hR2, hK2⟩
      go_wp2_with fail
      refine (N1 g [g] _ hR2).mono ?_
      rintro e w3 ⟨rfl, hR3, hK3⟩
      have b3 : Below wo.heap.size wo w3 := hb1.trans ((hK2.trans hK3).below hb1.size (by simp; omega))
      have hz3 := hR3.lt
      have hR4 := hR3.wide (gs' := [g, w3.heap.size]) (by simp) (by intro x hx; simp at hx ⊢; omega)
      have hz4 := b3.size
      clear hR1 hR2 hR3 hK2 hK3 hb1 hz1
      go_wp2_with fail
      go_loopw [28] (fun i wi => ∃ k : Nat, k ≤ 4 ∧ i = .int .i64 k ∧ RowIs 76 wi g [g, w3.heap.size] (ch5 l2 l3 l4 l5 l6 k) (ch5 e2 e3 e4 e5 e6 k) ∧ Blk wi w3.heap.size 34 #[.int .i64 x0, .bool y, .int .i64 (ch5 0 x2 x2 x2 x2 k), .int .i64 (ch5 0 0 x3 x3 x3 k), .int .i64 (ch5 0 0 0 x4 x4 k), .int .i64 (ch5 0 0 0 0 x5 k), .slice none 0 0] ∧ Blk wi (w3.heap.size + 1) 62 #[.pointer (some ⟨w3.heap.size, 2, none⟩), .pointer (some ⟨w3.heap.size, 3, none⟩), .pointer (some ⟨w3.heap.size, 4, none⟩), .pointer (some ⟨w3.heap.size, 5, none⟩)] ∧ Below wo.heap.size wo wi) (fun i _ => 4 - (intOf i).toNat)
      case atStart => exact ⟨0, by omega, rfl, hR4.below (by (repeat (first | exact Below.refl _ _ | (refine Below.setCell ?_ (by first | omega | (simp; omega) | simp) _) | (refine Below.alloc ?_ (by first | omega | (simp; omega) | simp) _) | apply Below.drew | apply below_drewN))), (Blk.new w3 _ _).alloc _, by simpa using Blk.new (w3.alloc _) _ _, (by (have q_b3 := Below.size b3; (try simp at q_b3); repeat (first | exact Below.refl _ _ | (refine Below.trans ?_ (Below.mono b3 (by first | omega | (simp; omega) | simp))) | (refine Below.setCell ?_ (by first | omega | (simp; omega) | simp) _) | (refine Below.alloc ?_ (by first | omega | (simp; omega) | simp) _) | apply Below.drew | apply below_drewN)))⟩
      case round =>
        obtain ⟨k, hk, rfl, hR0, hB0, hP, bi⟩ := hrel
        clear hR4 b3
        by_cases hlt : k < 4
        · have hkk : k = 0 ∨ k = 1 ∨ k = 2 ∨ k = 3 := by omega
          rcases hkk with rfl | rfl | rfl | rfl
          · skip
            have hR : RowIs 76 wr g [g, w3.heap.size] l2 e2 := hR0
            have hB : Blk wr w3.heap.size 34 #[.int .i64 x0, .bool y, .int .i64 0, .int .i64 0, .int .i64 0, .int .i64 0, .slice none 0 0] := hB0
            have cP := hP.cell
            have hgz := hR.lt
            clear hR0 hB0
            go_wp2_with fail
            refine (N2 g [g, w3.heap.size] _ hR).mono ?_
            rintro e w6 ⟨rfl, hR6, hK6⟩
            have hB6 := hB.kept hK6 (by simp; omega)
            have hP6 := hP.kept hK6 (by simp; omega)
            have cB := hB6.cell
            have fB := hB6.frozen
            have b6 : Below wo.heap.size wo w6 := bi.trans (hK6.below bi.size (by simp; omega))
            have hz6 := b6.size
            clear cP hK6 hR hB hP bi
            go_wp2_with fail
            go_roundw
            case rel => exact ⟨0 + 1, by omega, by go_num, hR6.kept (Kept.setCell (Kept.refl [w3.heap.size] _) (by simp) _) (by simp) (by simp; omega), by simpa [ch5] using hB6.set_ 2 (.int .i64 x2), hP6.far (by simp) _, (by (have q_b6 := Below.size b6; (try simp at q_b6); repeat (first | exact Below.refl _ _ | (refine Below.trans ?_ (Below.mono b6 (by first | omega | (simp; omega) | simp))) | (refine Below.setCell ?_ (by first | omega | (simp; omega) | simp) _) | (refine Below.alloc ?_ (by first | omega | (simp; omega) | simp) _) | apply Below.drew | apply below_drewN)))⟩
            case measure => simp [intOf] <;> omega
          · skip
            have hR : RowIs 76 wr g [g, w3.heap.size] l3 e3 := hR0
            have hB : Blk wr w3.heap.size 34 #[.int .i64 x0, .bool y, .int .i64 x2, .int .i64 0, .int .i64 0, .int .i64 0, .slice none 0 0] := hB0
            have cP := hP.cell
            have hgz := hR.lt
            clear hR0 hB0
            go_wp2_with fail
            refine (N3 g [g, w3.heap.size] _ hR).mono ?_
            rintro e w6 ⟨rfl, hR6, hK6⟩
            have hB6 := hB.kept hK6 (by simp; omega)
            have hP6 := hP.kept hK6 (by simp; omega)
            have cB := hB6.cell
            have fB := hB6.frozen
            have b6 : Below wo.heap.size wo w6 := bi.trans (hK6.below bi.size (by simp; omega))
            have hz6 := b6.size
            clear cP hK6 hR hB hP bi
            go_wp2_with fail
            go_roundw
            case rel => exact ⟨1 + 1, by omega, by go_num, hR6.kept (Kept.setCell (Kept.refl [w3.heap.size] _) (by simp) _) (by simp) (by simp; omega), by simpa [ch5] using hB6.set_ 3 (.int .i64 x3), hP6.far (by simp) _, (by (have q_b6 := Below.size b6; (try simp at q_b6); repeat (first | exact Below.refl _ _ | (refine Below.trans ?_ (Below.mono b6 (by first | omega | (simp; omega) | simp))) | (refine Below.setCell ?_ (by first | omega | (simp; omega) | simp) _) | (refine Below.alloc ?_ (by first | omega | (simp; omega) | simp) _) | apply Below.drew | apply below_drewN)))⟩
            case measure => simp [intOf] <;> omega
          · skip
            have hR : RowIs 76 wr g [g, w3.heap.size] l4 e4 := hR0
            have hB : Blk wr w3.heap.size 34 #[.int .i64 x0, .bool y, .int .i64 x2, .int .i64 x3, .int .i64 0, .int .i64 0, .slice none 0 0] := hB0
            have cP := hP.cell
            have hgz := hR.lt
            clear hR0 hB0
            go_wp2_with fail
            refine (N4 g [g, w3.heap.size] _ hR).mono ?_
            rintro e w6 ⟨rfl, hR6, hK6⟩
            have hB6 := hB.kept hK6 (by simp; omega)
            have hP6 := hP.kept hK6 (by simp; omega)
            have cB := hB6.cell
            have fB := hB6.frozen
            have b6 : Below wo.heap.size wo w6 := bi.trans (hK6.below bi.size (by simp; omega))
            have hz6 := b6.size
            clear cP hK6 hR hB hP bi
            go_wp2_with fail
            go_roundw
            case rel => exact ⟨2 + 1, by omega, by go_num, hR6.kept (Kept.setCell (Kept.refl [w3.heap.size] _) (by simp) _) (by simp) (by simp; omega), by simpa [ch5] using hB6.set_ 4 (.int .i64 x4), hP6.far (by simp) _, (by (have q_b6 := Below.size b6; (try simp at q_b6); repeat (first | exact Below.refl _ _ | (refine Below.trans ?_ (Below.mono b6 (by first | omega | (simp; omega) | simp))) | (refine Below.setCell ?_ (by first | omega | (simp; omega) | simp) _) | (refine Below.alloc ?_ (by first | omega | (simp; omega) | simp) _) | apply Below.drew | apply below_drewN)))⟩
            case measure => simp [intOf] <;> omega
          · skip
            have hR : RowIs 76 wr g [g, w3.heap.size] l5 e5 := hR0
            have hB : Blk wr w3.heap.size 34 #[.int .i64 x0, .bool y, .int .i64 x2, .int .i64 x3, .int .i64 x4, .int .i64 0, .slice none 0 0] := hB0
            have cP := hP.cell
            have hgz := hR.lt
            clear hR0 hB0
            go_wp2_with fail
            refine (N5 g [g, w3.heap.size] _ hR).mono ?_
            rintro e w6 ⟨rfl, hR6, hK6⟩
            have hB6 := hB.kept hK6 (by simp; omega)
            have hP6 := hP.kept hK6 (by simp; omega)
            have cB := hB6.cell
            have fB := hB6.frozen
            have b6 : Below wo.heap.size wo w6 := bi.trans (hK6.below bi.size (by simp; omega))
            have hz6 := b6.size
            clear cP hK6 hR hB hP bi
            go_wp2_with fail
            go_roundw
            case rel => exact ⟨3 + 1, by omega, by go_num, hR6.kept (Kept.setCell (Kept.refl [w3.heap.size] _) (by simp) _) (by simp) (by simp; omega), by simpa [ch5] using hB6.set_ 5 (.int .i64 x5), hP6.far (by simp) _, (by (have q_b6 := Below.size b6; (try simp at q_b6); repeat (first | exact Below.refl _ _ | (refine Below.trans ?_ (Below.mono b6 (by first | omega | (simp; omega) | simp))) | (refine Below.setCell ?_ (by first | omega | (simp; omega) | simp) _) | (refine Below.alloc ?_ (by first | omega | (simp; omega) | simp) _) | apply Below.drew | apply below_drewN)))⟩
            case measure => simp [intOf] <;> omega
        · obtain rfl : k = 4 := by omega
          have hR : RowIs 76 wr g [g, w3.heap.size] l6 e6 := hR0
          have hB : Blk wr w3.heap.size 34 #[.int .i64 x0, .bool y, .int .i64 x2, .int .i64 x3, .int .i64 x4, .int .i64 x5, .slice none 0 0] := hB0
          clear hR0 hB0 hP hy
          go_wp2_with fail
          refine (N6 g [g, w3.heap.size] _ hR).mono ?_
          rintro e w7 ⟨rfl, hR7, hK7⟩
          go_wp2_with fail
          refine (BC g [g, w3.heap.size] _ hR7).mono ?_
          rintro e w8 ⟨v8, rfl, hF8, hR8, hK8⟩
          obtain ⟨A8, c8, rfl, hRd8, hown8, hn8, hm8⟩ := hF8.rdn nL hnL
          have hB8 := (hB.kept hK7 (by simp; omega)).kept hK8 (by simp; omega)
          have b8 : Below wo.heap.size wo w8 := bi.trans ((hK7.trans hK8).below bi.size (by simp; omega))
          have z78 := hK7.size
          have hgz := hR.lt
          have hgB := hB.lt
          have hd8 : RdN w8 [g, w3.heap.size] A8 nL L := RdN.new hown8 (by simp; omega)
          have cB := hB8.cell
          have fB := hB8.frozen
          obtain ⟨w9, hw9⟩ : ∃ w9, w9 = w8.setCell ⟨w3.heap.size, 6, none⟩ (.slice A8 nL c8) := ⟨_, rfl⟩
          have hK9 : Kept [w3.heap.size] w8 w9 := by rw [hw9]; exact Kept.setCell (Kept.refl _ _) (by simp) _
          have hB9 : Blk w9 w3.heap.size 34 #[.int .i64 x0, .bool y, .int .i64 x2, .int .i64 x3, .int .i64 x4, .int .i64 x5, .slice A8 nL c8] := by rw [hw9]; simpa using hB8.set_ 6 (.slice A8 nL c8)
          have hR9 := hR8.kept hK9 (by simp) (by simp; omega)
          have hd9 := hd8.kept hK9 (by simp)
          have hF9 := hF8.keptF hK9 (by simp; omega)
          have b9 := b8.trans (hK9.below b8.size (by simp; omega))
          have z9 := b9.size
          clear hK8 hK7 bi hR7 hR
          go_wp2_with fail
          rw [← hw9]
          refine (err_any g [g, w3.heap.size] _ _ _ hR9).mono ?_
          rintro e w10 ⟨rfl, rfl⟩
          clear cB fB hB8 hR8 hRd8 hown8 hd8 b8 hF8 hB hw9 hK9
          have cB := hB9.cell
          by_cases he8 : e8 = 0
          · subst he8
            go_wp2_with fail
            refine (smay_any x0 y x2 x3 x4 x5 A8 nL c8 L _ hd9.1).mono ?_
            rintro e w10 ⟨rfl, hb10⟩
            obtain ⟨M, hM⟩ : ∃ M, mayA ((x0, y, x2, x3, x4, x5), L) = M := ⟨_, rfl⟩
            rw [hM]
            have hB10 := hB9.on hb10
            have cB2 := hB10.cell
            have hd10 := hd9.below hb10
            have z10 := hb10.size
            clear cB hB9 hd9 hR9
            cases M with
            | false =>
              have hS := Lib.hid (stepOK_may HE.out hM)
              clear hM
              go_wp2_with fail
              go_ret2
              exact ⟨.inr ⟨es, r, HPA.out, hne.out, hS.out, rfl⟩, (by (have q_hb10 := Below.size hb10; (try simp at q_hb10); have q_b9 := Below.size b9; (try simp at q_b9); have q_hbel := Below.size hbel; (try simp at q_hbel); repeat (first | exact Below.refl _ _ | (refine Below.trans ?_ (Below.mono hb10 (by first | omega | (simp; omega) | simp))) | (refine Below.trans ?_ (Below.mono b9 (by first | omega | (simp; omega) | simp))) | (refine Below.trans ?_ (Below.mono hbel (by first | omega | (simp; omega) | simp))) | (refine Below.setCell ?_ (by first | omega | (simp; omega) | simp) _) | (refine Below.alloc ?_ (by first | omega | (simp; omega) | simp) _) | apply Below.drew | apply below_drewN)))⟩
            | true =>
              obtain ⟨E0, hE0⟩ : ∃ E0, E0 = encA ((x0, y, x2, x3, x4, x5), L) := ⟨_, rfl⟩
              have hel0 : E0.length = 12 + L.length := by rw [hE0, encA_len]
              have hLm := (mayA_range hM).2.1
              obtain ⟨nE, hnE⟩ : ∃ nE, E0.length = nE := ⟨_, rfl⟩
              have henc := aenc_any x0 y x2 x3 x4 x5 A8 nL c8 L w10 hd10.1 hM
              rw [← hE0] at henc
              have HENC := Lib.hid henc
              have HM := Lib.hid hM
              have HE0 := Lib.hid hE0
              clear hM henc hE0
              go_wp2_with fail
              refine HENC.out.mono ?_
              rintro e w11 ⟨v11, rfl, hF11, hb11⟩
              obtain ⟨A11, c11, rfl, hR11, hown11, hn11, hm11⟩ := hF11.rdn nE hnE
              have hB11 := hB10.on hb11
              have z11 := hb11.size
              have b11 : Below wo.heap.size wo w11 := b9.trans ((by (have q_hb11 := Below.size hb11; (try simp at q_hb11); have q_hb10 := Below.size hb10; (try simp at q_hb10); repeat (first | exact Below.refl _ _ | (refine Below.trans ?_ (Below.mono hb11 (by first | omega | (simp; omega) | simp))) | (refine Below.trans ?_ (Below.mono hb10 (by first | omega | (simp; omega) | simp))) | (refine Below.setCell ?_ (by first | omega | (simp; omega) | simp) _) | (refine Below.alloc ?_ (by first | omega | (simp; omega) | simp) _) | apply Below.drew | apply below_drewN))))
              have hd11 := hd10.below hb11
              have hF11r := (hF9.below hb10).below hb11
              clear HENC cB2 hB10 hd10
              have cB3 := hB11.cell
              go_wp2_with fail
              refine (hasprefix_any Ab A11 nb nE cb c11 r E0 _ (hRb.below (by (have q_b11 := Below.size b11; (try simp at q_b11); have q_hbel := Below.size hbel; (try simp at q_hbel); repeat (first | exact Below.refl _ _ | (refine Below.trans ?_ (Below.mono b11 (by first | omega | (simp; omega) | simp))) | (refine Below.trans ?_ (Below.mono hbel (by first | omega | (simp; omega) | simp))) | (refine Below.setCell ?_ (by first | omega | (simp; omega) | simp) _) | (refine Below.alloc ?_ (by first | omega | (simp; omega) | simp) _) | apply Below.drew | apply below_drewN)))) hR11 hnc (by unfold maxLen; omega)).mono ?_
              rintro e w12 ⟨rfl, rfl⟩
              by_cases hp : E0 <+: r
              · obtain ⟨X, hX⟩ : ∃ X, X = decide (E0 <+: r) := ⟨_, rfl⟩
                have hX1 : X = true := by rw [hX]; exact decide_eq_true hp
                rw [← hX, hX1]
                clear hX hX1
                have hpl := hp.length_le
                have HS := Lib.hid (stepOK_yes HE.out HL.out HM.out (by rw [← HE0.out]; exact hp))
                have hrd := rest_drop HE.out HL.out HS.out
                rw [← HE0.out, hnE] at hrd
                have HRD := Lib.hid hrd
                obtain ⟨hs, hFr, hAll⟩ := hO.below b11
                have hsl : hs.length = es.length := hAll.1
                have hA2 := hAll.below ((Below.refl _ w11).alloc (Nat.le_refl _) (.cells #[.int .i64 x0, .bool y, .int .i64 x2, .int .i64 x3, .int .i64 x4, .int .i64 x5, .slice A8 nL c8] 34))
                have hF2 := hFr.alloc (.cells #[.int .i64 x0, .bool y, .int .i64 x2, .int .i64 x3, .int .i64 x4, .int .i64 x5, .slice A8 nL c8] 34)
                have hI2 : RItem actK w.heap.size 5 (w11.alloc (.cells #[.int .i64 x0, .bool y, .int .i64 x2, .int .i64 x3, .int .i64 x4, .int .i64 x5, .slice A8 nL c8] 34)) ((x0, y, x2, x3, x4, x5), (A8, nL, c8)) ((x0, y, x2, x3, x4, x5), L) := ⟨rfl, (RdX.fresh hF11r hnL).below ((Below.refl _ w11).alloc (Nat.le_refl _) _), hn8, hm8⟩
                have hRbx : RdG actE (w11.alloc (.cells #[.int .i64 x0, .bool y, .int .i64 x2, .int .i64 x3, .int .i64 x4, .int .i64 x5, .slice A8 nL c8] 34)) (some ⟨w11.heap.size, 0, none⟩) 1 [((x0, y, x2, x3, x4, x5), (A8, nL, c8))] := RdG.boxed _ _ _ _ rfl
                have hcut := hRb.cut (k := nE) (m := nb) (cap := cb) (by omega) (Nat.le_refl _) hnc
                rw [List.take_of_length_le (by omega), hrd, Nat.mul_one] at hcut
                have q2 : (nE : Int) ≤ nb := by omega
                have q3 : nE ≤ nb := by omega
                have q4 : 12 ≤ nE := by omega
                have HPA2 := Lib.hid (show PA b (es ++ [((x0, y, x2, x3, x4, x5), L)]) l8 by
                  have h_ := PA.more HPA.out HS.out
                  rw [HE.out, HL.out] at h_
                  exact h_)
                clear hp hpl hrd hRb1 hR11 hown11 hF11 HPA hF11r hd11 N0 N1 N2 N3 N4 N5 N6 HE hLr hRb HS HRD HL
                go_wp2_with (at_builtin; refine wpList_append_G (E := actE) _ rfl (.tmp 58) (.tmp 60) _ rfl w.heap.size 34 Try.underlying25 infoSA rfl u4 hs rfl hF2 (some ⟨w11.heap.size, 0, none⟩) 1 1 [((x0, y, x2, x3, x4, x5), (A8, nL, c8))] rfl hRbx (by omega) (by omega) (by simp; omega) ?_; intro b' w13 hF3 hg3 hb3)
                have hO3 : OwnR actK 34 w.heap.size w.heap.size 5 w13 b' (es ++ [((x0, y, x2, x3, x4, x5), L)]) := by
                  obtain ⟨A4, c4', e4, hown4⟩ := id hF2
                  exact ⟨_, hF3, hA2.more hI2 hown4 (Nat.le_refl _) (by decide) hg3⟩
                have b13 : Below w.heap.size w w13 := (show Below w.heap.size w (w11.alloc (.cells #[.int .i64 x0, .bool y, .int .i64 x2, .int .i64 x3, .int .i64 x4, .int .i64 x5, .slice A8 nL c8] 34)) from (by (have q_b11 := Below.size b11; (try simp at q_b11); have q_hbel := Below.size hbel; (try simp at q_hbel); repeat (first | exact Below.refl _ _ | (refine Below.trans ?_ (Below.mono b11 (by first | omega | (simp; omega) | simp))) | (refine Below.trans ?_ (Below.mono hbel (by first | omega | (simp; omega) | simp))) | (refine Below.setCell ?_ (by first | omega | (simp; omega) | simp) _) | (refine Below.alloc ?_ (by first | omega | (simp; omega) | simp) _) | apply Below.drew | apply below_drewN)))).trans hb3
                go_roundw
                case rel => exact ⟨es ++ [((x0, y, x2, x3, x4, x5), L)], l8, _, nb - nE, cb - nE, rfl, hcut, by omega, by omega, by omega, by simp; omega, HPA2.out, hO3, b13⟩
                case measure => simp [lenS]; omega
              · have hS := Lib.hid (stepOK_pre HE.out HL.out (by rw [← HE0.out]; exact hp))
                rw [decide_eq_false hp]
                clear hp
                go_wp2_with fail
                go_ret2
                exact ⟨.inr ⟨es, r, HPA.out, hne.out, hS.out, rfl⟩, (by (have q_b11 := Below.size b11; (try simp at q_b11); have q_hbel := Below.size hbel; (try simp at q_hbel); repeat (first | exact Below.refl _ _ | (refine Below.trans ?_ (Below.mono b11 (by first | omega | (simp; omega) | simp))) | (refine Below.trans ?_ (Below.mono hbel (by first | omega | (simp; omega) | simp))) | (refine Below.setCell ?_ (by first | omega | (simp; omega) | simp) _) | (refine Below.alloc ?_ (by first | omega | (simp; omega) | simp) _) | apply Below.drew | apply below_drewN)))⟩
          · have hS := Lib.hid (stepOK_err HL.out he8)
            go_wp2_with fail
            go_ret2
            exact ⟨.inr ⟨es, r, HPA.out, hne.out, hS.out, rfl⟩, (by (have q_b9 := Below.size b9; (try simp at q_b9); have q_hbel := Below.size hbel; (try simp at q_hbel); repeat (first | exact Below.refl _ _ | (refine Below.trans ?_ (Below.mono b9 (by first | omega | (simp; omega) | simp))) | (refine Below.trans ?_ (Below.mono hbel (by first | omega | (simp; omega) | simp))) | (refine Below.setCell ?_ (by first | omega | (simp; omega) | simp) _) | (refine Below.alloc ?_ (by first | omega | (simp; omega) | simp) _) | apply Below.drew | apply below_drewN)))⟩
    · obtain rfl : nb = 0 := by omega
      have hr0 : r = [] := List.eq_nil_of_length_eq_zero hrl
      subst hr0
      go_wp2_with fail
      go_ret2
      exact ⟨.inl ⟨es, _, HPA.out, rfl, hO⟩, hbel⟩
end Go.Proofs.Ythlgagjnlnakkaa
