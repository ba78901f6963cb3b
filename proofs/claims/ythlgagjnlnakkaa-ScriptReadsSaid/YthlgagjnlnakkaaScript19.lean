/- The walk of the statement ScriptReads. -/
import Derived.Test.YthlgagjnlnakkaaScript17
import Derived.Test.YthlgagjnlnakkaaScript18
import Derived.Test.YthlgagjnlnakkaaFresh
import Derived.Test.YthlgagjnlnakkaaInts
namespace Go.Proofs.Ythlgagjnlnakkaa
open Go.RowKit

theorem PA.len {b : List UInt8} : ∀ {es : List ActD} {r : List UInt8}, PA b es r → es.length ≤ b.length := by
  intro es r h
  have h1 := congrArg List.length h.2
  rw [List.length_append] at h1
  have h2 : ∀ es : List ActD, es.length ≤ ((es.map encA).flatten).length := by
    intro es
    induction es with
    | nil => simp
    | cons e es ih =>
      simp only [List.map_cons, List.flatten_cons, List.length_append, List.length_cons, encA_len]
      omega
  have := h2 es
  omega

theorem Fresh.cellAt' {T : TypeId} {B : Nat} {w : World} {l : List UInt8} {g n c j : Nat} (h : Fresh T B w (.slice (some ⟨g, 0, none⟩) n c) l) (hn : l.length = n) (hj : j < n) : ∃ z, w.cell? ⟨g, j, none⟩ = some (.int .u8 z) := by
  obtain ⟨A, c', e, hR, _⟩ := h.rdn n hn
  injection e with e1
  subst e1
  obtain ⟨b, off, x, e2, _, _, hc⟩ := hR.at_ hj
  injection e2 with e2
  injection e2 with e3 e4
  subst e3 e4
  exact ⟨_, by simpa using hc⟩

set_option maxRecDepth 100000 in
set_option maxHeartbeats 1000000 in
theorem law_scriptreads (A1 A2 A3 A4 : Option Addr) (n1 n2 n3 n4 d1 d2 d3 d4 : Nat) (es : List ActD) (ks : List Int) (vs more : List UInt8) (cut : Int) (w : World) (h1 : RdR actK w.heap.size 5 w A1 n1 es) (h2 : RdG i64E w A2 n2 ks) (h3 : Rd w A3 n3 vs) (h4 : Rd w A4 n4 more)
    (y2 : n2 ≤ d2) (z2 : d2 ≤ maxLen) (y4 : n4 ≤ d4) (z4 : d4 ≤ maxLen) :
    Calls Try.prog 5 #[.slice A1 n1 d1, .slice A2 n2 d2, .slice A3 n3 d3, .int .i64 cut, .slice A4 n4 d4] w fun e w' => e = .returned (.bool true) ∧ Below w.heap.size w w' := by
  unfold maxLen at z2 z4
  obtain ⟨a, ha⟩ : ∃ a, a = cutA 6 es := ⟨_, rfl⟩
  obtain ⟨na, hna⟩ : ∃ k, a.length = k := ⟨_, rfl⟩
  have hna6 : na ≤ 6 := by rw [← hna, ha, cutA_len]; omega
  have HLa := Lib.hid (show ∀ e ∈ a, e.2.length ≤ 1030 by intro e he; rw [ha] at he; exact cutA_le e he)
  have HA := Lib.hid ha
  have HNA := Lib.hid hna
  clear ha hna
  go_enter Try.func5, Try.ntmps5
  go_wp2_with fail
  refine (acut_any A1 n1 d1 w.heap.size 6 es _ h1 (Nat.le_refl _) (by omega)).mono ?_
  rintro e w1 ⟨v1, rfl, hO1, hb1⟩
  rw [← HA.out] at hO1
  obtain ⟨A1', c1, rfl, hR1, hn1, hm1⟩ := hO1.rd na HNA.out
  have hz1 := hb1.size
  have H2 := h2.below hb1
  have H3 := h3.below hb1
  have H4 := h4.below hb1
  clear hO1 h1 h2 h3 h4
  go_wp2_with fail
  go_loopw [11, 23] (fun v i wr => ∃ (k : Nat) (L : List UInt8), k ≤ na ∧ i = .int .i64 k ∧ Fresh 5 w1.heap.size wr v L ∧ L.length ≤ k * 1042 ∧ Below w1.heap.size w1 wr) (fun _ i _ => na - (intOf i).toNat)
  case atStart => exact ⟨0, [], by omega, rfl, Fresh.nil _ _ _, by simp, Below.refl _ _⟩
  case round =>
    obtain ⟨k, L, hk, rfl, hF, hLl, be1⟩ := hrel
    have hbz1 := be1.size
    by_cases hlt : k < na
    · obtain ⟨b, off, f1, f2, f3, f4, f5, f6, Ad, nd, cd, D, rfl, hb, he, c0, c1', c2', c3', c4', c5', c6', hX, hnd, hcd⟩ := (hR1.below be1).act hlt
      have hDl : D.length = nd := hX.1.len
      have hD1 := HLa.out _ (List.mem_of_getElem? he)
      simp only at hD1
      obtain ⟨v, hv0⟩ : ∃ v, v = u11 := ⟨_, rfl⟩
      subst hv0
      have Bx := Blk.new wr 32 #[.int .i64 f1, .bool f2, .int .i64 f3, .int .i64 f4, .int .i64 f5, .int .i64 f6, .slice Ad nd cd]
      have HX := Lib.hid hX.1
      have q1 : (k : Int) < na := by omega
      clear he hX
      go_wp2_with fail
      refine (rmay_any f1 f2 f3 f4 f5 f6 Ad nd cd D _ hDl).mono ?_
      rintro e w5 ⟨rfl, hb5⟩
      have hB5 := Bx.on hb5
      have cB5 := hB5.cell
      have b5 : Below wr.heap.size wr w5 := (by (have q_hb5 := Below.size hb5; (try simp at q_hb5); repeat (first | exact Below.refl _ _ | (refine Below.trans ?_ (Below.mono hb5 (by first | omega | (simp; omega) | simp))) | (refine Below.setCell ?_ (by first | omega | (simp; omega) | simp) _) | (refine Below.alloc ?_ (by first | omega | (simp; omega) | simp) _) | apply Below.drew | apply below_drewN)))
      have hF5 := hF.below b5
      have hz5 := b5.size
      have be5 : Below w1.heap.size w1 w5 := (by (have q_b5 := Below.size b5; (try simp at q_b5); have q_be1 := Below.size be1; (try simp at q_be1); repeat (first | exact Below.refl _ _ | (refine Below.trans ?_ (Below.mono b5 (by first | omega | (simp; omega) | simp))) | (refine Below.trans ?_ (Below.mono be1 (by first | omega | (simp; omega) | simp))) | (refine Below.setCell ?_ (by first | omega | (simp; omega) | simp) _) | (refine Below.alloc ?_ (by first | omega | (simp; omega) | simp) _) | apply Below.drew | apply below_drewN)))
      obtain ⟨M, hM⟩ : ∃ M, mayA ((f1, f2, f3, f4, f5, f6), D) = M := ⟨_, rfl⟩
      rw [hM]
      clear hb5 Bx hF
      cases M with
      | false =>
        clear hM
        go_wp2_with fail
        go_roundw
        case rel => exact ⟨k + 1, L, by omega, by go_num, hF5, by omega, be5⟩
        case measure => simp [intOf] <;> omega
      | true =>
        obtain ⟨E0, hE0⟩ : ∃ E0, E0 = encA ((f1, f2, f3, f4, f5, f6), D) := ⟨_, rfl⟩
        obtain ⟨nE, hnE⟩ : ∃ nE, E0.length = nE := ⟨_, rfl⟩
        have hel0 : E0.length = 12 + D.length := by rw [hE0, encA_len]
        have hrb := rabytes_any f1 f2 f3 f4 f5 f6 Ad nd cd D w5 (HX.out.below b5) hM
        rw [← hE0] at hrb
        have HRB := Lib.hid hrb
        clear hE0 hrb hM
        go_wp2_with fail
        refine HRB.out.mono ?_
        rintro e w6 ⟨v6, rfl, hF6, hb6⟩
        obtain ⟨A6, c6, rfl, hR6, _, hn6, hm6⟩ := hF6.rdn nE hnE
        have hF6' := hF5.below hb6
        have b16 : Below w1.heap.size w1 w6 := (by (have q_hb6 := Below.size hb6; (try simp at q_hb6); have q_be5 := Below.size be5; (try simp at q_be5); repeat (first | exact Below.refl _ _ | (refine Below.trans ?_ (Below.mono hb6 (by first | omega | (simp; omega) | simp))) | (refine Below.trans ?_ (Below.mono be5 (by first | omega | (simp; omega) | simp))) | (refine Below.setCell ?_ (by first | omega | (simp; omega) | simp) _) | (refine Below.alloc ?_ (by first | omega | (simp; omega) | simp) _) | apply Below.drew | apply below_drewN)))
        have hz6 := b16.size
        go_wp2_with (at_builtin; refine wpList_append_bytes _ rfl (.tmp 29) (.tmp 31) _ rfl w1.heap.size 5 Try.underlying30 info8 v L rfl hF6' A6 nE c6 E0 rfl hR6 (by omega) (by omega) ?_; intro b' w9 hF9 hg9 hb9)
        go_roundw
        case rel => exact ⟨k + 1, L ++ E0, by omega, by go_num, hF9, by simp; omega, b16.trans hb9⟩
        case measure => simp [intOf] <;> omega
    · obtain rfl : k = na := by omega
      obtain ⟨nb, hnb⟩ : ∃ nb, L.length = nb := ⟨_, rfl⟩
      obtain ⟨A5, c5, rfl, _, _, hn5, hm5⟩ := hF.rdn nb hnb
      clear hR1
      go_wp2_with fail
      obtain ⟨w2, hw2⟩ : ∃ w2, w2 = wr := ⟨_, rfl⟩
      subst hw2
      go_loopw [36] (fun i wr => ∃ (k : Nat) (L : List UInt8), k ≤ n2 ∧ i = .int .i64 k ∧ L.length = nb ∧ Fresh 5 w1.heap.size wr (.slice A5 nb c5) L ∧ Below w1.heap.size w1 wr) (fun i _ => n2 - (intOf i).toNat)
      case atStart => exact ⟨0, L, by omega, rfl, hnb, hF, be1⟩
      case round =>
        clear hF be1
        obtain ⟨k, L2, hk2, rfl, hl2, hF, be1⟩ := hrel
        have hbz1 := be1.size
        by_cases hlt2 : k < n2
        · obtain ⟨b2, off2, x, rfl, hb2, hx, cx⟩ := (H2.below be1).i64 hlt2
          have q1 : (k : Int) < n2 := by omega
          clear hx
          by_cases t1 : k < 6
          · have p1 : (k : Int) < 6 := by omega
            by_cases t2 : k < n3
            · have p2 : (k : Int) < n3 := by omega
              by_cases t3 : 0 ≤ x
              · by_cases t4 : x < nb
                · obtain ⟨j, rfl⟩ := Int.eq_ofNat_of_zero_le t3
                  have hj : j < nb := by omega
                  obtain ⟨g, cur, rfl, hg, hB, _, _, _⟩ := hF.open_ hl2 (by omega)
                  obtain ⟨b3, off3, z, rfl, hb3, hz, cz⟩ := (H3.below be1).at_ t2
                  have cR := hF.cellAt' hl2 hj
                  obtain ⟨z0, cR⟩ := cR
                  have fR := hB.frozen
                  have hF9 := hF.set_ hl2 rfl hB j z hj
                  clear hz
                  go_wp2_with fail
                  go_roundw
                  case rel => exact ⟨k + 1, L2.set j z, by omega, by go_num, by simpa using hl2, hF9, (by (have q_be1 := Below.size be1; (try simp at q_be1); repeat (first | exact Below.refl _ _ | (refine Below.trans ?_ (Below.mono be1 (by first | omega | (simp; omega) | simp))) | (refine Below.setCell ?_ (by first | omega | (simp; omega) | simp) _) | (refine Below.alloc ?_ (by first | omega | (simp; omega) | simp) _) | apply Below.drew | apply below_drewN)))⟩
                  case measure => simp [intOf] <;> omega
                · go_wp2_with fail
                  go_roundw
                  case rel => exact ⟨k + 1, L2, by omega, by go_num, hl2, hF, be1⟩
                  case measure => simp [intOf] <;> omega
              · go_wp2_with fail
                go_roundw
                case rel => exact ⟨k + 1, L2, by omega, by go_num, hl2, hF, be1⟩
                case measure => simp [intOf] <;> omega
            · have p2 : ¬ (k : Int) < n3 := by omega
              go_wp2_with fail
              go_roundw
              case rel => exact ⟨k + 1, L2, by omega, by go_num, hl2, hF, be1⟩
              case measure => simp [intOf] <;> omega
          · have p1 : ¬ (k : Int) < 6 := by omega
            go_wp2_with fail
            go_roundw
            case rel => exact ⟨k + 1, L2, by omega, by go_num, hl2, hF, be1⟩
            case measure => simp [intOf] <;> omega
        · obtain rfl : k = n2 := by omega
          have bw : Below w.heap.size w wr := (by (have q_be1 := Below.size be1; (try simp at q_be1); have q_hb1 := Below.size hb1; (try simp at q_hb1); repeat (first | exact Below.refl _ _ | (refine Below.trans ?_ (Below.mono be1 (by first | omega | (simp; omega) | simp))) | (refine Below.trans ?_ (Below.mono hb1 (by first | omega | (simp; omega) | simp))) | (refine Below.setCell ?_ (by first | omega | (simp; omega) | simp) _) | (refine Below.alloc ?_ (by first | omega | (simp; omega) | simp) _) | apply Below.drew | apply below_drewN)))
          clear H2 H3
          go_upto_region 14 with fail
          go_cut [74] (fun s wx => s = .bool (decide (0 < cut ∧ cut ≤ nb)) ∧ wr = wx)
          case first =>
            by_cases t1 : 0 < cut
            · by_cases t2 : cut ≤ nb
              · go_wp2_with fail
                go_meet
                exact ⟨by rw [decide_eq_true (by omega)], rfl⟩
              · go_wp2_with fail
                go_meet
                exact ⟨by rw [decide_eq_false (by omega)], rfl⟩
            · go_wp2_with fail
              go_meet
              exact ⟨by rw [decide_eq_false (by omega)], rfl⟩
          case rest =>
            obtain ⟨rfl, rfl⟩ := hcut
            go_upto_if 74 with fail
            go_cut [11] (fun s wx => ∃ (Ax : Option Addr) (nx cx : Nat) (Lx : List UInt8), s = .slice Ax nx cx ∧ Lx.length = nx ∧ nx ≤ nb ∧ Fresh 5 w1.heap.size wx (.slice Ax nx cx) Lx ∧ wr = wx)
            case first =>
              by_cases t : 0 < cut ∧ cut ≤ nb
              · obtain ⟨j, rfl⟩ : ∃ j : Nat, cut = j := ⟨cut.toNat, by omega⟩
                rw [decide_eq_true t]
                have hj : j ≤ nb := by omega
                have q1 : 0 ≤ (nb : Int) - j ∧ (nb : Int) - j ≤ c5 := by omega
                have q2 : ((nb : Int) - j).toNat = nb - j := by omega
                have hFc := hF.cut_ hl2 (nb - j) (by omega)
                go_wp2_with fail
                go_meet
                exact ⟨_, nb - j, c5, L2.take (nb - j), rfl, by simp; omega, by omega, hFc, rfl⟩
              · rw [decide_eq_false t]
                go_wp2_with fail
                go_meet
                exact ⟨_, nb, c5, L2, rfl, hl2, Nat.le_refl _, hF, rfl⟩
            case rest =>
              obtain ⟨Ax, nx, cx, Lx, rfl, hlx, hnx, hFx, rfl⟩ := hcut
              clear hF
              have HM := Lib.hid (H4.below be1)
              clear H4
              go_upto_if 83 with fail
              go_cut [4] (fun s wx => ∃ (A8 : Option Addr) (n8 c8 : Nat) (l8 : List UInt8), s = .slice A8 n8 c8 ∧ Rd wx A8 n8 l8 ∧ n8 ≤ 40 ∧ wr = wx)
              case first =>
                by_cases t : 40 < n4
                · have q1 : (40 : Int) < n4 := by omega
                  have q2 : (40 : Int) ≤ d4 := by omega
                  go_wp2_with fail
                  go_meet
                  exact ⟨_, 40, d4, more.take 40, rfl, HM.out.pre 40 (by omega), by omega, rfl⟩
                · have q1 : ¬ (40 : Int) < n4 := by omega
                  go_wp2_with fail
                  go_meet
                  exact ⟨_, n4, d4, more, rfl, HM.out, by omega, rfl⟩
              case rest =>
                obtain ⟨A8, n8, c8, l8, rfl, hR8, hn8, rfl⟩ := hcut
                have hl8 := hR8.len
                clear HM
                go_wp2_with (at_builtin; refine wpList_append_bytes _ rfl (.tmp 86) (.tmp 87) _ rfl w1.heap.size 5 Try.underlying30 info8 (.slice Ax nx cx) Lx rfl hFx A8 n8 c8 l8 rfl hR8 (by omega) hbz1 ?_; intro b9 w9 hF9 hg9 hb9; obtain ⟨A9, c9, rfl, hR9, _, hn9, hm9⟩ := hF9.rdn (nx + n8) (by rw [List.length_append, hlx, hl8]))
                have b9 : Below w.heap.size w w9 := bw.trans (hb9.mono hz1)
                obtain ⟨B, hBB⟩ : ∃ B, B = Lx ++ l8 := ⟨_, rfl⟩
                rw [← hBB] at hR9
                have hBl := hR9.len
                have hz9 := b9.size
                clear hBB hF9 hg9 hb9 hFx hR8 bw be1
                refine (sparse_any A9 (nx + n8) c9 B _ hR9 (by omega) hn9 hm9).mono ?_
                rintro e w10 ⟨hS, hb10⟩
                have hz10 := hb10.size
                rcases hS with ⟨fs, v10, p10, rfl, hO10⟩ | ⟨fs, r, p10, hne, hbad, rfl⟩
                · obtain ⟨nf, hnf⟩ : ∃ nf, fs.length = nf := ⟨_, rfl⟩
                  have hfl := p10.len
                  obtain ⟨A10, c10, rfl, hR10, hn10, hm10⟩ := hO10.rd nf hnf
                  have P10 := Lib.hid p10
                  clear p10 hO10
                  go_wp2_with fail
                  refine (rparse_any A9 (nx + n8) c9 B _ (hR9.below hb10) (by omega) hn9 hm9).mono ?_
                  rintro e w11 ⟨hD, hb11⟩
                  have hz11 := hb11.size
                  rcases hD with ⟨gs, v11, p11, rfl, hO11⟩ | ⟨gs, r, p11, hne, hbad, rfl⟩
                  · obtain ⟨_, rfl⟩ := PA.uniq P10.out p11 (.inl rfl)
                    obtain ⟨A11, c11, rfl, hR11, hn11, hm11⟩ := hO11.rd nf hnf
                    clear hO11 p11 P10
                    go_wp2_with fail
                    refine (aplain_any A10 nf c10 w9.heap.size gs _ (hR10.below hb11) (by omega) (by omega)).mono ?_
                    rintro e w12 ⟨v12, rfl, hO12, hb12⟩
                    obtain ⟨A12, c12, rfl, hR12, hn12, hm12⟩ := hO12.rd nf hnf
                    go_wp2_with fail
                    refine (rall_any false A12 A11 nf nf c12 c11 _ _ _ _ gs gs _ hR12 (hR11.below hb12) (by omega)).mono ?_
                    rintro e w13 ⟨rfl, hb13⟩
                    rw [allA_refl]
                    go_wp2_with fail
                    refine (sawake_any _).mono ?_
                    rintro e w14 ⟨rfl, hb14⟩
                    go_wp2_with fail
                    go_ret
                    exact ⟨rfl, (by (have q_hb14 := Below.size hb14; (try simp at q_hb14); have q_hb13 := Below.size hb13; (try simp at q_hb13); have q_hb12 := Below.size hb12; (try simp at q_hb12); have q_hb11 := Below.size hb11; (try simp at q_hb11); have q_hb10 := Below.size hb10; (try simp at q_hb10); have q_b9 := Below.size b9; (try simp at q_b9); repeat (first | exact Below.refl _ _ | (refine Below.trans ?_ (Below.mono hb14 (by first | omega | (simp; omega) | simp))) | (refine Below.trans ?_ (Below.mono hb13 (by first | omega | (simp; omega) | simp))) | (refine Below.trans ?_ (Below.mono hb12 (by first | omega | (simp; omega) | simp))) | (refine Below.trans ?_ (Below.mono hb11 (by first | omega | (simp; omega) | simp))) | (refine Below.trans ?_ (Below.mono hb10 (by first | omega | (simp; omega) | simp))) | (refine Below.trans ?_ (Below.mono b9 (by first | omega | (simp; omega) | simp))) | (refine Below.setCell ?_ (by first | omega | (simp; omega) | simp) _) | (refine Below.alloc ?_ (by first | omega | (simp; omega) | simp) _) | apply Below.drew | apply below_drewN)))⟩
                  · exact absurd (PA.uniq P10.out p11 (.inr hbad)).1 hne
                · have P10 := Lib.hid p10
                  have HNE := Lib.hid hne
                  have HBAD := Lib.hid hbad
                  clear p10 hne hbad
                  go_wp2_with fail
                  refine (rparse_any A9 (nx + n8) c9 B _ (hR9.below hb10) (by omega) hn9 hm9).mono ?_
                  rintro e w11 ⟨hD, hb11⟩
                  have hz11 := hb11.size
                  rcases hD with ⟨gs, v11, p11, rfl, hO11⟩ | ⟨gs, r2, p11, hne2, hbad2, rfl⟩
                  · exact absurd (PA.uniq p11 P10.out (.inr HBAD.out)).1 HNE.out
                  · clear p11 hne2 hbad2 P10 HNE HBAD
                    go_wp2_with fail
                    refine (aplain_any none 0 0 w9.heap.size [] _ RdR.nil (by omega) (by omega)).mono ?_
                    rintro e w12 ⟨v12, rfl, hO12, hb12⟩
                    obtain ⟨A12, c12, rfl, hR12, hn12, hm12⟩ := hO12.rd 0 rfl
                    go_wp2_with fail
                    refine (rall_any false A12 none 0 0 c12 0 _ _ _ 5 [] [] _ hR12 (RdR.nil (B := 0)) (by omega)).mono ?_
                    rintro e w13 ⟨rfl, hb13⟩
                    rw [allA_refl]
                    go_wp2_with fail
                    refine (sawake_any _).mono ?_
                    rintro e w14 ⟨rfl, hb14⟩
                    go_wp2_with fail
                    go_ret
                    exact ⟨rfl, (by (have q_hb14 := Below.size hb14; (try simp at q_hb14); have q_hb13 := Below.size hb13; (try simp at q_hb13); have q_hb12 := Below.size hb12; (try simp at q_hb12); have q_hb11 := Below.size hb11; (try simp at q_hb11); have q_hb10 := Below.size hb10; (try simp at q_hb10); have q_b9 := Below.size b9; (try simp at q_b9); repeat (first | exact Below.refl _ _ | (refine Below.trans ?_ (Below.mono hb14 (by first | omega | (simp; omega) | simp))) | (refine Below.trans ?_ (Below.mono hb13 (by first | omega | (simp; omega) | simp))) | (refine Below.trans ?_ (Below.mono hb12 (by first | omega | (simp; omega) | simp))) | (refine Below.trans ?_ (Below.mono hb11 (by first | omega | (simp; omega) | simp))) | (refine Below.trans ?_ (Below.mono hb10 (by first | omega | (simp; omega) | simp))) | (refine Below.trans ?_ (Below.mono b9 (by first | omega | (simp; omega) | simp))) | (refine Below.setCell ?_ (by first | omega | (simp; omega) | simp) _) | (refine Below.alloc ?_ (by first | omega | (simp; omega) | simp) _) | apply Below.drew | apply below_drewN)))⟩
end Go.Proofs.Ythlgagjnlnakkaa
