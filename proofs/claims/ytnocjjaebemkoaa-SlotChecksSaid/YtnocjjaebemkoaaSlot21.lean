/- The walk of the statement SlotChecks. -/
import Derived.Test.YtnocjjaebemkoaaSlot19
import Derived.Test.YtnocjjaebemkoaaInts
namespace Go.Proofs.Ytnocjjaebemkoaa
open Go.RowKit

theorem robjects_any (A : Option Addr) (n cp : Nat) (p : List UInt8) (c : Int) (w : World) (hr : Rd w A n p) (hn : n ≤ cp) :
    Calls Try.prog 21 #[.slice A n cp, .int .i64 c] w fun e w' => ∃ v, e = .returned (.tuple #[v, .bool (mayP c p)]) ∧ Below w.heap.size w w' := by
  have hlen := hr.len
  by_cases h256 : n = 256
  · subst h256
    by_cases hs : sizeI c = 0
    · rw [mayP_size hs]
      refine (robjects_size A cp c w hs).mono ?_
      rintro e w' ⟨rfl, rfl⟩
      exact ⟨_, rfl, Below.refl _ _⟩
    · obtain ⟨z, N, hc⟩ := ClassOK.of c hs
      refine (robjects_class hc A cp p w hr hn).mono ?_
      rintro e w' ⟨v, rfl, _, _, hb⟩
      exact ⟨v, rfl, hb⟩
  · rw [mayP_len (by omega)]
    refine (robjects_len A n cp c w h256).mono ?_
    rintro e w' ⟨rfl, rfl⟩
    exact ⟨_, rfl, Below.refl _ _⟩
/-- The loop's state: a page, and its objects where the class is one. -/
def SlAny (T8 : TypeId) (c : Int) (okb : Bool) (w wr : World) (vp vl : Value) : Prop :=
  ∃ A cp p, vp = .slice A 256 cp ∧ Rd wr A 256 p ∧ 256 ≤ cp ∧ cp ≤ maxLen ∧ Below w.heap.size w wr ∧ (okb = true → ∃ z N Al cl l, ClassOK c z N ∧ vl = .slice Al N cl ∧ RdR obK wr.heap.size T8 wr Al N l ∧ PageOf z N p l)
theorem SlAny.more {T8 : TypeId} {c : Int} {okb : Bool} {w wr w' : World} {vp vl : Value} (h : SlAny T8 c okb w wr vp vl) (hb : Below wr.heap.size wr w') : SlAny T8 c okb w w' vp vl := by
  obtain ⟨A, cp, p, e1, h1, h2, h3, h4, h5⟩ := h
  refine ⟨A, cp, p, e1, h1.below hb, h2, h3, h4.trans (hb.mono h4.size), fun ho => ?_⟩
  obtain ⟨z, N, Al, cl, l, g1, g2, g3, g4⟩ := h5 ho
  exact ⟨z, N, Al, cl, l, g1, g2, (g3.below hb).mono hb.size, g4⟩
set_option maxRecDepth 100000 in
set_option maxHeartbeats 4000000 in
theorem law_slotchecks (c : Int) (A0 : Option Addr) (n0 c0 : Nat) (es : List OpD) (Ai : Option Addr) (ni ci : Nat) (is : List Int) (Av : Option Addr) (nv cv : Nat) (vs : List UInt8) (cut : Int) (w : World) (hro : RdR opK w.heap.size 5 w A0 n0 es) (hn0 : n0 ≤ c0) (hc0 : c0 ≤ maxLen) (hri : RdG i64E w Ai ni is) (hni : ni ≤ ci) (hci : ci ≤ maxLen) (hrv : Rd w Av nv vs) :
    Calls Try.prog 10 #[.int .i64 c, .slice A0 n0 c0, .slice Ai ni ci, .slice Av nv cv, .int .i64 cut] w fun e w' => e = .returned (.bool true) ∧ Below w.heap.size w w' := by
  have hn47 : n0 ≤ 9223372036854775807 := by unfold maxLen at hc0; omega
  have hi47 : ni ≤ 9223372036854775807 := by unfold maxLen at hci; omega
  clear hc0 hci
  obtain ⟨Z, hZ⟩ : ∃ Z : List UInt8, Z = List.replicate 256 0 := ⟨_, rfl⟩
  have hZl : Z.length = 256 := by rw [hZ]; simp
  have hFZ := Fresh.noughts w 5 Z 256 hZ (by unfold maxLen; omega)
  obtain ⟨_, _, eZ, hRZ, _⟩ := hFZ.rdn 256 hZl
  injection eZ with eZ1 eZ2 eZ3
  subst eZ1 eZ3
  have hmk : ∀ W : World, (Instr.makeSlice 32 (.int .i64 256) (.int .i64 256)).run Try.prog W = .ok (.slice (some ⟨W.heap.size, 0, none⟩) 256 256) (W.alloc (.cells (part Z 0) 5)) :=
    make_bytes (P := Try.prog) Try.underlying32 info8 .i64 .i64 256 (by omega) Z hZl
  have hbz0 : Below w.heap.size w (w.alloc (.cells (part Z 0) 5)) := (by (repeat (first | exact Below.refl _ _ | (refine Below.setCell ?_ (by first | omega | (simp; omega) | simp) _) | (refine Below.alloc ?_ (by first | omega | (simp; omega) | simp) _) | apply Below.drew | apply below_drewN)))
  have HZ := Lib.hid hZ
  clear hFZ eZ2 hZ
  go_enter Try.func10, Try.ntmps10
  go_upto_region 2 with fail
  go_cut [12, 13] (fun vl vo wx => ∃ okb, vo = .bool okb ∧ SlAny 5 c okb w wx (.slice (some ⟨w.heap.size, 0, none⟩) 256 256) vl)
  case first =>
    by_cases hs : sizeI c = 0
    · go_wp2_with fail
      refine (robjects_size _ _ c _ hs).mono ?_
      rintro e w1 ⟨rfl, rfl⟩
      go_wp2_with fail
      go_meet
      exact ⟨false, rfl, _, _, Z, rfl, hRZ, Nat.le_refl _, by unfold maxLen; omega, hbz0, fun h => by cases h⟩
    · obtain ⟨z, N, hc⟩ := ClassOK.of c hs
      obtain ⟨hMZ, hOZ⟩ := objs_noughts hc HZ.out
      have hPZ := zero_page hc
      rw [← HZ.out] at hPZ
      have hOb := robjects_class hc (some ⟨w.heap.size, 0, none⟩) 256 Z _ hRZ (Nat.le_refl _)
      rw [hMZ] at hOb
      go_wp2_with fail
      refine hOb.mono ?_
      rintro e w1 ⟨v1, rfl, hO1, _, hb1⟩
      have hO1' := hO1 rfl
      rw [hOZ] at hO1'
      obtain ⟨A1, c1, rfl, hR1, _, _⟩ := hO1'.rd N (by simp)
      go_wp2_with fail
      go_meet
      exact ⟨true, rfl, _, _, Z, rfl, hRZ.below hb1, Nat.le_refl _, by unfold maxLen; omega, hbz0.trans (hb1.mono hbz0.size), fun _ => ⟨z, N, A1, c1, _, hc, rfl, hR1.mono hb1.size, hPZ⟩⟩
  case rest =>
    obtain ⟨okb, rfl, hSt0⟩ := hcut
    clear hRZ hmk hbz0
    go_wp2_with fail
    go_loopw [11, 12, 41] (fun vp vl i wr => ∃ k : Nat, k ≤ n0 ∧ i = .int .i64 k ∧ SlAny 5 c okb w wr vp vl) (fun _ _ i _ => n0 - (intOf i).toNat)
    case atStart => exact ⟨0, by omega, rfl, hSt0⟩
    case round =>
      clear hSt0
      obtain ⟨k, hk, rfl, hSt⟩ := hrel
      have hSt' := hSt
      obtain ⟨A, cp, p, rfl, hr, hn, hcp, hbel, hcl⟩ := hSt
      have hbz := hbel.size
      by_cases hlt : k < n0
      · have hrow := hro.below hbel
        obtain ⟨bo, off, f1, f2, f3, f4, f5, Ad, nd, cd, L, rfl, hbo, _, hc0, hc1, hc2, hc3, hc4, hc5, hX, hnd, hcd⟩ := hrow.op hlt
        have hBop := Blk.new wr 34 #[.int .i64 f1, .int .i64 f2, .int .i64 f3, .int .i64 f4, .int .u64 f5, .slice Ad nd cd]
        have cBop := hBop.cell
        have hbop : Below wr.heap.size wr (wr.alloc (.cells #[.int .i64 f1, .int .i64 f2, .int .i64 f3, .int .i64 f4, .int .u64 f5, .slice Ad nd cd] 34)) := (by (repeat (first | exact Below.refl _ _ | (refine Below.setCell ?_ (by first | omega | (simp; omega) | simp) _) | (refine Below.alloc ?_ (by first | omega | (simp; omega) | simp) _) | apply Below.drew | apply below_drewN)))
        cases okb with
        | false =>
          clear hcl
          go_wp2_with fail
          go_roundw
          case rel => exact ⟨k + 1, by omega, by go_num, hSt'.more hbop⟩
          case measure => simp [intOf] <;> omega
        | true =>
          by_cases h20 : k < 20
          · obtain ⟨z, N, Al, cl, l, hc, rfl, hrl, hP⟩ := hcl rfl
            have hstep := step_any hc A cp p Al cl l _ (hr.below hbop) hn hcp ((hrl.below hbop).mono hbop.size) hP f1 f2 f3 f4 f5 Ad nd cd L (hX.1.below hbop) hnd
            have h20' : (k : Int) < 20 := by omega
            clear hcl
            go_wp2_with fail
            refine hstep.mono ?_
            rintro e w2 ⟨A', cp', p', Al', cl', l', rfl, hr2, hn2, hcp2, hrl2, hP2, hb2⟩
            have hbY := hbel.trans ((hbop.trans (hb2.mono hbop.size)).mono hbz)
            go_wp2_with fail
            go_roundw
            case rel => exact ⟨k + 1, by omega, by go_num, A', cp', p', rfl, hr2, hn2, hcp2, hbY, fun _ => ⟨z, N, Al', cl', l', hc, rfl, hrl2, hP2⟩⟩
            case measure => simp [intOf] <;> omega
          · have h20' : ¬ (k : Int) < 20 := by omega
            clear hcl
            go_wp2_with fail
            go_roundw
            case rel => exact ⟨k + 1, by omega, by go_num, hSt'.more hbop⟩
            case measure => simp [intOf] <;> omega
      · obtain rfl : k = n0 := by omega
        clear hSt' hcl
        have hpl := hr.len
        go_wp2_with (at_builtin; refine wpList_append_bytes _ rfl (.tmp 64) (.tmp 65) _ rfl wr.heap.size 5 Try.underlying32 info8 _ [] rfl (Fresh.of_blk (n := 0) (Blk.new wr _ #[]) (Nat.le_refl _) (by unfold maxLen; omega) rfl rfl) A 256 cp p rfl (hr.alloc _) (by simp) (by simp) ?_; intro v1 w1 hF1 hg1 hb1; rw [List.nil_append] at hF1)
        have hb01 : Below wr.heap.size wr w1 := ((Below.refl wr.heap.size wr).alloc (Nat.le_refl _) _).trans hb1
        obtain ⟨wo, hwo⟩ : ∃ wo, wo = wr := ⟨_, rfl⟩
        subst hwo
        obtain ⟨Ag, cg, rfl, _, _, hng, hmg⟩ := hF1.rdn 256 hpl
        obtain ⟨g, cur0, rfl, hgB, _⟩ := hF1.open_ hpl (by omega)
        go_loopw [69] (fun i wq => ∃ j : Nat, j ≤ ni ∧ i = .int .i64 j ∧ (∃ q, q.length = 256 ∧ Fresh 5 wo.heap.size wq (.slice (some ⟨g, 0, none⟩) 256 cg) q) ∧ Below wo.heap.size wo wq) (fun i _ => ni - (intOf i).toNat)
        case atStart => exact ⟨0, by omega, rfl, ⟨p, hpl, hF1⟩, hb01⟩
        case round =>
          clear hF1 hg1 hb1 hb01
          obtain ⟨wq, hwq⟩ : ∃ wq, wq = wr := ⟨_, rfl⟩
          subst hwq
          obtain ⟨j, hj, rfl, ⟨q, hql, hFq⟩, hbq0⟩ := hrel
          have hbq := hbel.trans (hbq0.mono hbz)
          obtain ⟨_, _, eq0, hRq, _, _, _⟩ := hFq.rdn 256 hql
          injection eq0 with eq1 eq2 eq3
          subst eq1 eq3
          obtain ⟨g', cur, eg, _, hBlk, hcs, _, _⟩ := hFq.open_ hql (by omega)
          obtain rfl : g = g' := by injection eg with eg; injection eg
          by_cases hji : j < ni
          · obtain ⟨bi, oi, x, rfl, hbi, hxi, hci2⟩ := (hri.below hbq).i64 hji
            have hji' : (j : Int) < ni := by omega
            by_cases hj6 : j < 6
            · have hj6' : (j : Int) < 6 := by omega
              by_cases hjv : j < nv
              · have hjv' : (j : Int) < nv := by omega
                obtain ⟨bv_, ov, y, rfl, hbv, hyv, hcv2⟩ := (hrv.below hbq).at_ hjv
                have h255 := and255 x
                obtain ⟨kq, hkq⟩ : ∃ kq : Nat, (kq : Int) = x % 256 := ⟨(x % 256).toNat, by omega⟩
                have hk256 : kq < 256 := by omega
                rw [← hkq] at h255
                have cg9 := hBlk.cell
                have fg9 := hBlk.frozen
                obtain ⟨u0, hu0⟩ : ∃ u, cur[kq]? = some u := ⟨_, Array.getElem?_eq_getElem (by omega)⟩
                have hF2 := hFq.set_ hql rfl hBlk kq y hk256
                clear hkq hxi hyv
                go_wp2_with fail
                go_roundw
                case rel => exact ⟨j + 1, by omega, by go_num, ⟨_, by simpa using hql, hF2⟩, (by (have q_hbq0 := Below.size hbq0; (try simp at q_hbq0); repeat (first | exact Below.refl _ _ | (refine Below.trans ?_ (Below.mono hbq0 (by first | omega | (simp; omega) | simp))) | (refine Below.setCell ?_ (by first | omega | (simp; omega) | simp) _) | (refine Below.alloc ?_ (by first | omega | (simp; omega) | simp) _) | apply Below.drew | apply below_drewN)))⟩
                case measure => simp [intOf] <;> omega
              · have hjv' : ¬ (j : Int) < nv := by omega
                go_wp2_with fail
                go_roundw
                case rel => exact ⟨j + 1, by omega, by go_num, ⟨q, hql, hFq⟩, (by (have q_hbq0 := Below.size hbq0; (try simp at q_hbq0); repeat (first | exact Below.refl _ _ | (refine Below.trans ?_ (Below.mono hbq0 (by first | omega | (simp; omega) | simp))) | (refine Below.setCell ?_ (by first | omega | (simp; omega) | simp) _) | (refine Below.alloc ?_ (by first | omega | (simp; omega) | simp) _) | apply Below.drew | apply below_drewN)))⟩
                case measure => simp [intOf] <;> omega
            · have hj6' : ¬ (j : Int) < 6 := by omega
              go_wp2_with fail
              go_roundw
              case rel => exact ⟨j + 1, by omega, by go_num, ⟨q, hql, hFq⟩, (by (have q_hbq0 := Below.size hbq0; (try simp at q_hbq0); repeat (first | exact Below.refl _ _ | (refine Below.trans ?_ (Below.mono hbq0 (by first | omega | (simp; omega) | simp))) | (refine Below.setCell ?_ (by first | omega | (simp; omega) | simp) _) | (refine Below.alloc ?_ (by first | omega | (simp; omega) | simp) _) | apply Below.drew | apply below_drewN)))⟩
              case measure => simp [intOf] <;> omega
          · obtain rfl : j = ni := by omega
            by_cases hc1 : 0 < cut
            · by_cases hc2 : cut < 256
              · obtain ⟨nq, rfl⟩ : ∃ nq : Nat, cut = 256 - (nq : Int) := ⟨(256 - cut).toNat, by omega⟩
                have hnq : nq < 256 := by omega
                have hRn := hRq.head nq (by omega)
                have e256 : (256 : Int) - (256 - (nq : Int)) = nq := by omega
                have hck := fun W h => check_any (some ⟨g, 0, none⟩) nq cg (q.take nq) c W h (by omega) hmg
                go_wp2_with fail
                refine (robjects_any (some ⟨g, 0, none⟩) nq cg (q.take nq) c wq hRn (by omega)).mono ?_
                rintro e w1 ⟨v1, rfl, hb1⟩
                have hR1 := (hRn).below hb1
                cases hm : mayP c (q.take nq) with
                | true =>
                  have hC := hck w1 hR1
                  rw [hm, if_pos rfl] at hC
                  go_wp2_with fail
                  refine hC.mono ?_
                  rintro e w2 ⟨rfl, rfl⟩
                  go_wp2_with fail
                  refine (sawake_any w1).mono ?_
                  rintro e w2 ⟨rfl, hb2⟩
                  go_wp2_with fail
                  go_ret
                  exact ⟨rfl, (by (have q_hb2 := Below.size hb2; (try simp at q_hb2); have q_hb1 := Below.size hb1; (try simp at q_hb1); have q_hbq := Below.size hbq; (try simp at q_hbq); repeat (first | exact Below.refl _ _ | (refine Below.trans ?_ (Below.mono hb2 (by first | omega | (simp; omega) | simp))) | (refine Below.trans ?_ (Below.mono hb1 (by first | omega | (simp; omega) | simp))) | (refine Below.trans ?_ (Below.mono hbq (by first | omega | (simp; omega) | simp))) | (refine Below.setCell ?_ (by first | omega | (simp; omega) | simp) _) | (refine Below.alloc ?_ (by first | omega | (simp; omega) | simp) _) | apply Below.drew | apply below_drewN)))⟩
                | false =>
                  have hob := fun W h => object_bad (some ⟨g, 0, none⟩) nq cg (q.take nq) c 0 W h (by omega) hmg hm
                  go_wp2_with fail
                  refine (take_bad (some ⟨g, 0, none⟩) nq cg (q.take nq) c 0 0 w1 hR1 (by omega) hmg hm).mono ?_
                  rintro e w2 ⟨rfl, hb2⟩
                  have hR2 := hR1.below hb2
                  go_wp2_with fail
                  refine (sfree_no _ _ _ _ _ 4 w2 (hob w2 hR2)).mono ?_
                  rintro e w3 ⟨rfl, hb3⟩
                  have hR3 := hR2.below hb3
                  go_wp2_with fail
                  refine (resize_no _ _ _ _ _ 4 0 w3 (.inl rfl) (hob w3 hR3)).mono ?_
                  rintro e w4 ⟨rfl, hb4⟩
                  have hR4 := hR3.below hb4
                  go_wp2_with fail
                  refine (write_no _ _ _ _ _ 4 (-1) (.slice none 0 0) w4 (.inl rfl) (hob w4 hR4)).mono ?_
                  rintro e w5 ⟨rfl, hb5⟩
                  have hR5 := hR4.below hb5
                  go_wp2_with fail
                  refine (get_no _ _ _ _ _ 4 w5 (.inl rfl) (hob w5 hR5)).mono ?_
                  rintro e w6 ⟨rfl, hb6⟩
                  have hR6 := hR5.below hb6
                  have hC := hck w6 hR6
                  rw [hm, if_neg (by decide)] at hC
                  have hU := used_no (some ⟨g, 0, none⟩) nq cg (q.take nq) c w6 hR6 (by omega) hmg hm
                  have hb16 : Below w1.heap.size w1 w6 := (by (have q_hb6 := Below.size hb6; (try simp at q_hb6); have q_hb5 := Below.size hb5; (try simp at q_hb5); have q_hb4 := Below.size hb4; (try simp at q_hb4); have q_hb3 := Below.size hb3; (try simp at q_hb3); have q_hb2 := Below.size hb2; (try simp at q_hb2); repeat (first | exact Below.refl _ _ | (refine Below.trans ?_ (Below.mono hb6 (by first | omega | (simp; omega) | simp))) | (refine Below.trans ?_ (Below.mono hb5 (by first | omega | (simp; omega) | simp))) | (refine Below.trans ?_ (Below.mono hb4 (by first | omega | (simp; omega) | simp))) | (refine Below.trans ?_ (Below.mono hb3 (by first | omega | (simp; omega) | simp))) | (refine Below.trans ?_ (Below.mono hb2 (by first | omega | (simp; omega) | simp))) | (refine Below.setCell ?_ (by first | omega | (simp; omega) | simp) _) | (refine Below.alloc ?_ (by first | omega | (simp; omega) | simp) _) | apply Below.drew | apply below_drewN)))
                  have hbw6 := hbq.trans ((hb1.trans (hb16.mono hb1.size)).mono hbq.size)
                  clear hob hck
                  go_wp2_with fail
                  refine hC.mono ?_
                  rintro e w7 ⟨rfl, rfl⟩
                  go_wp2_with fail
                  refine hU.mono ?_
                  rintro e w7 ⟨rfl, rfl⟩
                  go_wp2_with fail
                  refine (sawake_any w6).mono ?_
                  rintro e w7 ⟨rfl, hb7⟩
                  go_wp2_with fail
                  go_ret
                  exact ⟨rfl, (by (have q_hb7 := Below.size hb7; (try simp at q_hb7); have q_hbw6 := Below.size hbw6; (try simp at q_hbw6); repeat (first | exact Below.refl _ _ | (refine Below.trans ?_ (Below.mono hb7 (by first | omega | (simp; omega) | simp))) | (refine Below.trans ?_ (Below.mono hbw6 (by first | omega | (simp; omega) | simp))) | (refine Below.setCell ?_ (by first | omega | (simp; omega) | simp) _) | (refine Below.alloc ?_ (by first | omega | (simp; omega) | simp) _) | apply Below.drew | apply below_drewN)))⟩
              ·
                have hck := fun W h => check_any (some ⟨g, 0, none⟩) 256 cg q c W h (by omega) hmg
                go_wp2_with fail
                refine (robjects_any (some ⟨g, 0, none⟩) 256 cg q c wq hRq (by omega)).mono ?_
                rintro e w1 ⟨v1, rfl, hb1⟩
                have hR1 := (hRq).below hb1
                cases hm : mayP c q with
                | true =>
                  have hC := hck w1 hR1
                  rw [hm, if_pos rfl] at hC
                  go_wp2_with fail
                  refine hC.mono ?_
                  rintro e w2 ⟨rfl, rfl⟩
                  go_wp2_with fail
                  refine (sawake_any w1).mono ?_
                  rintro e w2 ⟨rfl, hb2⟩
                  go_wp2_with fail
                  go_ret
                  exact ⟨rfl, (by (have q_hb2 := Below.size hb2; (try simp at q_hb2); have q_hb1 := Below.size hb1; (try simp at q_hb1); have q_hbq := Below.size hbq; (try simp at q_hbq); repeat (first | exact Below.refl _ _ | (refine Below.trans ?_ (Below.mono hb2 (by first | omega | (simp; omega) | simp))) | (refine Below.trans ?_ (Below.mono hb1 (by first | omega | (simp; omega) | simp))) | (refine Below.trans ?_ (Below.mono hbq (by first | omega | (simp; omega) | simp))) | (refine Below.setCell ?_ (by first | omega | (simp; omega) | simp) _) | (refine Below.alloc ?_ (by first | omega | (simp; omega) | simp) _) | apply Below.drew | apply below_drewN)))⟩
                | false =>
                  have hob := fun W h => object_bad (some ⟨g, 0, none⟩) 256 cg q c 0 W h (by omega) hmg hm
                  go_wp2_with fail
                  refine (take_bad (some ⟨g, 0, none⟩) 256 cg q c 0 0 w1 hR1 (by omega) hmg hm).mono ?_
                  rintro e w2 ⟨rfl, hb2⟩
                  have hR2 := hR1.below hb2
                  go_wp2_with fail
                  refine (sfree_no _ _ _ _ _ 4 w2 (hob w2 hR2)).mono ?_
                  rintro e w3 ⟨rfl, hb3⟩
                  have hR3 := hR2.below hb3
                  go_wp2_with fail
                  refine (resize_no _ _ _ _ _ 4 0 w3 (.inl rfl) (hob w3 hR3)).mono ?_
                  rintro e w4 ⟨rfl, hb4⟩
                  have hR4 := hR3.below hb4
                  go_wp2_with fail
                  refine (write_no _ _ _ _ _ 4 (-1) (.slice none 0 0) w4 (.inl rfl) (hob w4 hR4)).mono ?_
                  rintro e w5 ⟨rfl, hb5⟩
                  have hR5 := hR4.below hb5
                  go_wp2_with fail
                  refine (get_no _ _ _ _ _ 4 w5 (.inl rfl) (hob w5 hR5)).mono ?_
                  rintro e w6 ⟨rfl, hb6⟩
                  have hR6 := hR5.below hb6
                  have hC := hck w6 hR6
                  rw [hm, if_neg (by decide)] at hC
                  have hU := used_no (some ⟨g, 0, none⟩) 256 cg q c w6 hR6 (by omega) hmg hm
                  have hb16 : Below w1.heap.size w1 w6 := (by (have q_hb6 := Below.size hb6; (try simp at q_hb6); have q_hb5 := Below.size hb5; (try simp at q_hb5); have q_hb4 := Below.size hb4; (try simp at q_hb4); have q_hb3 := Below.size hb3; (try simp at q_hb3); have q_hb2 := Below.size hb2; (try simp at q_hb2); repeat (first | exact Below.refl _ _ | (refine Below.trans ?_ (Below.mono hb6 (by first | omega | (simp; omega) | simp))) | (refine Below.trans ?_ (Below.mono hb5 (by first | omega | (simp; omega) | simp))) | (refine Below.trans ?_ (Below.mono hb4 (by first | omega | (simp; omega) | simp))) | (refine Below.trans ?_ (Below.mono hb3 (by first | omega | (simp; omega) | simp))) | (refine Below.trans ?_ (Below.mono hb2 (by first | omega | (simp; omega) | simp))) | (refine Below.setCell ?_ (by first | omega | (simp; omega) | simp) _) | (refine Below.alloc ?_ (by first | omega | (simp; omega) | simp) _) | apply Below.drew | apply below_drewN)))
                  have hbw6 := hbq.trans ((hb1.trans (hb16.mono hb1.size)).mono hbq.size)
                  clear hob hck
                  go_wp2_with fail
                  refine hC.mono ?_
                  rintro e w7 ⟨rfl, rfl⟩
                  go_wp2_with fail
                  refine hU.mono ?_
                  rintro e w7 ⟨rfl, rfl⟩
                  go_wp2_with fail
                  refine (sawake_any w6).mono ?_
                  rintro e w7 ⟨rfl, hb7⟩
                  go_wp2_with fail
                  go_ret
                  exact ⟨rfl, (by (have q_hb7 := Below.size hb7; (try simp at q_hb7); have q_hbw6 := Below.size hbw6; (try simp at q_hbw6); repeat (first | exact Below.refl _ _ | (refine Below.trans ?_ (Below.mono hb7 (by first | omega | (simp; omega) | simp))) | (refine Below.trans ?_ (Below.mono hbw6 (by first | omega | (simp; omega) | simp))) | (refine Below.setCell ?_ (by first | omega | (simp; omega) | simp) _) | (refine Below.alloc ?_ (by first | omega | (simp; omega) | simp) _) | apply Below.drew | apply below_drewN)))⟩
            ·
              have hck := fun W h => check_any (some ⟨g, 0, none⟩) 256 cg q c W h (by omega) hmg
              go_wp2_with fail
              refine (robjects_any (some ⟨g, 0, none⟩) 256 cg q c wq hRq (by omega)).mono ?_
              rintro e w1 ⟨v1, rfl, hb1⟩
              have hR1 := (hRq).below hb1
              cases hm : mayP c q with
              | true =>
                have hC := hck w1 hR1
                rw [hm, if_pos rfl] at hC
                go_wp2_with fail
                refine hC.mono ?_
                rintro e w2 ⟨rfl, rfl⟩
                go_wp2_with fail
                refine (sawake_any w1).mono ?_
                rintro e w2 ⟨rfl, hb2⟩
                go_wp2_with fail
                go_ret
                exact ⟨rfl, (by (have q_hb2 := Below.size hb2; (try simp at q_hb2); have q_hb1 := Below.size hb1; (try simp at q_hb1); have q_hbq := Below.size hbq; (try simp at q_hbq); repeat (first | exact Below.refl _ _ | (refine Below.trans ?_ (Below.mono hb2 (by first | omega | (simp; omega) | simp))) | (refine Below.trans ?_ (Below.mono hb1 (by first | omega | (simp; omega) | simp))) | (refine Below.trans ?_ (Below.mono hbq (by first | omega | (simp; omega) | simp))) | (refine Below.setCell ?_ (by first | omega | (simp; omega) | simp) _) | (refine Below.alloc ?_ (by first | omega | (simp; omega) | simp) _) | apply Below.drew | apply below_drewN)))⟩
              | false =>
                have hob := fun W h => object_bad (some ⟨g, 0, none⟩) 256 cg q c 0 W h (by omega) hmg hm
                go_wp2_with fail
                refine (take_bad (some ⟨g, 0, none⟩) 256 cg q c 0 0 w1 hR1 (by omega) hmg hm).mono ?_
                rintro e w2 ⟨rfl, hb2⟩
                have hR2 := hR1.below hb2
                go_wp2_with fail
                refine (sfree_no _ _ _ _ _ 4 w2 (hob w2 hR2)).mono ?_
                rintro e w3 ⟨rfl, hb3⟩
                have hR3 := hR2.below hb3
                go_wp2_with fail
                refine (resize_no _ _ _ _ _ 4 0 w3 (.inl rfl) (hob w3 hR3)).mono ?_
                rintro e w4 ⟨rfl, hb4⟩
                have hR4 := hR3.below hb4
                go_wp2_with fail
                refine (write_no _ _ _ _ _ 4 (-1) (.slice none 0 0) w4 (.inl rfl) (hob w4 hR4)).mono ?_
                rintro e w5 ⟨rfl, hb5⟩
                have hR5 := hR4.below hb5
                go_wp2_with fail
                refine (get_no _ _ _ _ _ 4 w5 (.inl rfl) (hob w5 hR5)).mono ?_
                rintro e w6 ⟨rfl, hb6⟩
                have hR6 := hR5.below hb6
                have hC := hck w6 hR6
                rw [hm, if_neg (by decide)] at hC
                have hU := used_no (some ⟨g, 0, none⟩) 256 cg q c w6 hR6 (by omega) hmg hm
                have hb16 : Below w1.heap.size w1 w6 := (by (have q_hb6 := Below.size hb6; (try simp at q_hb6); have q_hb5 := Below.size hb5; (try simp at q_hb5); have q_hb4 := Below.size hb4; (try simp at q_hb4); have q_hb3 := Below.size hb3; (try simp at q_hb3); have q_hb2 := Below.size hb2; (try simp at q_hb2); repeat (first | exact Below.refl _ _ | (refine Below.trans ?_ (Below.mono hb6 (by first | omega | (simp; omega) | simp))) | (refine Below.trans ?_ (Below.mono hb5 (by first | omega | (simp; omega) | simp))) | (refine Below.trans ?_ (Below.mono hb4 (by first | omega | (simp; omega) | simp))) | (refine Below.trans ?_ (Below.mono hb3 (by first | omega | (simp; omega) | simp))) | (refine Below.trans ?_ (Below.mono hb2 (by first | omega | (simp; omega) | simp))) | (refine Below.setCell ?_ (by first | omega | (simp; omega) | simp) _) | (refine Below.alloc ?_ (by first | omega | (simp; omega) | simp) _) | apply Below.drew | apply below_drewN)))
                have hbw6 := hbq.trans ((hb1.trans (hb16.mono hb1.size)).mono hbq.size)
                clear hob hck
                go_wp2_with fail
                refine hC.mono ?_
                rintro e w7 ⟨rfl, rfl⟩
                go_wp2_with fail
                refine hU.mono ?_
                rintro e w7 ⟨rfl, rfl⟩
                go_wp2_with fail
                refine (sawake_any w6).mono ?_
                rintro e w7 ⟨rfl, hb7⟩
                go_wp2_with fail
                go_ret
                exact ⟨rfl, (by (have q_hb7 := Below.size hb7; (try simp at q_hb7); have q_hbw6 := Below.size hbw6; (try simp at q_hbw6); repeat (first | exact Below.refl _ _ | (refine Below.trans ?_ (Below.mono hb7 (by first | omega | (simp; omega) | simp))) | (refine Below.trans ?_ (Below.mono hbw6 (by first | omega | (simp; omega) | simp))) | (refine Below.setCell ?_ (by first | omega | (simp; omega) | simp) _) | (refine Below.alloc ?_ (by first | omega | (simp; omega) | simp) _) | apply Below.drew | apply below_drewN)))⟩
end Go.Proofs.Ytnocjjaebemkoaa
