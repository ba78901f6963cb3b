/- The walk of the statement SlotTrace. -/
import Derived.Test.YtnocjjaebemkoaaSlot19
namespace Go.Proofs.Ytnocjjaebemkoaa
open Go.RowKit

theorem set_back {l : List Ob} {k : Nat} {o a b c : Ob} (hk : l[k]? = some o) : (((l.set k a).set k b).set k c).set k o = l := by
  simp only [List.set_set]
  apply List.ext_getElem?
  intro i
  rw [List.getElem?_set]
  by_cases h : k = i
  · subst h
    have h1 := (List.getElem?_eq_some_iff.1 hk).1
    rw [if_pos rfl, if_pos h1, hk]
  · rw [if_neg h]
/-- A row of 256 bytes does not lie in a block of six cells. -/
theorem Rd.not_six {w : World} {A : Option Addr} {p : List UInt8} (h : Rd w A 256 p) {g : Nat} {T : TypeId} {cs : Array Value} (hB : Blk w g T cs) (hs : cs.size = 6) : ∀ ad, A = some ad → ad.block ≠ g := by
  intro ad hA hg
  obtain ⟨b, off, hA2, hlt, hc⟩ := h.2 (by omega)
  rw [hA] at hA2
  injection hA2 with hA2
  subst hA2
  obtain ⟨x, hx⟩ : ∃ x, p[255]? = some x := ⟨_, List.getElem?_eq_getElem (by rw [h.len]; omega)⟩
  have h1 := hc 255 x hx
  simp only at hg
  subst hg
  rw [hB.cell, Array.getElem?_eq_none (by omega)] at h1
  cases h1
theorem Rd.setNe {w : World} {A : Option Addr} {n : Nat} {l : List UInt8} (h : Rd w A n l) {g : Nat} (hne : ∀ ad, A = some ad → 0 < n → ad.block ≠ g) (i : Nat) (u : Value) : Rd (w.setCell ⟨g, i, none⟩ u) A n l := by
  refine ⟨h.1, fun hn => ?_⟩
  obtain ⟨b, off, hA, hlt, hc⟩ := h.2 hn
  refine ⟨b, off, hA, by simpa [World.setCell] using hlt, fun j x hj => ?_⟩
  have h1 := hne _ hA hn
  rw [World.cell?_of_block (show (w.setCell ⟨g, i, none⟩ u).heap[(⟨b, off + j, none⟩ : Addr).block]? = w.heap[(⟨b, off + j, none⟩ : Addr).block]? from Below.heap_setCell w ⟨g, i, none⟩ u b h1)]
  exact hc j x hj
set_option maxRecDepth 100000 in
set_option maxHeartbeats 4000000 in
theorem law_slottrace (c : Int) (A0 : Option Addr) (n0 c0 : Nat) (es : List OpD) (s m o1 o2 o3 o4 o5 : Int) (Ap : Option Addr) (np cp0 : Nat) (Lp : List UInt8) (w0 : World) (hro0 : RdR opK w0.heap.size 5 w0 A0 n0 es) (hn0 : n0 ≤ c0) (hc0 : c0 ≤ maxLen) (hRp : Rd w0 Ap np Lp) (hnp : np ≤ cp0) :
    Calls Try.prog 7 #[.int .i64 c, .slice A0 n0 c0, .int .u64 s, .int .i64 m, .agg #[.int .i64 o1, .int .i64 o2, .int .i64 o3, .int .i64 o4, .int .u64 o5, .slice Ap np cp0]] w0 fun e w' => e = .returned (.bool true) ∧ Below w0.heap.size w0 w' := by
  have h7 := and7 c
  obtain ⟨z, N, hc⟩ := class_mod c
  obtain ⟨d, hd⟩ : ∃ d, d = c % 8 := ⟨_, rfl⟩
  rw [← hd] at h7 hc
  have hn47 : n0 ≤ 9223372036854775807 := by unfold maxLen at hc0; omega
  clear hd hc0
  have hBp := Blk.new w0 34 #[.int .i64 o1, .int .i64 o2, .int .i64 o3, .int .i64 o4, .int .u64 o5, .slice Ap np cp0]
  have hbp : Below w0.heap.size w0 (w0.alloc (.cells #[.int .i64 o1, .int .i64 o2, .int .i64 o3, .int .i64 o4, .int .u64 o5, .slice Ap np cp0] 34)) := (by (repeat (first | exact Below.refl _ _ | (refine Below.setCell ?_ (by first | omega | (simp; omega) | simp) _) | (refine Below.alloc ?_ (by first | omega | (simp; omega) | simp) _) | apply Below.drew | apply below_drewN)))
  obtain ⟨w, hw⟩ : ∃ w, w = w0.alloc (.cells #[.int .i64 o1, .int .i64 o2, .int .i64 o3, .int .i64 o4, .int .u64 o5, .slice Ap np cp0] 34) := ⟨_, rfl⟩
  have hwz : w0.heap.size + 1 = w.heap.size := by rw [hw]; simp
  rw [← hw] at hBp hbp
  have hro := (hro0.below hbp).mono hbp.size
  have HW := Lib.hid hw

  clear hw hro0
  obtain ⟨Z, hZ⟩ : ∃ Z : List UInt8, Z = List.replicate 256 0 := ⟨_, rfl⟩
  have hZl : Z.length = 256 := by rw [hZ]; simp
  have hPZ := zero_page hc
  rw [← hZ] at hPZ
  obtain ⟨hMZ, hOZ⟩ := objs_noughts hc hZ
  have hFZ := Fresh.noughts w 5 Z 256 hZ (by unfold maxLen; omega)
  obtain ⟨_, _, eZ, hRZ, _⟩ := hFZ.rdn 256 hZl
  injection eZ with eZ1 eZ2 eZ3
  subst eZ1 eZ3
  have hOb := robjects_class hc (some ⟨w.heap.size, 0, none⟩) 256 Z _ hRZ (Nat.le_refl _)
  rw [hMZ] at hOb
  have hmk : ∀ W : World, (Instr.makeSlice 32 (.int .i64 256) (.int .i64 256)).run Try.prog W = .ok (.slice (some ⟨W.heap.size, 0, none⟩) 256 256) (W.alloc (.cells (part Z 0) 5)) :=
    make_bytes (P := Try.prog) Try.underlying32 info8 .i64 .i64 256 (by omega) Z hZl
  have hbz0 : Below w.heap.size w (w.alloc (.cells (part Z 0) 5)) := (by (repeat (first | exact Below.refl _ _ | (refine Below.setCell ?_ (by first | omega | (simp; omega) | simp) _) | (refine Below.alloc ?_ (by first | omega | (simp; omega) | simp) _) | apply Below.drew | apply below_drewN)))
  have HOZ := Lib.hid hOZ
  clear hFZ hMZ hZ hOZ eZ2
  go_enter Try.func7, Try.ntmps7
  go_wp2_with fail
  rw [← HW.out]
  refine hOb.mono ?_
  rintro e w1 ⟨v1, rfl, hO1, _, hb1⟩
  have hO1' := hO1 rfl
  rw [HOZ.out] at hO1'
  obtain ⟨A1, c1, rfl, hR1, _, _⟩ := hO1'.rd N (by simp)
  have hb01 := hbz0.trans (hb1.mono hbz0.size)
  have hSt : SlState 5 z N w w1 (.slice (some ⟨w.heap.size, 0, none⟩) 256 256) (.slice A1 N c1) := ⟨_, _, Z, _, _, _, rfl, rfl, hRZ.below hb1, Nat.le_refl _, by unfold maxLen; omega, hR1.mono hb1.size, hPZ, hb01⟩
  clear hOb hO1 hO1' hR1 hRZ hPZ hmk hbz0 HOZ
  go_wp2_with fail
  go_loopw [11, 12, 13, 36] (fun vp vl vo i wr => ∃ k : Nat, k ≤ n0 ∧ i = .int .i64 k ∧ vo = .bool true ∧ SlState 5 z N w wr vp vl) (fun _ _ _ i _ => n0 - (intOf i).toNat)
  case atStart => exact ⟨0, by omega, rfl, rfl, hSt⟩
  case round =>
    clear hSt hb01 hb1
    obtain ⟨k, hk, rfl, rfl, hSt⟩ := hrel
    have hSt' := hSt
    obtain ⟨A, cp, p, Al, cl, l, rfl, rfl, hr, hn, hcp, hrl, hP, hbel⟩ := hSt
    have hbz := hbel.size
    by_cases hlt : k < n0
    ·
      have hrow := hro.below hbel
      obtain ⟨bo, off, f1, f2, f3, f4, f5, Ad, nd, cd, L, rfl, hbo, _, hc0, hc1, hc2, hc3, hc4, hc5, hX, hnd, hcd⟩ := hrow.op hlt
      have hBop := Blk.new wr 34 #[.int .i64 f1, .int .i64 f2, .int .i64 f3, .int .i64 f4, .int .u64 f5, .slice Ad nd cd]
      have cBop := hBop.cell
      have hbop : Below wr.heap.size wr (wr.alloc (.cells #[.int .i64 f1, .int .i64 f2, .int .i64 f3, .int .i64 f4, .int .u64 f5, .slice Ad nd cd] 34)) := (by (repeat (first | exact Below.refl _ _ | (refine Below.setCell ?_ (by first | omega | (simp; omega) | simp) _) | (refine Below.alloc ?_ (by first | omega | (simp; omega) | simp) _) | apply Below.drew | apply below_drewN)))
      by_cases h20 : k < 20
      · have hstep := step_any hc A cp p Al cl l _ (hr.below hbop) hn hcp ((hrl.below hbop).mono hbop.size) hP f1 f2 f3 f4 f5 Ad nd cd L (hX.1.below hbop) hnd
        have h20' : (k : Int) < 20 := by omega
        go_wp2_with fail
        refine hstep.mono ?_
        rintro e w2 ⟨A', cp', p', Al', cl', l', rfl, hr2, hn2, hcp2, hrl2, hP2, hb2⟩
        have hbY := hbel.trans ((hbop.trans (hb2.mono hbop.size)).mono hbz)
        go_wp2_with fail
        go_roundw
        case rel => exact ⟨k + 1, by omega, by go_num, rfl, ⟨A', cp', p', Al', cl', l', rfl, rfl, hr2, hn2, hcp2, hrl2, hP2, hbY⟩⟩
        case measure => simp [intOf] <;> omega
      · have h20' : ¬ (k : Int) < 20 := by omega
        go_wp2_with fail
        go_roundw
        case rel => exact ⟨k + 1, by omega, by go_num, rfl, hSt'.more hbop⟩
        case measure => simp [intOf] <;> omega
    · obtain rfl : k = n0 := by omega
      clear hSt'
      have hN16 := hc.few
      have hz16 := hc.z16
      have hz128 := hc.z128
      have hll := hP.len
      have hsz := hc.size
      have hmp := (hP.may hc).1
      have hb0r := hbp.trans (hbel.mono hbp.size)
      have hRA := fun h => take_arg A 256 cp p d s m wr hr hn hcp hmp h
      obtain ⟨S0, hS0⟩ : ∃ S0, S0 = sizeI d := ⟨_, rfl⟩
      rw [← hS0] at hsz hRA
      clear hS0
      by_cases hbad : s < 1 ∨ 281474976710655 < s ∨ m < 1 ∨ S0 < m
      · have hF := hRA hbad
        clear hbad hRA
        go_wp2_with fail
        refine hF.mono ?_
        rintro e w1 ⟨rfl, hb1⟩
        go_wp2_with fail
        refine (sawake_any w1).mono ?_
        rintro e w2 ⟨rfl, hb2⟩
        go_wp2_with fail
        go_ret
        exact ⟨rfl, (by (have q_hb2 := Below.size hb2; (try simp at q_hb2); have q_hb1 := Below.size hb1; (try simp at q_hb1); have q_hb0r := Below.size hb0r; (try simp at q_hb0r); repeat (first | exact Below.refl _ _ | (refine Below.trans ?_ (Below.mono hb2 (by first | omega | (simp; omega) | simp))) | (refine Below.trans ?_ (Below.mono hb1 (by first | omega | (simp; omega) | simp))) | (refine Below.trans ?_ (Below.mono hb0r (by first | omega | (simp; omega) | simp))) | (refine Below.setCell ?_ (by first | omega | (simp; omega) | simp) _) | (refine Below.alloc ?_ (by first | omega | (simp; omega) | simp) _) | apply Below.drew | apply below_drewN)))⟩
      · have hs1 : 1 ≤ s := by omega
        have hs2 : s ≤ 281474976710655 := by omega
        obtain ⟨mN, rfl⟩ : ∃ mN : Nat, m = mN := ⟨m.toNat, by omega⟩
        have hmN1 : 1 ≤ mN := by omega
        have hmN2 : mN + 8 ≤ z := by omega
        clear hbad hRA
        rcases first_cases l with ⟨hfi, hno⟩ | ⟨j, o, hfi, hj, ho, ho0, hno⟩
        · have hF := take_full hc A cp p s mN wr hr hn hcp hmp (hP.noneFree hc (by rw [← hll]; exact hno) (Nat.le_refl _)) hs1 hs2 hmN1 hmN2
          clear hfi hno
          go_wp2_with fail
          refine hF.mono ?_
          rintro e w1 ⟨rfl, hb1⟩
          go_wp2_with fail
          refine (sawake_any w1).mono ?_
          rintro e w2 ⟨rfl, hb2⟩
          go_wp2_with fail
          go_ret
          exact ⟨rfl, (by (have q_hb2 := Below.size hb2; (try simp at q_hb2); have q_hb1 := Below.size hb1; (try simp at q_hb1); have q_hb0r := Below.size hb0r; (try simp at q_hb0r); repeat (first | exact Below.refl _ _ | (refine Below.trans ?_ (Below.mono hb2 (by first | omega | (simp; omega) | simp))) | (refine Below.trans ?_ (Below.mono hb1 (by first | omega | (simp; omega) | simp))) | (refine Below.trans ?_ (Below.mono hb0r (by first | omega | (simp; omega) | simp))) | (refine Below.setCell ?_ (by first | omega | (simp; omega) | simp) _) | (refine Below.alloc ?_ (by first | omega | (simp; omega) | simp) _) | apply Below.drew | apply below_drewN)))⟩
        · have hfw : freeW (win z p j) = true := by rw [(hP.tells hc ho).2.1]; exact decide_eq_true ho0
          have hjN : j < N := by omega
          have hj0 : l[j]? = some (0, []) := by
            have h9 : o = (0, []) := by
              rcases hP.ok o (List.mem_of_getElem? ho) with h | h
              · exact Prod.ext h.1 h.2
              · omega
            rw [← h9]; exact ho
          have hF := take_yes hc A cp p s j mN wr hr hn hcp hmp hjN (hP.noneFree hc hno (by omega)) hfw hs1 hs2 hmN1 hmN2
          have hP1 := hP.set_ (j := 0) (x := putL 2 (mN : Int) ++ putL 6 s) (o' := (s, List.replicate mN 0)) hc.fit ho (by simp [putL_len]; omega) (sow_take z mN s o ho0 hs1 (by omega)) (by
            right
            simp
            omega)
          rw [Nat.add_zero] at hP1
          obtain ⟨Q1, hQ1⟩ : ∃ Q1, Q1 = layL p (j * z) (putL 2 (mN : Int) ++ putL 6 s) := ⟨_, rfl⟩
          obtain ⟨Z, hZ⟩ : ∃ Z : List UInt8, Z = List.replicate mN 0 := ⟨_, rfl⟩
          have hZl : Z.length = mN := by rw [hZ]; simp
          rw [← hZ] at hP1
          have ho1 : (l.set j (s, Z))[j]? = some (s, Z) := by rw [List.getElem?_set, if_pos rfl, if_pos hj]
          obtain ⟨LL1, hLL1⟩ : ∃ LL1, LL1 = l.set j (s, Z) := ⟨_, rfl⟩
          rw [← hQ1] at hF hP1
          rw [← hLL1] at hP1 ho1
          have HLL1 := Lib.hid hLL1
          have hQ1l := (hP1.may hc).2
          have hf1 : freeW (win z Q1 j) = false := by rw [(hP1.tells hc ho1).2.1]; exact decide_eq_false (by omega)
          have hl1 : lenW (win z Q1 j) = mN := by rw [(hP1.tells hc ho1).2.2.2.2]; exact hZl
          clear hQ1 hZ hLL1 hfw hfi hno ho
          go_wp2_with fail
          refine hF.mono ?_
          rintro e w1 ⟨v1, rfl, hFq, hb1⟩
          obtain ⟨A2, c2, rfl, hRq, _, hn2, hm2⟩ := hFq.rdn 256 hQ1l
          have hb01 := hb0r.trans (hb1.mono hb0r.size)
          have hBp1 := (hBp.on hbel).on hb1
          have hr1 := hr.below hb1
          have hRp1 := hRp.below hb01
          have cBp := hBp1.cell
          have fBp := hBp1.frozen
          have zBp := hBp1.lt
          clear hFq hF
          go_upto_if 79 with fail
          go_cut [] (fun wx => (∃ nb' bs', Blk wx w0.heap.size 34 #[.int .i64 o1, .int .i64 o2, .int .i64 o3, .int .i64 o4, .int .u64 o5, .slice Ap nb' cp0] ∧ Rd wx Ap nb' bs' ∧ nb' ≤ mN ∧ nb' ≤ cp0) ∧ Rd wx A2 256 Q1 ∧ Rd wx A 256 p ∧ Below w0.heap.size w0 wx)
          case first =>
            by_cases hnm : mN < np
            · have hnm' : (mN : Int) < np := by omega
              have hneP : ∀ ad, Ap = some ad → 0 < mN → ad.block ≠ w0.heap.size := by
                intro ad hA hpos hx
                obtain ⟨b9, o9, hA9, hlt9, _⟩ := hRp.2 (by omega)
                rw [hA] at hA9
                injection hA9 with hA9
                rw [hA9] at hx
                simp only at hx
                omega
              have e1 := hBp1.set_ 5 (.slice Ap mN cp0)
              have e2 := (hRp1.head mN (by omega)).setNe hneP 5 (.slice Ap mN cp0)
              have e3 := hRq.setNe (fun ad h _ => hRq.not_six hBp1 rfl ad h) 5 (.slice Ap mN cp0)
              have e4 := hr1.setNe (fun ad h _ => hr1.not_six hBp1 rfl ad h) 5 (.slice Ap mN cp0)
              have e5 : Below w0.heap.size w0 (w1.setCell ⟨w0.heap.size, 5, none⟩ (.slice Ap mN cp0)) := (by (have q_hb01 := Below.size hb01; (try simp at q_hb01); repeat (first | exact Below.refl _ _ | (refine Below.trans ?_ (Below.mono hb01 (by first | omega | (simp; omega) | simp))) | (refine Below.setCell ?_ (by first | omega | (simp; omega) | simp) _) | (refine Below.alloc ?_ (by first | omega | (simp; omega) | simp) _) | apply Below.drew | apply below_drewN)))
              go_wp2_with fail
              go_meet
              exact ⟨⟨mN, Lp.take mN, by simpa using e1, e2, Nat.le_refl _, by omega⟩, e3, e4, e5⟩
            · have hnm' : ¬ (mN : Int) < np := by omega
              go_wp2_with fail
              go_meet
              exact ⟨⟨np, Lp, hBp1, hRp1, by omega, hnp⟩, hRq, hr1, hb01⟩
          case rest =>
            obtain ⟨hcutB, hRq', hrx, hb0x⟩ := hcut
            replace hRq := hRq'
            clear hr1 hRp1 hBp1 cBp fBp zBp
            obtain ⟨wx, hwx⟩ : ∃ wx, wx = wc := ⟨_, rfl⟩
            subst hwx
            obtain ⟨nb', bs', hB, hbR, hnb9, hnbc⟩ := hcutB
            have hbl9 := hbR.len
            have hW := write_yes hc A2 c2 Q1 j 0 Ap nb' cp0 bs' wx hRq hn2 hm2 (hP1.may hc).1 hjN hf1 hbR (by rw [hl1]; omega)
            have hP2 := hP1.set_ (j := 8 + 0) (x := bs') (o' := (s, layL Z 0 bs')) hc.fit ho1 (by omega) (sow_write z 0 (s, Z) bs' hs1 (by rw [hZl]; omega) (by rw [hZl]; omega)) (by
              right
              have h9 : (layL Z 0 bs').length = mN := by rw [layL_len _ _ _ (by omega)]; exact hZl
              rw [h9]
              exact ⟨hs1, by omega, by omega, by omega⟩)
            obtain ⟨Q2, hQ2⟩ : ∃ Q2, Q2 = layL Q1 (j * z + (8 + 0)) bs' := ⟨_, rfl⟩
            obtain ⟨Z2, hZ2⟩ : ∃ Z2, Z2 = layL Z 0 bs' := ⟨_, rfl⟩
            have hZ2l : Z2.length = mN := by rw [hZ2, layL_len _ _ _ (by omega)]; exact hZl
            rw [← hQ2] at hW hP2
            rw [← hZ2] at hP2
            have ho2 : (LL1.set j (s, Z2))[j]? = some (s, Z2) := by rw [List.getElem?_set, if_pos rfl, if_pos (by rw [hP1.len]; exact hjN)]
            obtain ⟨LL2, hLL2⟩ : ∃ LL2, LL2 = LL1.set j (s, Z2) := ⟨_, rfl⟩
            rw [← hLL2] at hP2 ho2
            have hf2 : freeW (win z Q2 j) = false := by rw [(hP2.tells hc ho2).2.1]; exact decide_eq_false (by omega)
            have hQ2l := (hP2.may hc).2
            have cBx := hB.cell
            have hW' : Calls Try.prog 25 #[.slice A2 256 c2, .int .i64 d, .int .i64 j, .int .i64 0, .slice Ap nb' cp0] wx (GivesP 5 Q2 wx) := hW
            clear hW hQ2 hZ2
            go_wp2_with fail
            refine hW'.mono ?_
            rintro e w3 ⟨v3, rfl, hF3, hb3⟩
            obtain ⟨A3, c3, rfl, hR3, _, hn3, hm3⟩ := hF3.rdn 256 hQ2l
            clear hW' hF3 cBx
            have hRs := resize_yes hc A3 c3 Q2 j 1 w3 hR3 hn3 hm3 (hP2.may hc).1 hjN hf2 (by omega) (by omega)
            have hP3 := hP2.set2 (j2 := 8 + 1) (x := putL 2 ((1 : Nat) : Int)) (y := List.replicate (z - 8 - 1) 0) (o' := (s, padL 1 Z2)) hc.fit ho2 (by rw [putL_len]; omega) (by rw [List.length_replicate]; omega) (sow_size z 1 (s, Z2) hs1 (by rw [hZ2l]; omega) (by omega)) (by
              right
              rw [padL_len]
              exact ⟨hs1, by omega, by omega, by omega⟩)
            obtain ⟨Q3, hQ3⟩ : ∃ Q3, Q3 = layL (layL Q2 (j * z) (putL 2 ((1 : Nat) : Int))) (j * z + (8 + 1)) (List.replicate (z - 8 - 1) 0) := ⟨_, rfl⟩
            rw [← hQ3] at hRs hP3
            have ho3 : (LL2.set j (s, padL 1 Z2))[j]? = some (s, padL 1 Z2) := by rw [List.getElem?_set, if_pos rfl, if_pos (by rw [hP2.len]; exact hjN)]
            obtain ⟨LL3, hLL3⟩ : ∃ LL3, LL3 = LL2.set j (s, padL 1 Z2) := ⟨_, rfl⟩
            rw [← hLL3] at hP3 ho3
            have hf3 : freeW (win z Q3 j) = false := by rw [(hP3.tells hc ho3).2.1]; exact decide_eq_false (by omega)
            have hQ3l := (hP3.may hc).2
            have hRs' : Calls Try.prog 26 #[.slice A3 256 c3, .int .i64 d, .int .i64 j, .int .i64 1] w3 (GivesP 5 Q3 w3) := hRs
            clear hRs hQ3
            go_wp2_with fail
            refine hRs'.mono ?_
            rintro e w4 ⟨v4, rfl, hF4, hb4⟩
            obtain ⟨A4, c4, rfl, hR4, _, hn4, hm4⟩ := hF4.rdn 256 hQ3l
            clear hRs' hF4
            have hFr := sfree_yes hc A4 c4 Q3 j w4 hR4 hn4 hm4 (hP3.may hc).1 hjN hf3
            have hP4 := hP3.set_ (j := 0) (x := List.replicate z 0) hc.fit ho3 (by simp) (sow_free z (s, padL 1 Z2)) (.inl ⟨rfl, rfl⟩)
            rw [Nat.add_zero] at hP4
            obtain ⟨Q4, hQ4⟩ : ∃ Q4, Q4 = layL Q3 (j * z) (List.replicate z 0) := ⟨_, rfl⟩
            rw [← hQ4] at hFr hP4
            have hQ4l := (hP4.may hc).2
            have hback : Q4 = p := by
              have e9 := hP4.page
              rw [hLL3, hLL2, HLL1.out, set_back hj0] at e9
              rw [e9]; exact hP.page.symm
            subst hback
            have hpl := hQ4l
            clear hQ4
            go_wp2_with fail
            refine hFr.mono ?_
            rintro e w5 ⟨v5, rfl, hF5, hb5⟩
            obtain ⟨A5, c5, rfl, hR5, _, hn5, hm5⟩ := hF5.rdn 256 hQ4l
            have hbY := hb3.trans ((hb4.trans (hb5.mono hb4.size)).mono hb3.size)
            have hcv5 := conv c5 _ hR5
            have hcv6 := conv cp _ (hrx.below hbY)
            clear hFr hF5
            go_wp2_with fail
            refine (sawake_any w5).mono ?_
            rintro e w6 ⟨rfl, hb6⟩
            go_wp2_with fail
            go_ret
            exact ⟨rfl, hb0x.trans ((hbY.trans (hb6.mono hbY.size)).mono hb0x.size)⟩
end Go.Proofs.Ytnocjjaebemkoaa
