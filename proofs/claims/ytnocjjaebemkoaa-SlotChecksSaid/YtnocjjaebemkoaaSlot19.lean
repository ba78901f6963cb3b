/- The walk of the statement SlotFree. -/
import Derived.Test.YtnocjjaebemkoaaSlot18
namespace Go.Proofs.Ytnocjjaebemkoaa
open Go.RowKit

theorem noneL_set {l : List Ob} {k j : Nat} {o : Ob} (h : noneL l j) (hjk : j ≤ k) : noneL (l.set k o) j := by
  intro i o' hi ho
  rw [List.getElem?_set, if_neg (by omega)] at ho
  exact h i o' hi ho
theorem noneL_less {l : List Ob} {k j : Nat} (h : noneL l k) (hj : j ≤ k) : noneL l j := fun i o hi ho => h i o (by omega) ho
set_option maxRecDepth 100000 in
set_option maxHeartbeats 4000000 in
theorem law_slotfree (c : Int) (A0 : Option Addr) (n0 c0 : Nat) (es : List OpD) (K m : Int) (w : World) (hro : RdR opK w.heap.size 5 w A0 n0 es) (hn0 : n0 ≤ c0) (hc0 : c0 ≤ maxLen) :
    Calls Try.prog 8 #[.int .i64 c, .slice A0 n0 c0, .int .i64 K, .int .i64 m] w fun e w' => e = .returned (.bool true) ∧ Below w.heap.size w w' := by
  have h7 := and7 c
  have h7m := and7 m
  obtain ⟨r, hrm⟩ : ∃ r : Nat, (r : Int) = m % 8 := ⟨(m % 8).toNat, by omega⟩
  have hr8 : r < 8 := by omega
  rw [← hrm] at h7m
  obtain ⟨z, N, hc⟩ := class_mod c
  obtain ⟨d, hd⟩ : ∃ d, d = c % 8 := ⟨_, rfl⟩
  rw [← hd] at h7 hc
  have hn47 : n0 ≤ 9223372036854775807 := by unfold maxLen at hc0; omega
  clear hd hc0 hrm
  obtain ⟨Z, hZ⟩ : ∃ Z : List UInt8, Z = List.replicate 256 0 := ⟨_, rfl⟩
  have hZl : Z.length = 256 := by rw [hZ]; simp
  have hPZ := zero_page hc
  rw [← hZ] at hPZ
  obtain ⟨hMZ, hOZ⟩ := objs_noughts hc hZ
  have hFZ := Fresh.noughts w 5 Z 256 hZ (by unfold maxLen; omega)
  obtain ⟨_, _, eZ, hRZ, _⟩ := hFZ.rdn 256 hZl
  injection eZ with eZ1 eZ2 eZ3
  subst eZ1 eZ3
  have hOb := robjects_class hc (some ⟨w.heap.size, 0, none⟩) 256 Z _ hRZ (Nat.le_refl _)
  rw [hMZ] at hOb
  have hmk : ∀ W : World, (Instr.makeSlice 32 (.int .i64 256) (.int .i64 256)).run Try.prog W = .ok (.slice (some ⟨W.heap.size, 0, none⟩) 256 256) (W.alloc (.cells (part Z 0) 5)) :=
    make_bytes (P := Try.prog) Try.underlying32 info8 .i64 .i64 256 (by omega) Z hZl
  have hbz0 : Below w.heap.size w (w.alloc (.cells (part Z 0) 5)) := (by (repeat (first | exact Below.refl _ _ | (refine Below.setCell ?_ (by first | omega | (simp; omega) | simp) _) | (refine Below.alloc ?_ (by first | omega | (simp; omega) | simp) _) | apply Below.drew | apply below_drewN)))
  have HOZ := Lib.hid hOZ
  clear hFZ hMZ hZ hOZ eZ2
  go_enter Try.func8, Try.ntmps8
  go_wp2_with fail
  refine hOb.mono ?_
  rintro e w1 ⟨v1, rfl, hO1, _, hb1⟩
  have hO1' := hO1 rfl
  rw [HOZ.out] at hO1'
  obtain ⟨A1, c1, rfl, hR1, _, _⟩ := hO1'.rd N (by simp)
  have hb01 := hbz0.trans (hb1.mono hbz0.size)
  have hSt : SlState 5 z N w w1 (.slice (some ⟨w.heap.size, 0, none⟩) 256 256) (.slice A1 N c1) := ⟨_, _, Z, _, _, _, rfl, rfl, hRZ.below hb1, Nat.le_refl _, by unfold maxLen; omega, hR1.mono hb1.size, hPZ, hb01⟩
  clear hOb hO1 hO1' hR1 hRZ hPZ hmk hbz0 HOZ
  go_wp2_with fail
  go_loopw [9, 10, 11, 31] (fun vp vl vo i wr => ∃ k : Nat, k ≤ n0 ∧ i = .int .i64 k ∧ vo = .bool true ∧ SlState 5 z N w wr vp vl) (fun _ _ _ i _ => n0 - (intOf i).toNat)
  case atStart => exact ⟨0, by omega, rfl, rfl, hSt⟩
  case round =>
    clear hSt hb01 hb1
    obtain ⟨k, hk, rfl, rfl, hSt⟩ := hrel
    have hSt' := hSt
    obtain ⟨A, cp, p, Al, cl, l, rfl, rfl, hr, hn, hcp, hrl, hP, hbel⟩ := hSt
    have hbz := hbel.size
    by_cases hlt : k < n0
    ·
      have hrow := hro.below hbel
      obtain ⟨bo, off, f1, f2, f3, f4, f5, Ad, nd, cd, L, rfl, hbo, _, hc0, hc1, hc2, hc3, hc4, hc5, hX, hnd, hcd⟩ := hrow.op hlt
      have hBop := Blk.new wr 34 #[.int .i64 f1, .int .i64 f2, .int .i64 f3, .int .i64 f4, .int .u64 f5, .slice Ad nd cd]
      have cBop := hBop.cell
      have hbop : Below wr.heap.size wr (wr.alloc (.cells #[.int .i64 f1, .int .i64 f2, .int .i64 f3, .int .i64 f4, .int .u64 f5, .slice Ad nd cd] 34)) := (by (repeat (first | exact Below.refl _ _ | (refine Below.setCell ?_ (by first | omega | (simp; omega) | simp) _) | (refine Below.alloc ?_ (by first | omega | (simp; omega) | simp) _) | apply Below.drew | apply below_drewN)))
      by_cases h20 : k < 20
      · have hstep := step_any hc A cp p Al cl l _ (hr.below hbop) hn hcp ((hrl.below hbop).mono hbop.size) hP f1 f2 f3 f4 f5 Ad nd cd L (hX.1.below hbop) hnd
        have h20' : (k : Int) < 20 := by omega
        go_wp2_with fail
        refine hstep.mono ?_
        rintro e w2 ⟨A', cp', p', Al', cl', l', rfl, hr2, hn2, hcp2, hrl2, hP2, hb2⟩
        have hbY := hbel.trans ((hbop.trans (hb2.mono hbop.size)).mono hbz)
        go_wp2_with fail
        go_roundw
        case rel => exact ⟨k + 1, by omega, by go_num, rfl, ⟨A', cp', p', Al', cl', l', rfl, rfl, hr2, hn2, hcp2, hrl2, hP2, hbY⟩⟩
        case measure => simp [intOf] <;> omega
      · have h20' : ¬ (k : Int) < 20 := by omega
        go_wp2_with fail
        go_roundw
        case rel => exact ⟨k + 1, by omega, by go_num, rfl, hSt'.more hbop⟩
        case measure => simp [intOf] <;> omega
    · obtain rfl : k = n0 := by omega
      clear hSt'
      have hN16 := hc.few
      have hz16 := hc.z16
      cases hth : thereL l K with
      | false =>
        have hTh := rthere_any Al N cl _ _ l K wr hrl
        rw [hth] at hTh
        go_wp2_with fail
        refine hTh.mono ?_
        rintro e w2 ⟨rfl, rfl⟩
        go_wp2_with fail
        refine (sawake_any wr).mono ?_
        rintro e w2 ⟨rfl, hb2⟩
        go_wp2_with fail
        go_ret
        exact ⟨rfl, (by (have q_hb2 := Below.size hb2; (try simp at q_hb2); have q_hbel := Below.size hbel; (try simp at q_hbel); repeat (first | exact Below.refl _ _ | (refine Below.trans ?_ (Below.mono hb2 (by first | omega | (simp; omega) | simp))) | (refine Below.trans ?_ (Below.mono hbel (by first | omega | (simp; omega) | simp))) | (refine Below.setCell ?_ (by first | omega | (simp; omega) | simp) _) | (refine Below.alloc ?_ (by first | omega | (simp; omega) | simp) _) | apply Below.drew | apply below_drewN)))⟩
      | true =>
        obtain ⟨kN, rfl, hkN, o, ho, ho1, hfw⟩ := hP.there hc hth
        have hTh := rthere_any Al N cl _ _ l kN wr hrl
        rw [hth] at hTh
        have hPn := hP.set_ (j := 0) (x := List.replicate z 0) hc.fit ho (by simp) (sow_free z o) (.inl ⟨rfl, rfl⟩)
        rw [Nat.add_zero] at hPn
        have hFr := sfree_yes hc A cp p kN wr hr hn hcp (hP.may hc).1 hkN hfw
        have hll := hP.len
        obtain ⟨Q, hQ⟩ : ∃ Q, Q = layL p (kN * z) (List.replicate z 0) := ⟨_, rfl⟩
        obtain ⟨LL, hLL⟩ : ∃ LL, LL = l.set kN (0, []) := ⟨_, rfl⟩
        have hQl := (hPn.may hc).2
        have HLL := Lib.hid hLL
        rw [← hQ] at hFr hPn hQl
        rw [← hLL] at hPn
        have HO := Lib.hid ho
        have hfc := Lib.hid (first_cases l)
        clear hQ hLL hfw hth ho
        go_wp2_with fail
        refine hTh.mono ?_
        rintro e w2 ⟨rfl, rfl⟩
        go_wp2_with fail
        refine hFr.mono ?_
        rintro e w1 ⟨v1, rfl, hFq, hb1⟩
        obtain ⟨A2, c2, rfl, hRq, _, hn2, hm2⟩ := hFq.rdn 256 hQl
        have hrl1 := hrl.below hb1
        clear hFq hTh hFr
        rcases hfc.out with ⟨hfi, hno⟩ | ⟨f, of, hfi, hf, hof, hof0, hno⟩
        · have HFI := Lib.hid hfi
          clear hfi hfc
          have hPn1 := hPn.noneFree hc (k := kN) (by rw [HLL.out]; exact noneL_set (noneL_less hno (by omega)) (Nat.le_refl _)) (by omega)
          have hfr1 : freeW (win z Q kN) = true := by
            obtain ⟨o1, ho1, hz1⟩ : ∃ o1, LL[kN]? = some o1 ∧ o1.1 = 0 := by rw [HLL.out]; exact ⟨(0, []), by rw [List.getElem?_set, if_pos rfl, if_pos (by omega)], rfl⟩
            rw [(hPn.tells hc ho1).2.1]
            exact decide_eq_true hz1
          have hT := fun w9 hR9 => take_yes hc A2 c2 Q 77 kN (1 + r) w9 hR9 hn2 hm2 (hPn.may hc).1 (by omega) hPn1 hfr1 (by omega) (by omega) (by omega) (by omega)
          clear hPn1 hfr1
          go_wp2_with fail
          refine (rfirst_any Al N cl _ _ l w1 hrl1 (by omega)).mono ?_
          rintro e w2 ⟨rfl, hb2⟩
          rw [HFI.out]
          have hT2 := hT w2 (hRq.below hb2)
          have e1r : ((1 + r : Nat) : Int) = 1 + (r : Int) := by omega
          rw [e1r] at hT2
          clear hT e1r
          go_wp2_with fail
          refine hT2.mono ?_
          rintro e w3 ⟨v3, rfl, hF3, hb3⟩
          go_wp2_with fail
          refine (sawake_any w3).mono ?_
          rintro e w4 ⟨rfl, hb4⟩
          go_wp2_with fail
          go_ret
          exact ⟨rfl, (by (have q_hb4 := Below.size hb4; (try simp at q_hb4); have q_hb3 := Below.size hb3; (try simp at q_hb3); have q_hb2 := Below.size hb2; (try simp at q_hb2); have q_hb1 := Below.size hb1; (try simp at q_hb1); have q_hbel := Below.size hbel; (try simp at q_hbel); repeat (first | exact Below.refl _ _ | (refine Below.trans ?_ (Below.mono hb4 (by first | omega | (simp; omega) | simp))) | (refine Below.trans ?_ (Below.mono hb3 (by first | omega | (simp; omega) | simp))) | (refine Below.trans ?_ (Below.mono hb2 (by first | omega | (simp; omega) | simp))) | (refine Below.trans ?_ (Below.mono hb1 (by first | omega | (simp; omega) | simp))) | (refine Below.trans ?_ (Below.mono hbel (by first | omega | (simp; omega) | simp))) | (refine Below.setCell ?_ (by first | omega | (simp; omega) | simp) _) | (refine Below.alloc ?_ (by first | omega | (simp; omega) | simp) _) | apply Below.drew | apply below_drewN)))⟩
        · have HFI := Lib.hid hfi
          have hfk : f ≠ kN := by
            rintro rfl
            have := HO.out
            rw [hof] at this
            injection this with this
            subst this
            omega
          clear hfi hfc
          by_cases hlt2 : kN < f
          · have q1 : (kN : Int) < f := by omega
            have hPn1 := hPn.noneFree hc (k := kN) (by rw [HLL.out]; exact noneL_set (noneL_less hno (by omega)) (Nat.le_refl _)) (by omega)
            have hfr1 : freeW (win z Q kN) = true := by
              obtain ⟨o1, ho1, hz1⟩ : ∃ o1, LL[kN]? = some o1 ∧ o1.1 = 0 := by rw [HLL.out]; exact ⟨(0, []), by rw [List.getElem?_set, if_pos rfl, if_pos (by omega)], rfl⟩
              rw [(hPn.tells hc ho1).2.1]
              exact decide_eq_true hz1
            have hT := fun w9 hR9 => take_yes hc A2 c2 Q 77 kN (1 + r) w9 hR9 hn2 hm2 (hPn.may hc).1 (by omega) hPn1 hfr1 (by omega) (by omega) (by omega) (by omega)
            clear hPn1 hfr1
            go_wp2_with fail
            refine (rfirst_any Al N cl _ _ l w1 hrl1 (by omega)).mono ?_
            rintro e w2 ⟨rfl, hb2⟩
            rw [HFI.out]
            have hT2 := hT w2 (hRq.below hb2)
            have e1r : ((1 + r : Nat) : Int) = 1 + (r : Int) := by omega
            rw [e1r] at hT2
            clear hT e1r
            go_wp2_with fail
            refine hT2.mono ?_
            rintro e w3 ⟨v3, rfl, hF3, hb3⟩
            go_wp2_with fail
            refine (sawake_any w3).mono ?_
            rintro e w4 ⟨rfl, hb4⟩
            go_wp2_with fail
            go_ret
            exact ⟨rfl, (by (have q_hb4 := Below.size hb4; (try simp at q_hb4); have q_hb3 := Below.size hb3; (try simp at q_hb3); have q_hb2 := Below.size hb2; (try simp at q_hb2); have q_hb1 := Below.size hb1; (try simp at q_hb1); have q_hbel := Below.size hbel; (try simp at q_hbel); repeat (first | exact Below.refl _ _ | (refine Below.trans ?_ (Below.mono hb4 (by first | omega | (simp; omega) | simp))) | (refine Below.trans ?_ (Below.mono hb3 (by first | omega | (simp; omega) | simp))) | (refine Below.trans ?_ (Below.mono hb2 (by first | omega | (simp; omega) | simp))) | (refine Below.trans ?_ (Below.mono hb1 (by first | omega | (simp; omega) | simp))) | (refine Below.trans ?_ (Below.mono hbel (by first | omega | (simp; omega) | simp))) | (refine Below.setCell ?_ (by first | omega | (simp; omega) | simp) _) | (refine Below.alloc ?_ (by first | omega | (simp; omega) | simp) _) | apply Below.drew | apply below_drewN)))⟩
          · have q1 : ¬ (kN : Int) < f := by omega
            have hPn1 := hPn.noneFree hc (k := f) (by rw [HLL.out]; exact noneL_set (noneL_less hno (Nat.le_refl _)) (by omega)) (by omega)
            have hfr1 : freeW (win z Q f) = true := by
              obtain ⟨o1, ho1, hz1⟩ : ∃ o1, LL[f]? = some o1 ∧ o1.1 = 0 := by rw [HLL.out]; exact ⟨of, by rw [List.getElem?_set, if_neg (by omega)]; exact hof, hof0⟩
              rw [(hPn.tells hc ho1).2.1]
              exact decide_eq_true hz1
            have hT := fun w9 hR9 => take_yes hc A2 c2 Q 77 f (1 + r) w9 hR9 hn2 hm2 (hPn.may hc).1 (by omega) hPn1 hfr1 (by omega) (by omega) (by omega) (by omega)
            clear hPn1 hfr1
            go_wp2_with fail
            refine (rfirst_any Al N cl _ _ l w1 hrl1 (by omega)).mono ?_
            rintro e w2 ⟨rfl, hb2⟩
            rw [HFI.out]
            have hT2 := hT w2 (hRq.below hb2)
            have e1r : ((1 + r : Nat) : Int) = 1 + (r : Int) := by omega
            rw [e1r] at hT2
            clear hT e1r
            go_wp2_with fail
            refine hT2.mono ?_
            rintro e w3 ⟨v3, rfl, hF3, hb3⟩
            go_wp2_with fail
            refine (sawake_any w3).mono ?_
            rintro e w4 ⟨rfl, hb4⟩
            go_wp2_with fail
            go_ret
            exact ⟨rfl, (by (have q_hb4 := Below.size hb4; (try simp at q_hb4); have q_hb3 := Below.size hb3; (try simp at q_hb3); have q_hb2 := Below.size hb2; (try simp at q_hb2); have q_hb1 := Below.size hb1; (try simp at q_hb1); have q_hbel := Below.size hbel; (try simp at q_hbel); repeat (first | exact Below.refl _ _ | (refine Below.trans ?_ (Below.mono hb4 (by first | omega | (simp; omega) | simp))) | (refine Below.trans ?_ (Below.mono hb3 (by first | omega | (simp; omega) | simp))) | (refine Below.trans ?_ (Below.mono hb2 (by first | omega | (simp; omega) | simp))) | (refine Below.trans ?_ (Below.mono hb1 (by first | omega | (simp; omega) | simp))) | (refine Below.trans ?_ (Below.mono hbel (by first | omega | (simp; omega) | simp))) | (refine Below.setCell ?_ (by first | omega | (simp; omega) | simp) _) | (refine Below.alloc ?_ (by first | omega | (simp; omega) | simp) _) | apply Below.drew | apply below_drewN)))⟩
end Go.Proofs.Ytnocjjaebemkoaa
