/- Pages: one call, of both: they answer alike. -/
import Derived.Test.YtidlcplamgajpaaPages13
import Derived.Test.YtidlcplamgajpaaPages14
import Derived.Test.YtidlcplamgajpaaPagesV
namespace Go.Proofs.Ytidlcplamgajpaa
open Go.RowKit

set_option maxRecDepth 100000 in
set_option maxHeartbeats 4000000 in
theorem same_any (A1 A2 : Option Addr) (n c1 c2 : Nat) (l : List Pg) (w : World) (hr1 : RdG pgE w A1 n l) (hr2 : RdG pgE w A2 n l) (hn : n ≤ 1000000) :
    Calls Try.prog 21 #[.slice A1 n c1, .slice A2 n c2] w fun e w' => e = .returned (.bool true) ∧ Below w.heap.size w w' := by
  go_enter Try.func21, Try.ntmps21
  go_wp2_with fail
  go_loopw [13] (fun i wr => ∃ k : Nat, k ≤ n ∧ i = .int .i64 k ∧ Below w.heap.size w wr) (fun i _ => n - (intOf i).toNat)
  case atStart => exact ⟨0, by omega, rfl, Below.refl _ _⟩
  case round =>
    obtain ⟨k, hk, rfl, hbel⟩ := hrel
    by_cases hlt : k < n
    · obtain ⟨b, off, x, rfl, hb, hx, hcell⟩ := (hr1.below hbel).at_ hlt
      have c0 := hcell 0 _ rfl
      have c1' := hcell 1 _ rfl
      have c2' := hcell 2 _ rfl
      have c3 := hcell 3 _ rfl
      have c4 := hcell 4 _ rfl
      obtain ⟨b2, off2, x2, rfl, hb2, hx2, hcell2⟩ := (hr2.below hbel).at_ hlt
      obtain rfl : x2 = x := by rw [hx] at hx2; injection hx2 with hx2; exact hx2.symm
      have d0 := hcell2 0 _ rfl
      have d1 := hcell2 1 _ rfl
      have d2 := hcell2 2 _ rfl
      have d3 := hcell2 3 _ rfl
      have d4 := hcell2 4 _ rfl
      simp only [show pgE.sz = 5 from rfl, Nat.add_zero] at c0 c1' c2' c3 c4 d0 d1 d2 d3 d4
      obtain ⟨p1, p2, p3, p4, p5⟩ := x2
      simp only at c0 c1' c2' c3 c4 d0 d1 d2 d3 d4
      have hq : ∀ w : World, (binOp .neq 33 (.agg #[.int .i64 p1, .int .i64 p2, .int .i64 p3, .int .i64 p4, .int .u64 p5]) (.agg #[.int .i64 p1, .int .i64 p2, .int .i64 p3, .int .i64 p4, .int .u64 p5])).run Try.prog w = .ok (.bool false) w := fun w => by
        rw [run_neq_rp]; unfold eqPg; simp
      have q1 : (k : Int) < n := by omega
      clear hcell hcell2 hx hx2
      go_wp2_with fail
      go_quiet (fail)
      go_wp2_with fail
      go_roundw
      case rel => exact ⟨k + 1, by omega, by go_num, (by (have q_hbel := Below.size hbel; (try simp at q_hbel); repeat (first | exact Below.refl _ _ | (refine Below.trans ?_ (Below.mono hbel (by first | omega | (simp; omega) | simp))) | (refine Below.setCell ?_ (by first | omega | (simp; omega) | simp) _) | (refine Below.alloc ?_ (by first | omega | (simp; omega) | simp) _) | apply Below.drew | apply below_drewN)))⟩
      case measure => simp [intOf] <;> omega
    · obtain rfl : k = n := by omega
      go_wp2_with fail
      go_ret
      exact ⟨rfl, hbel⟩

/-- A step's end: pages that may be, as many, and that all fits. -/
def Stepped (w : World) (l : List Pg) (n : Nat) (e : Ending) (w' : World) : Prop :=
  ∃ A c l', e = .returned (.tuple #[.slice A n c, .bool true]) ∧ RdG pgE w' A n l' ∧ n ≤ c ∧ c ≤ maxLen ∧ (okL l = true → okL l' = true) ∧ Below w.heap.size w w'
theorem Stepped.mk {w w' : World} {l l' : List Pg} {n c : Nat} {A : Option Addr} {e : Ending} (he : e = .returned (.tuple #[.slice A n c, .bool true])) (hr : RdG pgE w' A n l') (h1 : n ≤ c) (h2 : c ≤ maxLen) (h3 : okL l = true → okL l' = true) (hb : Below w.heap.size w w') : Stepped w l n e w' := ⟨A, c, l', he, hr, h1, h2, h3, hb⟩
theorem firstFI_range (l : List Pg) (m : Int) : -1 ≤ firstFI l m ∧ firstFI l m ≤ l.length := by
  unfold firstFI
  split
  · omega
  · unfold firstF
    split
    · rename_i k hk
      have := List.mem_of_find?_eq_some hk
      rw [List.mem_range] at this
      omega
    · omega
theorem tdiv_range (x : Int) (h1 : -9223372036854775808 ≤ x) (h2 : x ≤ 9223372036854775807) : -36028797018963968 ≤ x.tdiv 256 ∧ x.tdiv 256 ≤ 36028797018963968 := by
  have h := Int.natAbs_tdiv x 256
  have e : x.natAbs.div (Int.natAbs 256) = x.natAbs / 256 := rfl
  rw [e] at h
  omega
theorem take_len {l : List Pg} {a size s : Int} : (takeErr l a size s = 0 → okL (takeR l a size s) = true ∧ (takeR l a size s).length = l.length) ∧ (takeErr l a size s ≠ 0 → takeR l a size s = []) :=
  ⟨fun h => take_ok h, fun h => takeR_no rfl h⟩
theorem give_len {l : List Pg} {a : Int} : (giveErr l a = 0 → okL (giveR l a) = true ∧ (giveR l a).length = l.length) ∧ (giveErr l a ≠ 0 → giveR l a = []) :=
  ⟨fun h => give_ok h, fun h => by unfold giveR; rw [if_neg h]⟩
theorem turn_len {l : List Pg} {a c : Int} : (turnErr l a c = 0 → okL (turnR l a c) = true ∧ (turnR l a c).length = l.length) ∧ (turnErr l a c ≠ 0 → turnR l a c = []) :=
  ⟨fun h => turn_ok (sizeI_range c).1 h, fun h => by unfold turnR; rw [if_neg h]⟩

set_option maxRecDepth 100000 in
set_option maxHeartbeats 16000000 in
theorem step_any (A : Option Addr) (n c : Nat) (l : List Pg) (o1 o2 o3 o4 o5 : Int) (w : World) (hr : RdG pgE w A n l) (hn : n ≤ 1000000) (hnc : n ≤ c) (hc : c ≤ maxLen) (ho : inPg (o1, o2, o3, o4, o5)) :
    Calls Try.prog 16 #[.slice A n c, .agg #[.int .i64 o1, .int .i64 o2, .int .i64 o3, .int .i64 o4, .int .u64 o5]] w (Stepped w l n) := by
  have hlen := hr.len
  obtain ⟨_, ⟨h21, h22⟩, ⟨h31, h32⟩, _, h51, _⟩ := ho
  simp only at h21 h22 h31 h32 h51
  have B0 : Blk (w.alloc (.cells #[.int .i64 o1, .int .i64 o2, .int .i64 o3, .int .i64 o4, .int .u64 o5] 41)) w.heap.size 41 #[.int .i64 o1, .int .i64 o2, .int .i64 o3, .int .i64 o4, .int .u64 o5] := Blk.new _ _ _
  go_enter Try.func16, Try.ntmps16
  go_wp2_with fail
  refine (ours_any A n c l _ (hr.alloc _) hn).mono ?_
  rintro e w1 ⟨v1, rfl, hF1, hb1'⟩
  have hb1 : Below w.heap.size w w1 := (by (have q_hb1' := Below.size hb1'; (try simp at q_hb1'); repeat (first | exact Below.refl _ _ | (refine Below.trans ?_ (Below.mono hb1' (by first | omega | (simp; omega) | simp))) | (refine Below.setCell ?_ (by first | omega | (simp; omega) | simp) _) | (refine Below.alloc ?_ (by first | omega | (simp; omega) | simp) _) | apply Below.drew | apply below_drewN)))
  have B1 := B0.on hb1'
  have cB := B1.cell
  obtain ⟨A1, c1, rfl, hR1, _, hc11, hc12⟩ := hF1.rdn n hlen
  have hr1 := hr.on hb1 (Nat.le_refl _)
  clear hF1 hb1' B0
  by_cases k5 : o1 = 5
  · subst k5
    obtain ⟨x, hx⟩ : ∃ x, IntKind.i64.wrap (o3 - 1) = x := ⟨_, rfl⟩
    have hx1 : -9223372036854775808 ≤ x ∧ x ≤ 9223372036854775807 := by have := wrap_within .i64 (o3 - 1); rw [hx] at this; exact this
    obtain ⟨y, hy⟩ : ∃ y, x.tdiv 256 = y := ⟨_, rfl⟩
    have hyr := tdiv_range x hx1.1 hx1.2
    rw [hy] at hyr
    have hyw : IntKind.i64.wrap y = y := IntWalk.i64_in _ (by omega)
    have h1y : IntKind.i64.wrap (1 + y) = 1 + y := IntWalk.i64_in _ (by omega)
    have hfi := firstFI_range l (1 + y)
    rw [hlen] at hfi
    go_wp2_with fail
    refine (rfirst_any A n c l (1 + y) _ hr1 hn (by omega)).mono ?_
    rintro e w2 ⟨rfl, rfl⟩
    obtain ⟨a, ha⟩ : ∃ a, a = firstFI l (1 + y) := ⟨_, rfl⟩
    rw [← ha] at hfi ⊢
    clear ha hx hy hyw h1y hx1 hyr
    obtain ⟨X, hX⟩ : ∃ X, X = takeErr l a o3 o5 := ⟨_, rfl⟩
    obtain ⟨L, hL⟩ : ∃ L, L = takeR l a o3 o5 := ⟨_, rfl⟩
    have hLen := @take_len l a o3 o5
    rw [← hX, ← hL] at hLen
    have hLq : L.length ≤ 1000000 := by
      by_cases h : X = 0
      · rw [(hLen.1 h).2]; omega
      · rw [hLen.2 h]; simp
    have HLEN := Lib.hid hLen
    go_wp2_with fail
    refine (take_any A1 n c1 l a o3 o5 _ hR1 hn hc11 hc12 h51 (by omega) (by omega)).mono ?_
    rintro e w2 ⟨vm, rfl, hFm, hb2⟩
    rw [← hX]
    rw [← hL] at hFm
    have cB2 := (B1.on hb2).cell
    go_wp2_with fail
    refine (rtake_any A n c l a o3 o5 _ (hr1.below hb2) hn (by omega) (by omega)).mono ?_
    rintro e w3 ⟨vw, rfl, hFw, hb3⟩
    rw [← hX]
    rw [← hL] at hFw
    obtain ⟨q, hq⟩ : ∃ q, q = L.length := ⟨_, rfl⟩
    obtain ⟨Am, cm, rfl, hRm, _, _, _⟩ := hFm.rdn q hq.symm
    obtain ⟨Aw, cw, rfl, hRw, _, hcw1, hcw2⟩ := hFw.rdn q hq.symm
    have HQ := Lib.hid hq
    rw [← hq] at hLq
    clear hX hL hLen hFm hFw hq
    go_wp2_with fail
    refine (plainL_any Am q cm L _ (hRm.below hb3) hLq).mono ?_
    rintro e w4 ⟨v4, rfl, hF4, hb4⟩
    obtain ⟨A4, c4, rfl, hR4, _, _, _⟩ := hF4.rdn q HQ.out.symm
    go_wp2_with fail
    refine (same_any A4 Aw q c4 cw L _ hR4 (hRw.below hb4) hLq).mono ?_
    rintro e w5 ⟨rfl, hb5⟩
    go_wp2_with fail
    refine (plainL_any A1 n c1 l _ ((((hR1.below hb2).below hb3).below hb4).below hb5) hn).mono ?_
    rintro e w6 ⟨v6, rfl, hF6, hb6⟩
    obtain ⟨A6, c6, rfl, hR6, _, _, _⟩ := hF6.rdn n hlen
    have b6 : Below w.heap.size w w6 := (by (have q_hb6 := Below.size hb6; (try simp at q_hb6); have q_hb5 := Below.size hb5; (try simp at q_hb5); have q_hb4 := Below.size hb4; (try simp at q_hb4); have q_hb3 := Below.size hb3; (try simp at q_hb3); have q_hb2 := Below.size hb2; (try simp at q_hb2); have q_hb1 := Below.size hb1; (try simp at q_hb1); repeat (first | exact Below.refl _ _ | (refine Below.trans ?_ (Below.mono hb6 (by first | omega | (simp; omega) | simp))) | (refine Below.trans ?_ (Below.mono hb5 (by first | omega | (simp; omega) | simp))) | (refine Below.trans ?_ (Below.mono hb4 (by first | omega | (simp; omega) | simp))) | (refine Below.trans ?_ (Below.mono hb3 (by first | omega | (simp; omega) | simp))) | (refine Below.trans ?_ (Below.mono hb2 (by first | omega | (simp; omega) | simp))) | (refine Below.trans ?_ (Below.mono hb1 (by first | omega | (simp; omega) | simp))) | (refine Below.setCell ?_ (by first | omega | (simp; omega) | simp) _) | (refine Below.alloc ?_ (by first | omega | (simp; omega) | simp) _) | apply Below.drew | apply below_drewN)))
    have hRw6 := ((hRw.below hb4).below hb5).below hb6
    clear hF4 hF6 hRm hR4 hRw hb2 hb3 hb4 hb5 hb6
    go_wp2_with fail
    refine (same_any A6 A n c6 c l _ hR6 (hr.on b6 (Nat.le_refl _)) hn).mono ?_
    rintro e w7 ⟨rfl, hb7⟩
    have b7 : Below w.heap.size w w7 := (by (have q_hb7 := Below.size hb7; (try simp at q_hb7); have q_b6 := Below.size b6; (try simp at q_b6); repeat (first | exact Below.refl _ _ | (refine Below.trans ?_ (Below.mono hb7 (by first | omega | (simp; omega) | simp))) | (refine Below.trans ?_ (Below.mono b6 (by first | omega | (simp; omega) | simp))) | (refine Below.setCell ?_ (by first | omega | (simp; omega) | simp) _) | (refine Below.alloc ?_ (by first | omega | (simp; omega) | simp) _) | apply Below.drew | apply below_drewN)))
    have hRw7 := hRw6.below hb7
    clear hR6 hRw6 hb7 b6
    by_cases hX0 : X = 0
    · have h1 := HLEN.out.1 hX0
      have HO := Lib.hid h1.1
      obtain rfl : q = n := by rw [HQ.out, h1.2, hlen]
      clear h1 HLEN
      subst hX0
      go_wp2_with fail
      refine (rmay_any Aw q cw L _ hRw7 hLq).mono ?_
      rintro e w8 ⟨rfl, hb8⟩
      rw [HO.out]
      go_wp2_with fail
      go_ret2
      exact Stepped.mk rfl (hRw7.below hb8) hcw1 hcw2 (fun _ => HO.out) (by (have q_hb8 := Below.size hb8; (try simp at q_hb8); have q_b7 := Below.size b7; (try simp at q_b7); repeat (first | exact Below.refl _ _ | (refine Below.trans ?_ (Below.mono hb8 (by first | omega | (simp; omega) | simp))) | (refine Below.trans ?_ (Below.mono b7 (by first | omega | (simp; omega) | simp))) | (refine Below.setCell ?_ (by first | omega | (simp; omega) | simp) _) | (refine Below.alloc ?_ (by first | omega | (simp; omega) | simp) _) | apply Below.drew | apply below_drewN)))
    · have hXb : (X != 0) = true := by simp [hX0]
      clear HLEN hX0
      go_wp2_with fail
      go_ret2
      exact Stepped.mk rfl (hr.on b7 (Nat.le_refl _)) hnc hc (fun h => h) b7
  · have e5 : (o1 == 5) = false := by simp [k5]
    by_cases k0 : o1 = 0 ∨ o1 = 1
    · rcases k0 with rfl | rfl
      all_goals
        clear k5 e5
        obtain ⟨X, hX⟩ : ∃ X, X = takeErr l o2 o3 o5 := ⟨_, rfl⟩
        obtain ⟨L, hL⟩ : ∃ L, L = takeR l o2 o3 o5 := ⟨_, rfl⟩
        have hLen := @take_len l o2 o3 o5
        rw [← hX, ← hL] at hLen
        have hLq : L.length ≤ 1000000 := by
          by_cases h : X = 0
          · rw [(hLen.1 h).2]; omega
          · rw [hLen.2 h]; simp
        have HLEN := Lib.hid hLen
        go_wp2_with fail
        refine (take_any A1 n c1 l o2 o3 o5 _ hR1 hn hc11 hc12 h51 (by omega) (by omega)).mono ?_
        rintro e w2 ⟨vm, rfl, hFm, hb2⟩
        rw [← hX]
        rw [← hL] at hFm
        have cB2 := (B1.on hb2).cell
        go_wp2_with fail
        refine (rtake_any A n c l o2 o3 o5 _ (hr1.below hb2) hn (by omega) (by omega)).mono ?_
        rintro e w3 ⟨vw, rfl, hFw, hb3⟩
        rw [← hX]
        rw [← hL] at hFw
        obtain ⟨q, hq⟩ : ∃ q, q = L.length := ⟨_, rfl⟩
        obtain ⟨Am, cm, rfl, hRm, _, _, _⟩ := hFm.rdn q hq.symm
        obtain ⟨Aw, cw, rfl, hRw, _, hcw1, hcw2⟩ := hFw.rdn q hq.symm
        have HQ := Lib.hid hq
        rw [← hq] at hLq
        clear hX hL hLen hFm hFw hq
        go_wp2_with fail
        refine (plainL_any Am q cm L _ (hRm.below hb3) hLq).mono ?_
        rintro e w4 ⟨v4, rfl, hF4, hb4⟩
        obtain ⟨A4, c4, rfl, hR4, _, _, _⟩ := hF4.rdn q HQ.out.symm
        go_wp2_with fail
        refine (same_any A4 Aw q c4 cw L _ hR4 (hRw.below hb4) hLq).mono ?_
        rintro e w5 ⟨rfl, hb5⟩
        go_wp2_with fail
        refine (plainL_any A1 n c1 l _ ((((hR1.below hb2).below hb3).below hb4).below hb5) hn).mono ?_
        rintro e w6 ⟨v6, rfl, hF6, hb6⟩
        obtain ⟨A6, c6, rfl, hR6, _, _, _⟩ := hF6.rdn n hlen
        have b6 : Below w.heap.size w w6 := (by (have q_hb6 := Below.size hb6; (try simp at q_hb6); have q_hb5 := Below.size hb5; (try simp at q_hb5); have q_hb4 := Below.size hb4; (try simp at q_hb4); have q_hb3 := Below.size hb3; (try simp at q_hb3); have q_hb2 := Below.size hb2; (try simp at q_hb2); have q_hb1 := Below.size hb1; (try simp at q_hb1); repeat (first | exact Below.refl _ _ | (refine Below.trans ?_ (Below.mono hb6 (by first | omega | (simp; omega) | simp))) | (refine Below.trans ?_ (Below.mono hb5 (by first | omega | (simp; omega) | simp))) | (refine Below.trans ?_ (Below.mono hb4 (by first | omega | (simp; omega) | simp))) | (refine Below.trans ?_ (Below.mono hb3 (by first | omega | (simp; omega) | simp))) | (refine Below.trans ?_ (Below.mono hb2 (by first | omega | (simp; omega) | simp))) | (refine Below.trans ?_ (Below.mono hb1 (by first | omega | (simp; omega) | simp))) | (refine Below.setCell ?_ (by first | omega | (simp; omega) | simp) _) | (refine Below.alloc ?_ (by first | omega | (simp; omega) | simp) _) | apply Below.drew | apply below_drewN)))
        have hRw6 := ((hRw.below hb4).below hb5).below hb6
        clear hF4 hF6 hRm hR4 hRw hb2 hb3 hb4 hb5 hb6
        go_wp2_with fail
        refine (same_any A6 A n c6 c l _ hR6 (hr.on b6 (Nat.le_refl _)) hn).mono ?_
        rintro e w7 ⟨rfl, hb7⟩
        have b7 : Below w.heap.size w w7 := (by (have q_hb7 := Below.size hb7; (try simp at q_hb7); have q_b6 := Below.size b6; (try simp at q_b6); repeat (first | exact Below.refl _ _ | (refine Below.trans ?_ (Below.mono hb7 (by first | omega | (simp; omega) | simp))) | (refine Below.trans ?_ (Below.mono b6 (by first | omega | (simp; omega) | simp))) | (refine Below.setCell ?_ (by first | omega | (simp; omega) | simp) _) | (refine Below.alloc ?_ (by first | omega | (simp; omega) | simp) _) | apply Below.drew | apply below_drewN)))
        have hRw7 := hRw6.below hb7
        clear hR6 hRw6 hb7 b6
        by_cases hX0 : X = 0
        · have h1 := HLEN.out.1 hX0
          have HO := Lib.hid h1.1
          obtain rfl : q = n := by rw [HQ.out, h1.2, hlen]
          clear h1 HLEN
          subst hX0
          go_wp2_with fail
          refine (rmay_any Aw q cw L _ hRw7 hLq).mono ?_
          rintro e w8 ⟨rfl, hb8⟩
          rw [HO.out]
          go_wp2_with fail
          go_ret2
          exact Stepped.mk rfl (hRw7.below hb8) hcw1 hcw2 (fun _ => HO.out) (by (have q_hb8 := Below.size hb8; (try simp at q_hb8); have q_b7 := Below.size b7; (try simp at q_b7); repeat (first | exact Below.refl _ _ | (refine Below.trans ?_ (Below.mono hb8 (by first | omega | (simp; omega) | simp))) | (refine Below.trans ?_ (Below.mono b7 (by first | omega | (simp; omega) | simp))) | (refine Below.setCell ?_ (by first | omega | (simp; omega) | simp) _) | (refine Below.alloc ?_ (by first | omega | (simp; omega) | simp) _) | apply Below.drew | apply below_drewN)))
        · have hXb : (X != 0) = true := by simp [hX0]
          clear HLEN hX0
          go_wp2_with fail
          go_ret2
          exact Stepped.mk rfl (hr.on b7 (Nat.le_refl _)) hnc hc (fun h => h) b7
    · by_cases k2 : o1 = 2
      · subst k2
        clear k0 k5 e5
        obtain ⟨X, hX⟩ : ∃ X, X = giveErr l o2 := ⟨_, rfl⟩
        obtain ⟨L, hL⟩ : ∃ L, L = giveR l o2 := ⟨_, rfl⟩
        have hLen := @give_len l o2
        rw [← hX, ← hL] at hLen
        have hLq : L.length ≤ 1000000 := by
          by_cases h : X = 0
          · rw [(hLen.1 h).2]; omega
          · rw [hLen.2 h]; simp
        have HLEN := Lib.hid hLen
        go_wp2_with fail
        refine (give_any A1 n c1 l o2 _ hR1 hn).mono ?_
        rintro e w2 ⟨vm, rfl, hFm, hb2⟩
        rw [← hX]
        rw [← hL] at hFm
        have cB2 := (B1.on hb2).cell
        go_wp2_with fail
        refine (rgive_any A n c l o2 _ (hr1.below hb2) hn).mono ?_
        rintro e w3 ⟨vw, rfl, hFw, hb3⟩
        rw [← hX]
        rw [← hL] at hFw
        obtain ⟨q, hq⟩ : ∃ q, q = L.length := ⟨_, rfl⟩
        obtain ⟨Am, cm, rfl, hRm, _, _, _⟩ := hFm.rdn q hq.symm
        obtain ⟨Aw, cw, rfl, hRw, _, hcw1, hcw2⟩ := hFw.rdn q hq.symm
        have HQ := Lib.hid hq
        rw [← hq] at hLq
        clear hX hL hLen hFm hFw hq
        go_wp2_with fail
        refine (plainL_any Am q cm L _ (hRm.below hb3) hLq).mono ?_
        rintro e w4 ⟨v4, rfl, hF4, hb4⟩
        obtain ⟨A4, c4, rfl, hR4, _, _, _⟩ := hF4.rdn q HQ.out.symm
        go_wp2_with fail
        refine (same_any A4 Aw q c4 cw L _ hR4 (hRw.below hb4) hLq).mono ?_
        rintro e w5 ⟨rfl, hb5⟩
        go_wp2_with fail
        refine (plainL_any A1 n c1 l _ ((((hR1.below hb2).below hb3).below hb4).below hb5) hn).mono ?_
        rintro e w6 ⟨v6, rfl, hF6, hb6⟩
        obtain ⟨A6, c6, rfl, hR6, _, _, _⟩ := hF6.rdn n hlen
        have b6 : Below w.heap.size w w6 := (by (have q_hb6 := Below.size hb6; (try simp at q_hb6); have q_hb5 := Below.size hb5; (try simp at q_hb5); have q_hb4 := Below.size hb4; (try simp at q_hb4); have q_hb3 := Below.size hb3; (try simp at q_hb3); have q_hb2 := Below.size hb2; (try simp at q_hb2); have q_hb1 := Below.size hb1; (try simp at q_hb1); repeat (first | exact Below.refl _ _ | (refine Below.trans ?_ (Below.mono hb6 (by first | omega | (simp; omega) | simp))) | (refine Below.trans ?_ (Below.mono hb5 (by first | omega | (simp; omega) | simp))) | (refine Below.trans ?_ (Below.mono hb4 (by first | omega | (simp; omega) | simp))) | (refine Below.trans ?_ (Below.mono hb3 (by first | omega | (simp; omega) | simp))) | (refine Below.trans ?_ (Below.mono hb2 (by first | omega | (simp; omega) | simp))) | (refine Below.trans ?_ (Below.mono hb1 (by first | omega | (simp; omega) | simp))) | (refine Below.setCell ?_ (by first | omega | (simp; omega) | simp) _) | (refine Below.alloc ?_ (by first | omega | (simp; omega) | simp) _) | apply Below.drew | apply below_drewN)))
        have hRw6 := ((hRw.below hb4).below hb5).below hb6
        clear hF4 hF6 hRm hR4 hRw hb2 hb3 hb4 hb5 hb6
        go_wp2_with fail
        refine (same_any A6 A n c6 c l _ hR6 (hr.on b6 (Nat.le_refl _)) hn).mono ?_
        rintro e w7 ⟨rfl, hb7⟩
        have b7 : Below w.heap.size w w7 := (by (have q_hb7 := Below.size hb7; (try simp at q_hb7); have q_b6 := Below.size b6; (try simp at q_b6); repeat (first | exact Below.refl _ _ | (refine Below.trans ?_ (Below.mono hb7 (by first | omega | (simp; omega) | simp))) | (refine Below.trans ?_ (Below.mono b6 (by first | omega | (simp; omega) | simp))) | (refine Below.setCell ?_ (by first | omega | (simp; omega) | simp) _) | (refine Below.alloc ?_ (by first | omega | (simp; omega) | simp) _) | apply Below.drew | apply below_drewN)))
        have hRw7 := hRw6.below hb7
        clear hR6 hRw6 hb7 b6
        by_cases hX0 : X = 0
        · have h1 := HLEN.out.1 hX0
          have HO := Lib.hid h1.1
          obtain rfl : q = n := by rw [HQ.out, h1.2, hlen]
          clear h1 HLEN
          subst hX0
          go_wp2_with fail
          refine (rmay_any Aw q cw L _ hRw7 hLq).mono ?_
          rintro e w8 ⟨rfl, hb8⟩
          rw [HO.out]
          go_wp2_with fail
          go_ret2
          exact Stepped.mk rfl (hRw7.below hb8) hcw1 hcw2 (fun _ => HO.out) (by (have q_hb8 := Below.size hb8; (try simp at q_hb8); have q_b7 := Below.size b7; (try simp at q_b7); repeat (first | exact Below.refl _ _ | (refine Below.trans ?_ (Below.mono hb8 (by first | omega | (simp; omega) | simp))) | (refine Below.trans ?_ (Below.mono b7 (by first | omega | (simp; omega) | simp))) | (refine Below.setCell ?_ (by first | omega | (simp; omega) | simp) _) | (refine Below.alloc ?_ (by first | omega | (simp; omega) | simp) _) | apply Below.drew | apply below_drewN)))
        · have hXb : (X != 0) = true := by simp [hX0]
          clear HLEN hX0
          go_wp2_with fail
          go_ret2
          exact Stepped.mk rfl (hr.on b7 (Nat.le_refl _)) hnc hc (fun h => h) b7
      · by_cases k3 : o1 = 3 ∨ o1 = 4
        · rcases k3 with rfl | rfl
          all_goals
            clear k0 k2 k5 e5
            obtain ⟨X, hX⟩ : ∃ X, X = turnErr l o2 o4 := ⟨_, rfl⟩
            obtain ⟨L, hL⟩ : ∃ L, L = turnR l o2 o4 := ⟨_, rfl⟩
            have hLen := @turn_len l o2 o4
            rw [← hX, ← hL] at hLen
            have hLq : L.length ≤ 1000000 := by
              by_cases h : X = 0
              · rw [(hLen.1 h).2]; omega
              · rw [hLen.2 h]; simp
            have HLEN := Lib.hid hLen
            go_wp2_with fail
            refine (turn_any A1 n c1 l o2 o4 _ hR1 hn).mono ?_
            rintro e w2 ⟨vm, rfl, hFm, hb2⟩
            rw [← hX]
            rw [← hL] at hFm
            have cB2 := (B1.on hb2).cell
            go_wp2_with fail
            refine (rturn_any A n c l o2 o4 _ (hr1.below hb2) hn).mono ?_
            rintro e w3 ⟨vw, rfl, hFw, hb3⟩
            rw [← hX]
            rw [← hL] at hFw
            obtain ⟨q, hq⟩ : ∃ q, q = L.length := ⟨_, rfl⟩
            obtain ⟨Am, cm, rfl, hRm, _, _, _⟩ := hFm.rdn q hq.symm
            obtain ⟨Aw, cw, rfl, hRw, _, hcw1, hcw2⟩ := hFw.rdn q hq.symm
            have HQ := Lib.hid hq
            rw [← hq] at hLq
            clear hX hL hLen hFm hFw hq
            go_wp2_with fail
            refine (plainL_any Am q cm L _ (hRm.below hb3) hLq).mono ?_
            rintro e w4 ⟨v4, rfl, hF4, hb4⟩
            obtain ⟨A4, c4, rfl, hR4, _, _, _⟩ := hF4.rdn q HQ.out.symm
            go_wp2_with fail
            refine (same_any A4 Aw q c4 cw L _ hR4 (hRw.below hb4) hLq).mono ?_
            rintro e w5 ⟨rfl, hb5⟩
            go_wp2_with fail
            refine (plainL_any A1 n c1 l _ ((((hR1.below hb2).below hb3).below hb4).below hb5) hn).mono ?_
            rintro e w6 ⟨v6, rfl, hF6, hb6⟩
            obtain ⟨A6, c6, rfl, hR6, _, _, _⟩ := hF6.rdn n hlen
            have b6 : Below w.heap.size w w6 := (by (have q_hb6 := Below.size hb6; (try simp at q_hb6); have q_hb5 := Below.size hb5; (try simp at q_hb5); have q_hb4 := Below.size hb4; (try simp at q_hb4); have q_hb3 := Below.size hb3; (try simp at q_hb3); have q_hb2 := Below.size hb2; (try simp at q_hb2); have q_hb1 := Below.size hb1; (try simp at q_hb1); repeat (first | exact Below.refl _ _ | (refine Below.trans ?_ (Below.mono hb6 (by first | omega | (simp; omega) | simp))) | (refine Below.trans ?_ (Below.mono hb5 (by first | omega | (simp; omega) | simp))) | (refine Below.trans ?_ (Below.mono hb4 (by first | omega | (simp; omega) | simp))) | (refine Below.trans ?_ (Below.mono hb3 (by first | omega | (simp; omega) | simp))) | (refine Below.trans ?_ (Below.mono hb2 (by first | omega | (simp; omega) | simp))) | (refine Below.trans ?_ (Below.mono hb1 (by first | omega | (simp; omega) | simp))) | (refine Below.setCell ?_ (by first | omega | (simp; omega) | simp) _) | (refine Below.alloc ?_ (by first | omega | (simp; omega) | simp) _) | apply Below.drew | apply below_drewN)))
            have hRw6 := ((hRw.below hb4).below hb5).below hb6
            clear hF4 hF6 hRm hR4 hRw hb2 hb3 hb4 hb5 hb6
            go_wp2_with fail
            refine (same_any A6 A n c6 c l _ hR6 (hr.on b6 (Nat.le_refl _)) hn).mono ?_
            rintro e w7 ⟨rfl, hb7⟩
            have b7 : Below w.heap.size w w7 := (by (have q_hb7 := Below.size hb7; (try simp at q_hb7); have q_b6 := Below.size b6; (try simp at q_b6); repeat (first | exact Below.refl _ _ | (refine Below.trans ?_ (Below.mono hb7 (by first | omega | (simp; omega) | simp))) | (refine Below.trans ?_ (Below.mono b6 (by first | omega | (simp; omega) | simp))) | (refine Below.setCell ?_ (by first | omega | (simp; omega) | simp) _) | (refine Below.alloc ?_ (by first | omega | (simp; omega) | simp) _) | apply Below.drew | apply below_drewN)))
            have hRw7 := hRw6.below hb7
            clear hR6 hRw6 hb7 b6
            by_cases hX0 : X = 0
            · have h1 := HLEN.out.1 hX0
              have HO := Lib.hid h1.1
              obtain rfl : q = n := by rw [HQ.out, h1.2, hlen]
              clear h1 HLEN
              subst hX0
              go_wp2_with fail
              refine (rmay_any Aw q cw L _ hRw7 hLq).mono ?_
              rintro e w8 ⟨rfl, hb8⟩
              rw [HO.out]
              go_wp2_with fail
              go_ret2
              exact Stepped.mk rfl (hRw7.below hb8) hcw1 hcw2 (fun _ => HO.out) (by (have q_hb8 := Below.size hb8; (try simp at q_hb8); have q_b7 := Below.size b7; (try simp at q_b7); repeat (first | exact Below.refl _ _ | (refine Below.trans ?_ (Below.mono hb8 (by first | omega | (simp; omega) | simp))) | (refine Below.trans ?_ (Below.mono b7 (by first | omega | (simp; omega) | simp))) | (refine Below.setCell ?_ (by first | omega | (simp; omega) | simp) _) | (refine Below.alloc ?_ (by first | omega | (simp; omega) | simp) _) | apply Below.drew | apply below_drewN)))
            · have hXb : (X != 0) = true := by simp [hX0]
              clear HLEN hX0
              go_wp2_with fail
              go_ret2
              exact Stepped.mk rfl (hr.on b7 (Nat.le_refl _)) hnc hc (fun h => h) b7
        · have e0 : (o1 == 0) = false := by simp; omega
          have e1 : (o1 == 1) = false := by simp; omega
          have e2 : (o1 == 2) = false := by simp; omega
          have e3 : (o1 == 3) = false := by simp; omega
          have e4 : (o1 == 4) = false := by simp; omega
          clear k0 k2 k3 k5
          go_wp2_with fail
          go_ret2
          exact Stepped.mk rfl hr1 hnc hc (fun h => h) hb1
end Go.Proofs.Ytidlcplamgajpaa
