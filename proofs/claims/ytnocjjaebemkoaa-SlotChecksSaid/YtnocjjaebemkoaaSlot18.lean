/- The walk of the statement SlotPlays. -/
import Derived.Test.YtnocjjaebemkoaaSlot17
namespace Go.Proofs.Ytnocjjaebemkoaa
open Go.RowKit

/-- The loop's state: a page of objects. -/
def SlState (T8 : TypeId) (z N : Nat) (w wr : World) (vp vl : Value) : Prop :=
  ∃ A cp p Al cl l, vp = .slice A 256 cp ∧ vl = .slice Al N cl ∧ Rd wr A 256 p ∧ 256 ≤ cp ∧ cp ≤ maxLen ∧ RdR obK wr.heap.size T8 wr Al N l ∧ PageOf z N p l ∧ Below w.heap.size w wr
theorem SlState.more {T8 : TypeId} {z N : Nat} {w wr w' : World} {vp vl : Value} (h : SlState T8 z N w wr vp vl) (hb : Below wr.heap.size wr w') : SlState T8 z N w w' vp vl := by
  obtain ⟨A, cp, p, Al, cl, l, e1, e2, h1, h2, h3, h4, h5, h6⟩ := h
  exact ⟨A, cp, p, Al, cl, l, e1, e2, h1.below hb, h2, h3, (h4.below hb).mono hb.size, h5, h6.trans (hb.mono h6.size)⟩
theorem objs_noughts {c : Int} {z N : Nat} (hc : ClassOK c z N) {Z : List UInt8} (hZ : Z = List.replicate 256 0) : mayP c Z = true ∧ objsL z Z N = List.replicate N (0, []) := by
  have hP := zero_page hc
  rw [← hZ] at hP
  have h1 := hc.z16
  have h2 := hc.z128
  exact ⟨(hP.may hc).1, (hP.objs (by omega) (by omega) hc.fit).1⟩
set_option maxRecDepth 100000 in
set_option maxHeartbeats 4000000 in
theorem law_slotplays (c : Int) (A0 : Option Addr) (n0 c0 : Nat) (es : List OpD) (w : World) (hro : RdR opK w.heap.size 5 w A0 n0 es) (hn0 : n0 ≤ c0) (hc0 : c0 ≤ maxLen) :
    Calls Try.prog 9 #[.int .i64 c, .slice A0 n0 c0] w fun e w' => e = .returned (.bool true) ∧ Below w.heap.size w w' := by
  have h7 := and7 c
  obtain ⟨z, N, hc⟩ := class_mod c
  obtain ⟨d, hd⟩ : ∃ d, d = c % 8 := ⟨_, rfl⟩
  rw [← hd] at h7 hc
  have hn47 : n0 ≤ 9223372036854775807 := by unfold maxLen at hc0; omega
  clear hd hc0
  obtain ⟨Z, hZ⟩ : ∃ Z : List UInt8, Z = List.replicate 256 0 := ⟨_, rfl⟩
  have hZl : Z.length = 256 := by rw [hZ]; simp
  have hPZ := zero_page hc
  rw [← hZ] at hPZ
  obtain ⟨hMZ, hOZ⟩ := objs_noughts hc hZ
  have hFZ := Fresh.noughts w 5 Z 256 hZ (by unfold maxLen; omega)
  obtain ⟨_, _, eZ, hRZ, _⟩ := hFZ.rdn 256 hZl
  injection eZ with eZ1 eZ2 eZ3
  subst eZ1 eZ3
  have hOb := robjects_class hc (some ⟨w.heap.size, 0, none⟩) 256 Z _ hRZ (Nat.le_refl _)
  rw [hMZ] at hOb
  have hmk : ∀ W : World, (Instr.makeSlice 32 (.int .i64 256) (.int .i64 256)).run Try.prog W = .ok (.slice (some ⟨W.heap.size, 0, none⟩) 256 256) (W.alloc (.cells (part Z 0) 5)) :=
    make_bytes (P := Try.prog) Try.underlying32 info8 .i64 .i64 256 (by omega) Z hZl
  have hbz0 : Below w.heap.size w (w.alloc (.cells (part Z 0) 5)) := (by (repeat (first | exact Below.refl _ _ | (refine Below.setCell ?_ (by first | omega | (simp; omega) | simp) _) | (refine Below.alloc ?_ (by first | omega | (simp; omega) | simp) _) | apply Below.drew | apply below_drewN)))
  have HOZ := Lib.hid hOZ
  clear hFZ hMZ hZ hOZ eZ2
  go_enter Try.func9, Try.ntmps9
  go_wp2_with fail
  refine hOb.mono ?_
  rintro e w1 ⟨v1, rfl, hO1, _, hb1⟩
  have hO1' := hO1 rfl
  rw [HOZ.out] at hO1'
  obtain ⟨A1, c1, rfl, hR1, _, _⟩ := hO1'.rd N (by simp)
  have hb01 := hbz0.trans (hb1.mono hbz0.size)
  have hSt : SlState 5 z N w w1 (.slice (some ⟨w.heap.size, 0, none⟩) 256 256) (.slice A1 N c1) := ⟨_, _, Z, _, _, _, rfl, rfl, hRZ.below hb1, Nat.le_refl _, by unfold maxLen; omega, hR1.mono hb1.size, hPZ, hb01⟩
  clear hOb hO1 hO1' hR1 hRZ hPZ hmk hbz0 HOZ
  go_wp2_with fail
  go_loopw [5, 6, 7, 21] (fun vp vl vo i wr => ∃ k : Nat, k ≤ n0 ∧ i = .int .i64 k ∧ vo = .bool true ∧ SlState 5 z N w wr vp vl) (fun _ _ _ i _ => n0 - (intOf i).toNat)
  case atStart => exact ⟨0, by omega, rfl, rfl, hSt⟩
  case round =>
    clear hSt hb01 hb1
    obtain ⟨k, hk, rfl, rfl, hSt⟩ := hrel
    have hSt' := hSt
    obtain ⟨A, cp, p, Al, cl, l, rfl, rfl, hr, hn, hcp, hrl, hP, hbel⟩ := hSt
    have hbz := hbel.size
    by_cases hlt : k < n0
    · have hrow := hro.below hbel
      obtain ⟨bo, off, f1, f2, f3, f4, f5, Ad, nd, cd, L, rfl, hbo, _, hc0, hc1, hc2, hc3, hc4, hc5, hX, hnd, hcd⟩ := hrow.op hlt
      have hBop := Blk.new wr 34 #[.int .i64 f1, .int .i64 f2, .int .i64 f3, .int .i64 f4, .int .u64 f5, .slice Ad nd cd]
      have cBop := hBop.cell
      have hbop : Below wr.heap.size wr (wr.alloc (.cells #[.int .i64 f1, .int .i64 f2, .int .i64 f3, .int .i64 f4, .int .u64 f5, .slice Ad nd cd] 34)) := (by (repeat (first | exact Below.refl _ _ | (refine Below.setCell ?_ (by first | omega | (simp; omega) | simp) _) | (refine Below.alloc ?_ (by first | omega | (simp; omega) | simp) _) | apply Below.drew | apply below_drewN)))
      by_cases h40 : 40 ≤ k
      · have hend := (sawake_any (wr.alloc (.cells #[.int .i64 f1, .int .i64 f2, .int .i64 f3, .int .i64 f4, .int .u64 f5, .slice Ad nd cd] 34)))
        have h40' : (40 : Int) ≤ k := by omega
        go_wp2_with fail
        refine hend.mono ?_
        rintro e w2 ⟨rfl, hb2⟩
        go_wp2_with fail
        go_ret
        exact ⟨rfl, (by (have q_hb2 := Below.size hb2; (try simp at q_hb2); have q_hbop := Below.size hbop; (try simp at q_hbop); have q_hbel := Below.size hbel; (try simp at q_hbel); repeat (first | exact Below.refl _ _ | (refine Below.trans ?_ (Below.mono hb2 (by first | omega | (simp; omega) | simp))) | (refine Below.trans ?_ (Below.mono hbop (by first | omega | (simp; omega) | simp))) | (refine Below.trans ?_ (Below.mono hbel (by first | omega | (simp; omega) | simp))) | (refine Below.setCell ?_ (by first | omega | (simp; omega) | simp) _) | (refine Below.alloc ?_ (by first | omega | (simp; omega) | simp) _) | apply Below.drew | apply below_drewN)))⟩
      · have hstep := step_any hc A cp p Al cl l _ (hr.below hbop) hn hcp ((hrl.below hbop).mono hbop.size) hP f1 f2 f3 f4 f5 Ad nd cd L (hX.1.below hbop) hnd
        have h40' : ¬ (40 : Int) ≤ k := by omega
        go_wp2_with fail
        refine hstep.mono ?_
        rintro e w2 ⟨A', cp', p', Al', cl', l', rfl, hr2, hn2, hcp2, hrl2, hP2, hb2⟩
        have hbY := hbel.trans ((hbop.trans (hb2.mono hbop.size)).mono hbz)
        go_wp2_with fail
        refine (same_any hc A' cp' p' Al' cl' _ _ l' w2 hr2 hn2 hcp2 hrl2 hP2).mono ?_
        rintro e w3 ⟨rfl, hb3⟩
        go_wp2_with fail
        go_roundw
        case rel => exact ⟨k + 1, by omega, by go_num, rfl, SlState.more ⟨A', cp', p', Al', cl', l', rfl, rfl, hr2, hn2, hcp2, hrl2, hP2, hbY⟩ hb3⟩
        case measure => simp [intOf] <;> omega
    · obtain rfl : k = n0 := by omega
      go_wp2_with fail
      refine (sawake_any wr).mono ?_
      rintro e w2 ⟨rfl, hb2⟩
      go_wp2_with fail
      go_ret
      exact ⟨rfl, (by (have q_hb2 := Below.size hb2; (try simp at q_hb2); have q_hbel := Below.size hbel; (try simp at q_hbel); repeat (first | exact Below.refl _ _ | (refine Below.trans ?_ (Below.mono hb2 (by first | omega | (simp; omega) | simp))) | (refine Below.trans ?_ (Below.mono hbel (by first | omega | (simp; omega) | simp))) | (refine Below.setCell ?_ (by first | omega | (simp; omega) | simp) _) | (refine Below.alloc ?_ (by first | omega | (simp; omega) | simp) _) | apply Below.drew | apply below_drewN)))⟩
end Go.Proofs.Ytnocjjaebemkoaa
