/- The walks of the statements PagesChecks, PagesPlays. -/
import Derived.Test.YtidlcplamgajpaaPages15
namespace Go.Proofs.Ytidlcplamgajpaa
open Go.RowKit

theorem okL_zero (m : Nat) (h : m ≤ 64) : okL (List.replicate m zeroPg) = true := by
  refine okL_mk (by simpa using h) ?_ (want_free _ ?_)
  · rw [List.any_eq_false]; intro x hx; rw [List.eq_of_mem_replicate hx]; decide
  · rw [List.all_eq_true]; intro x hx; rw [List.eq_of_mem_replicate hx]; decide

set_option maxRecDepth 100000 in
set_option maxHeartbeats 8000000 in
theorem law_checks (A : Option Addr) (n c : Nat) (l0 : List Pg) (o1 o2 o3 o4 o5 : Int) (w : World) (hr0 : RdG pgE w A n l0) (hnc : n ≤ c) (hc : c ≤ maxLen) (ho : inPg (o1, o2, o3, o4, o5)) :
    Calls Try.prog 5 #[.slice A n c, .agg #[.int .i64 o1, .int .i64 o2, .int .i64 o3, .int .i64 o4, .int .u64 o5]] w fun e w' => e = .returned (.bool true) ∧ Below w.heap.size w w' := by
  have hr := hr0.cutTo (min n 70) (by omega)
  obtain ⟨l, hl⟩ : ∃ l, l = l0.take (min n 70) := ⟨_, rfl⟩
  obtain ⟨s, hs⟩ : ∃ s, s = min n 70 := ⟨_, rfl⟩
  rw [← hl, ← hs] at hr
  have hs70 : s ≤ 70 := by omega
  have hsc : s ≤ c := by omega
  have HS := Lib.hid hs
  have hlen := hr.len
  clear hl hs hr0
  have B0 : Blk (w.alloc (.cells #[.int .i64 o1, .int .i64 o2, .int .i64 o3, .int .i64 o4, .int .u64 o5] 41)) w.heap.size 41 #[.int .i64 o1, .int .i64 o2, .int .i64 o3, .int .i64 o4, .int .u64 o5] := Blk.new _ _ _
  go_enter Try.func5, Try.ntmps5
  go_wp2_with fail
  refine (few_any _ _ _ _ hnc hc).mono ?_
  rintro e w1 ⟨rfl, rfl⟩
  rw [← HS.out]
  go_wp2_with fail
  refine (ours_any A s c l _ (hr.alloc _) (by omega)).mono ?_
  rintro e w1 ⟨v, rfl, hF1, hb1⟩
  obtain ⟨A1, c1, rfl, hR1, _, hc1, hc2⟩ := hF1.rdn s hlen
  go_wp2_with fail
  refine (check_any A1 s c1 l _ hR1 (by omega)).mono ?_
  rintro e w2 ⟨rfl, hb2⟩
  have b2 : Below w.heap.size w w2 := (by (have q_hb2 := Below.size hb2; (try simp at q_hb2); have q_hb1 := Below.size hb1; (try simp at q_hb1); repeat (first | exact Below.refl _ _ | (refine Below.trans ?_ (Below.mono hb2 (by first | omega | (simp; omega) | simp))) | (refine Below.trans ?_ (Below.mono hb1 (by first | omega | (simp; omega) | simp))) | (refine Below.setCell ?_ (by first | omega | (simp; omega) | simp) _) | (refine Below.alloc ?_ (by first | omega | (simp; omega) | simp) _) | apply Below.drew | apply below_drewN)))
  have B2 := (B0.on hb1).on hb2
  clear hF1 hR1 hb1 hb2 B0
  cases hk : okL l
  · have h4 := Lib.hid (show chkE l = 4 by unfold chkE; rw [hk]; rfl)
    rw [h4.out]
    go_wp2_with fail
    refine (rmay_any A s c l _ (hr.on b2 (Nat.le_refl _)) (by omega)).mono ?_
    rintro e w3 ⟨rfl, hb3⟩
    have b3 : Below w.heap.size w w3 := (by (have q_hb3 := Below.size hb3; (try simp at q_hb3); have q_b2 := Below.size b2; (try simp at q_b2); repeat (first | exact Below.refl _ _ | (refine Below.trans ?_ (Below.mono hb3 (by first | omega | (simp; omega) | simp))) | (refine Below.trans ?_ (Below.mono b2 (by first | omega | (simp; omega) | simp))) | (refine Below.setCell ?_ (by first | omega | (simp; omega) | simp) _) | (refine Below.alloc ?_ (by first | omega | (simp; omega) | simp) _) | apply Below.drew | apply below_drewN)))
    rw [hk]
    go_wp2_with fail
    refine (rmay_any A s c l _ (hr.on b3 (Nat.le_refl _)) (by omega)).mono ?_
    rintro e w4 ⟨rfl, hb4⟩
    have b4 : Below w.heap.size w w4 := (by (have q_hb4 := Below.size hb4; (try simp at q_hb4); have q_b3 := Below.size b3; (try simp at q_b3); repeat (first | exact Below.refl _ _ | (refine Below.trans ?_ (Below.mono hb4 (by first | omega | (simp; omega) | simp))) | (refine Below.trans ?_ (Below.mono b3 (by first | omega | (simp; omega) | simp))) | (refine Below.setCell ?_ (by first | omega | (simp; omega) | simp) _) | (refine Below.alloc ?_ (by first | omega | (simp; omega) | simp) _) | apply Below.drew | apply below_drewN)))
    have cB := ((B2.on hb3).on hb4).cell
    rw [hk]
    go_wp2_with fail
    refine (step_any A s c l o1 o2 o3 o4 o5 _ (hr.on b4 (Nat.le_refl _)) (by omega) hsc hc ho).mono ?_
    rintro e w5 ⟨A5, c5, l5, rfl, _, _, _, _, hb5⟩
    go_wp2_with fail
    refine (pawake_any _).mono ?_
    rintro e w6 ⟨rfl, hb6⟩
    go_wp2_with fail
    go_ret
    exact ⟨rfl, (by (have q_hb6 := Below.size hb6; (try simp at q_hb6); have q_hb5 := Below.size hb5; (try simp at q_hb5); have q_b4 := Below.size b4; (try simp at q_b4); repeat (first | exact Below.refl _ _ | (refine Below.trans ?_ (Below.mono hb6 (by first | omega | (simp; omega) | simp))) | (refine Below.trans ?_ (Below.mono hb5 (by first | omega | (simp; omega) | simp))) | (refine Below.trans ?_ (Below.mono b4 (by first | omega | (simp; omega) | simp))) | (refine Below.setCell ?_ (by first | omega | (simp; omega) | simp) _) | (refine Below.alloc ?_ (by first | omega | (simp; omega) | simp) _) | apply Below.drew | apply below_drewN)))⟩
  · have h4 := Lib.hid (show chkE l = 0 by unfold chkE; rw [hk]; rfl)
    rw [h4.out]
    go_wp2_with fail
    refine (rmay_any A s c l _ (hr.on b2 (Nat.le_refl _)) (by omega)).mono ?_
    rintro e w3 ⟨rfl, hb3⟩
    have b3 : Below w.heap.size w w3 := (by (have q_hb3 := Below.size hb3; (try simp at q_hb3); have q_b2 := Below.size b2; (try simp at q_b2); repeat (first | exact Below.refl _ _ | (refine Below.trans ?_ (Below.mono hb3 (by first | omega | (simp; omega) | simp))) | (refine Below.trans ?_ (Below.mono b2 (by first | omega | (simp; omega) | simp))) | (refine Below.setCell ?_ (by first | omega | (simp; omega) | simp) _) | (refine Below.alloc ?_ (by first | omega | (simp; omega) | simp) _) | apply Below.drew | apply below_drewN)))
    rw [hk]
    go_wp2_with fail
    refine (rmay_any A s c l _ (hr.on b3 (Nat.le_refl _)) (by omega)).mono ?_
    rintro e w4 ⟨rfl, hb4⟩
    have b4 : Below w.heap.size w w4 := (by (have q_hb4 := Below.size hb4; (try simp at q_hb4); have q_b3 := Below.size b3; (try simp at q_b3); repeat (first | exact Below.refl _ _ | (refine Below.trans ?_ (Below.mono hb4 (by first | omega | (simp; omega) | simp))) | (refine Below.trans ?_ (Below.mono b3 (by first | omega | (simp; omega) | simp))) | (refine Below.setCell ?_ (by first | omega | (simp; omega) | simp) _) | (refine Below.alloc ?_ (by first | omega | (simp; omega) | simp) _) | apply Below.drew | apply below_drewN)))
    have cB := ((B2.on hb3).on hb4).cell
    rw [hk]
    go_wp2_with fail
    refine (step_any A s c l o1 o2 o3 o4 o5 _ (hr.on b4 (Nat.le_refl _)) (by omega) hsc hc ho).mono ?_
    rintro e w5 ⟨A5, c5, l5, rfl, _, _, _, _, hb5⟩
    go_wp2_with fail
    refine (pawake_any _).mono ?_
    rintro e w6 ⟨rfl, hb6⟩
    go_wp2_with fail
    go_ret
    exact ⟨rfl, (by (have q_hb6 := Below.size hb6; (try simp at q_hb6); have q_hb5 := Below.size hb5; (try simp at q_hb5); have q_b4 := Below.size b4; (try simp at q_b4); repeat (first | exact Below.refl _ _ | (refine Below.trans ?_ (Below.mono hb6 (by first | omega | (simp; omega) | simp))) | (refine Below.trans ?_ (Below.mono hb5 (by first | omega | (simp; omega) | simp))) | (refine Below.trans ?_ (Below.mono b4 (by first | omega | (simp; omega) | simp))) | (refine Below.setCell ?_ (by first | omega | (simp; omega) | simp) _) | (refine Below.alloc ?_ (by first | omega | (simp; omega) | simp) _) | apply Below.drew | apply below_drewN)))⟩

/-- What holds of the pages under way. -/
def PlayI (w : World) (m : Nat) (v : Value) (wr : World) : Prop := ∃ A c l, v = .slice A m c ∧ RdG pgE wr A m l ∧ okL l = true ∧ m ≤ c ∧ c ≤ maxLen ∧ Below w.heap.size w wr

set_option maxRecDepth 100000 in
set_option maxHeartbeats 8000000 in
theorem law_plays (y : UInt8) (A : Option Addr) (n c : Nat) (l : List Pg) (w : World) (hr : RdG pgE w A n l) (hnc : n ≤ c) (_hc : c ≤ maxLen) (ho : ∀ a ∈ l, inPg a) :
    Calls Try.prog 4 #[.int .u8 (y.toNat : Int), .slice A n c] w fun e w' => e = .returned (.bool true) ∧ Below w.heap.size w w' := by
  obtain ⟨m, hm⟩ : ∃ m, m = y.toNat % 65 := ⟨_, rfl⟩
  have hm64 : m ≤ 64 := by omega
  have e2 : ((y.toNat : Nat) : Int).tmod 65 = (m : Int) := by rw [hm]; rfl
  obtain ⟨cs, hmk0, hcs⟩ := make_pages (P := Try.prog) Try.underlying22 infoRP .i64 .i64 m (by omega) w
  have hmk : (Instr.makeSlice 22 (.int .i64 (m : Int)) (.int .i64 (m : Int))).run Try.prog w = .ok (.slice (some ⟨w.heap.size, 0, none⟩) m m) (w.alloc (.cells cs 33)) := hmk0
  clear hmk0
  have F0 : FreshG pgE 33 w.heap.size (w.alloc (.cells cs 33)) (.slice (some ⟨w.heap.size, 0, none⟩) m m) (List.replicate m zeroPg) := FreshG.of_blk (Blk.new _ _ _) (Nat.le_refl _) (by unfold maxLen; omega) (by simp) hcs
  have I0 : PlayI w m (.slice (some ⟨w.heap.size, 0, none⟩) m m) (w.alloc (.cells cs 33)) := by
    obtain ⟨A, c, e, hR, _, h1, h2⟩ := F0.rdn m (by simp)
    exact ⟨A, c, _, e, hR, okL_zero m hm64, h1, h2, (by (repeat (first | exact Below.refl _ _ | (refine Below.setCell ?_ (by first | omega | (simp; omega) | simp) _) | (refine Below.alloc ?_ (by first | omega | (simp; omega) | simp) _) | apply Below.drew | apply below_drewN)))⟩
  clear hcs F0 hm
  have hw64 : wrap64 (y.toNat : Int) = (y.toNat : Int) := IntWalk.wrap64_in _ (by have := y.toNat_lt; omega)
  unfold maxLen at _hc
  go_enter Try.func4, Try.ntmps4
  go_wp2_with fail
  clear hmk e2 hw64
  go_loopw [5, 6, 15] (fun v k i wr => ∃ j : Nat, j ≤ n ∧ i = .int .i64 j ∧ k = .bool true ∧ PlayI w m v wr) (fun _ _ i _ => n - (intOf i).toNat)
  case atStart => exact ⟨0, by omega, rfl, rfl, I0⟩
  case round =>
    clear I0
    obtain ⟨j, hj, rfl, rfl, Ap, cp, lp, rfl, hRp, hok, hp1, hp2, hbp⟩ := hrel
    by_cases hlt : j < n
    · skip
      obtain ⟨b, off, x, rfl, hb, hx, hcell⟩ := (hr.on hbp (Nat.le_refl _)).at_ hlt
      have c0 := hcell 0 _ rfl
      have c1 := hcell 1 _ rfl
      have c2 := hcell 2 _ rfl
      have c3 := hcell 3 _ rfl
      have c4 := hcell 4 _ rfl
      simp only [show pgE.sz = 5 from rfl, Nat.add_zero] at c0 c1 c2 c3 c4
      have hin := ho x (List.mem_of_getElem? hx)
      obtain ⟨o1, o2, o3, o4, o5⟩ := x
      simp only at c0 c1 c2 c3 c4
      clear hcell hx
      by_cases h40 : j < 40
      · have h40' : (j : Int) < 40 := by omega
        have hltI : (j : Int) < n := by omega
        go_wp2_with fail
        refine (step_any Ap m cp lp o1 o2 o3 o4 o5 _ (hRp.below (by (repeat (first | exact Below.refl _ _ | (refine Below.setCell ?_ (by first | omega | (simp; omega) | simp) _) | (refine Below.alloc ?_ (by first | omega | (simp; omega) | simp) _) | apply Below.drew | apply below_drewN)))) (by omega) hp1 hp2 hin).mono ?_
        rintro e w2 ⟨A2, c2', l2, rfl, hR2, h21, h22, hk2, hb2⟩
        have hI : PlayI w m (.slice A2 m c2') w2 := ⟨A2, c2', l2, rfl, hR2, hk2 hok, h21, h22, (by (have q_hb2 := Below.size hb2; (try simp at q_hb2); have q_hbp := Below.size hbp; (try simp at q_hbp); repeat (first | exact Below.refl _ _ | (refine Below.trans ?_ (Below.mono hb2 (by first | omega | (simp; omega) | simp))) | (refine Below.trans ?_ (Below.mono hbp (by first | omega | (simp; omega) | simp))) | (refine Below.setCell ?_ (by first | omega | (simp; omega) | simp) _) | (refine Below.alloc ?_ (by first | omega | (simp; omega) | simp) _) | apply Below.drew | apply below_drewN)))⟩
        go_wp2_with fail
        go_roundw
        case rel => exact ⟨j + 1, by omega, by go_num, rfl, hI⟩
        case measure => simp [intOf] <;> omega
      · have h40' : ¬ (j : Int) < 40 := by omega
        have h40'' : (40 : Int) ≤ j := by omega
        go_wp2_with fail
        refine (pawake_any _).mono ?_
        rintro e w3 ⟨rfl, hb3⟩
        go_wp2_with fail
        go_ret
        exact ⟨rfl, (by (have q_hb3 := Below.size hb3; (try simp at q_hb3); have q_hbp := Below.size hbp; (try simp at q_hbp); repeat (first | exact Below.refl _ _ | (refine Below.trans ?_ (Below.mono hb3 (by first | omega | (simp; omega) | simp))) | (refine Below.trans ?_ (Below.mono hbp (by first | omega | (simp; omega) | simp))) | (refine Below.setCell ?_ (by first | omega | (simp; omega) | simp) _) | (refine Below.alloc ?_ (by first | omega | (simp; omega) | simp) _) | apply Below.drew | apply below_drewN)))⟩
    · obtain rfl : j = n := by omega
      go_wp2_with fail
      refine (pawake_any _).mono ?_
      rintro e w3 ⟨rfl, hb3⟩
      go_wp2_with fail
      go_ret
      exact ⟨rfl, (by (have q_hb3 := Below.size hb3; (try simp at q_hb3); have q_hbp := Below.size hbp; (try simp at q_hbp); repeat (first | exact Below.refl _ _ | (refine Below.trans ?_ (Below.mono hb3 (by first | omega | (simp; omega) | simp))) | (refine Below.trans ?_ (Below.mono hbp (by first | omega | (simp; omega) | simp))) | (refine Below.setCell ?_ (by first | omega | (simp; omega) | simp) _) | (refine Below.alloc ?_ (by first | omega | (simp; omega) | simp) _) | apply Below.drew | apply below_drewN)))⟩
end Go.Proofs.Ytidlcplamgajpaa
