/- What a block is: the program's answer. -/
import Derived.Test.YthepgnankelmeaaGeom7
namespace Go.Proofs.Ythepgnankelmeaa
open Go.RowKit

/-- The block's kind and number, as geom.Where tells them. -/
def whereI (p t b : Int) : Int × Int :=
  if gmay p t = true ∧ 0 ≤ b then
    if b < 1 then (1, b) else if b < 1 + epochsI p then (2, b - 1) else if b < 1 + epochsI p + sealedI p then (3, b - 1 - epochsI p) else if b < totalI p t then (4, b - 1 - epochsI p - sealedI p) else (0, 0)
  else (0, 0)
/-- What is left of the block's number ahead of kind k. -/
def leftI (p t b : Int) : Nat → Int
  | 0 => b
  | 1 => b - 1
  | 2 => b - 1 - epochsI p
  | 3 => b - 1 - epochsI p - sealedI p
  | _ => b - 1 - epochsI p - sealedI p - (1 + t)

set_option maxHeartbeats 2000000 in
theorem where_bad (p t b : Int) (w : World) (h : gmay p t = false) :
    Calls Try.prog 31 #[.agg #[.int .i64 p, .int .i64 t], .int .i64 b] w fun e w' => e = .returned (.agg #[.int .i64 0, .int .i64 0]) ∧ Below w.heap.size w w' := by
  go_enter Try.func31, Try.ntmps31
  go_wp2_with fail
  refine (check_no p t _ h).mono ?_
  rintro e wa ⟨rfl, hba⟩
  have B1 := ((Blk.new w _ _).alloc _).on hba
  have R1 : Blk wa (w.heap.size + 1) 36 #[.int .i64 0, .int .i64 0] := by simpa using (Blk.new (w.alloc _) _ _).on hba
  have c1 := B1.cell
  have d1 := R1.cell
  have f1 := R1.frozen
  go_wp2_with fail
  have e0 := (R1.set_ 0 (.int .i64 0)).cell 0
  have e1 := ((R1.set_ 0 (.int .i64 0)).set_ 1 (.int .i64 0)).cell 1
  refine bodyPost_ret (v := .agg #[.int .i64 0, .int .i64 0]) (by simp [results, Try.results31, go_sem, e0, e1]) rfl ⟨rfl, (by (have q_hba := Below.size hba; (try simp at q_hba); repeat (first | exact Below.refl _ _ | (refine Below.trans ?_ (Below.mono hba (by first | omega | (simp; omega) | simp))) | (refine Below.setCell ?_ (by first | omega | (simp; omega) | simp) _) | (refine Below.alloc ?_ (by first | omega | (simp; omega) | simp) _) | apply Below.drew | apply below_drewN)))⟩

theorem where0 (p t b : Int) (h : gmay p t = true) (h0 : 0 ≤ b) (h1 : b < 1) : whereI p t b = (1, b) := by
  unfold whereI; rw [if_pos ⟨h, h0⟩, if_pos h1]
theorem where1 (p t b : Int) (h : gmay p t = true) (h0 : 0 ≤ b - 1) (h1 : b - 1 < epochsI p) : whereI p t b = (2, b - 1) := by
  unfold whereI; rw [if_pos ⟨h, by omega⟩, if_neg (by omega), if_pos (by omega)]
theorem where2 (p t b : Int) (h : gmay p t = true) (he : 1 ≤ epochsI p) (h0 : 0 ≤ b - 1 - epochsI p) (h1 : b - 1 - epochsI p < sealedI p) : whereI p t b = (3, b - 1 - epochsI p) := by
  unfold whereI; rw [if_pos ⟨h, by omega⟩, if_neg (by omega), if_neg (by omega), if_pos (by omega)]
theorem where3 (p t b : Int) (h : gmay p t = true) (he : 1 ≤ epochsI p) (hs : 1 ≤ sealedI p) (h0 : 0 ≤ b - 1 - epochsI p - sealedI p) (h1 : b - 1 - epochsI p - sealedI p < 1 + t) : whereI p t b = (4, b - 1 - epochsI p - sealedI p) := by
  unfold whereI totalI; rw [if_pos ⟨h, by omega⟩, if_neg (by omega), if_neg (by omega), if_neg (by omega), if_pos (by omega)]
theorem where4 (p t b : Int) (h : gmay p t = true) (he : 1 ≤ epochsI p) (hs : 1 ≤ sealedI p) (h0 : 0 ≤ b - 1 - epochsI p - sealedI p - (1 + t)) : whereI p t b = (0, 0) := by
  have := gmay_true h
  unfold whereI totalI; rw [if_pos ⟨h, by omega⟩, if_neg (by omega), if_neg (by omega), if_neg (by omega), if_neg (by omega)]
theorem where_neg (p t b : Int) (h : gmay p t = false ∨ b < 0) : whereI p t b = (0, 0) := by
  unfold whereI; rw [if_neg]; rintro ⟨h1, h2⟩; rcases h with h | h; rw [h] at h1; cases h1; omega

set_option maxHeartbeats 2000000 in
theorem where_low (p t b : Int) (w : World) (h : gmay p t = true) (hb : b < 0) :
    Calls Try.prog 31 #[.agg #[.int .i64 p, .int .i64 t], .int .i64 b] w fun e w' => e = .returned (.agg #[.int .i64 0, .int .i64 0]) ∧ Below w.heap.size w w' := by
  go_enter Try.func31, Try.ntmps31
  go_wp2_with fail
  refine (check_yes p t _ h).mono ?_
  rintro e wa ⟨rfl, hba⟩
  have B1 := ((Blk.new w _ _).alloc _).on hba
  have R1 : Blk wa (w.heap.size + 1) 36 #[.int .i64 0, .int .i64 0] := by simpa using (Blk.new (w.alloc _) _ _).on hba
  have c1 := B1.cell
  have d1 := R1.cell
  have f1 := R1.frozen
  go_wp2_with fail
  have e0 := (R1.set_ 0 (.int .i64 0)).cell 0
  have e1 := ((R1.set_ 0 (.int .i64 0)).set_ 1 (.int .i64 0)).cell 1
  refine bodyPost_ret (v := .agg #[.int .i64 0, .int .i64 0]) (by simp [results, Try.results31, go_sem, e0, e1]) rfl ⟨rfl, (by (have q_hba := Below.size hba; (try simp at q_hba); repeat (first | exact Below.refl _ _ | (refine Below.trans ?_ (Below.mono hba (by first | omega | (simp; omega) | simp))) | (refine Below.setCell ?_ (by first | omega | (simp; omega) | simp) _) | (refine Below.alloc ?_ (by first | omega | (simp; omega) | simp) _) | apply Below.drew | apply below_drewN)))⟩

set_option maxRecDepth 100000 in
set_option maxHeartbeats 4000000 in
theorem where_yes (p t b : Int) (w : World) (h : gmay p t = true) (hb : 0 ≤ b) (hb2 : b ≤ 9223372036854775807) :
    Calls Try.prog 31 #[.agg #[.int .i64 p, .int .i64 t], .int .i64 b] w fun e w' => e = .returned (.agg #[.int .i64 (whereI p t b).1, .int .i64 (whereI p t b).2]) ∧ Below w.heap.size w w' := by
  obtain ⟨h1, h2, h3, h4⟩ := gmay_true h
  obtain ⟨m0, m1, s0, s1, e0, e1⟩ := geo_range h1 h2
  obtain ⟨E, hE⟩ : ∃ E, E = epochsI p := ⟨_, rfl⟩
  obtain ⟨S, hS⟩ : ∃ S, S = sealedI p := ⟨_, rfl⟩
  rw [← hE] at e0 e1
  rw [← hS] at s0 s1
  have HE := Lib.hid hE
  have HS := Lib.hid hS
  clear hE hS
  go_enter Try.func31, Try.ntmps31
  go_wp2_with fail
  refine (check_yes p t _ h).mono ?_
  rintro e wa ⟨rfl, hba⟩
  have B1 := ((Blk.new w _ _).alloc _).on hba
  have R1 : Blk wa (w.heap.size + 1) 36 #[.int .i64 0, .int .i64 0] := by simpa using (Blk.new (w.alloc _) _ _).on hba
  have c1 := B1.cell
  have hz1 := R1.lt
  go_wp2_with fail
  refine (kinds_any _).mono ?_
  rintro e wk ⟨rfl, hbk⟩
  have B2 := B1.on hbk
  have R2 := R1.on hbk
  have hbel0 : Below w.heap.size w wk := (by (have q_hbk := Below.size hbk; (try simp at q_hbk); have q_hba := Below.size hba; (try simp at q_hba); repeat (first | exact Below.refl _ _ | (refine Below.trans ?_ (Below.mono hbk (by first | omega | (simp; omega) | simp))) | (refine Below.trans ?_ (Below.mono hba (by first | omega | (simp; omega) | simp))) | (refine Below.setCell ?_ (by first | omega | (simp; omega) | simp) _) | (refine Below.alloc ?_ (by first | omega | (simp; omega) | simp) _) | apply Below.drew | apply below_drewN)))
  clear c1 hz1
  go_wp2_with fail
  go_loopw [1, 17] (fun v i wr => ∃ k : Nat, k ≤ 4 ∧ i = .int .i64 k ∧ v = .int .i64 (match k with | 0 => b | 1 => b - 1 | 2 => b - 1 - E | 3 => b - 1 - E - S | _ => b - 1 - E - S - (1 + t)) ∧ 0 ≤ (match k with | 0 => b | 1 => b - 1 | 2 => b - 1 - E | 3 => b - 1 - E - S | _ => b - 1 - E - S - (1 + t)) ∧ Blk wr w.heap.size 23 #[.int .i64 p, .int .i64 t] ∧ Blk wr (w.heap.size + 1) 36 #[.int .i64 0, .int .i64 0] ∧ Below w.heap.size w wr) (fun _ i _ => 4 - (intOf i).toNat)
  case atStart => exact ⟨0, by omega, rfl, rfl, hb, B2, R2, hbel0⟩
  case round =>
    obtain ⟨k, hk, rfl, rfl, hpos, hB, hR, hbel⟩ := hrel
    have cc := hB.cell
    have dd := hR.cell
    have ff := hR.frozen
    have hzB := hR.lt
    have hcases : k = 0 ∨ k = 1 ∨ k = 2 ∨ k = 3 ∨ k = 4 := by omega
    rcases hcases with rfl | rfl | rfl | rfl | rfl
    · have hpos' : 0 ≤ b := hpos
      clear hpos
      have hi := kx0
      go_wp2_with fail
      refine (supers1_any p t _).mono ?_
      rintro e w1 ⟨rfl, hb1⟩
      have hB1 := hB.on hb1
      have hR1 := hR.on hb1
      have f1 := hR1.frozen
      have d1 := hR1.cell
      rcases Int.lt_or_le (b) (1) with hlt | hge
      · have hres := Lib.hid (show whereI p t b = (1, b) by exact where0 p t b h hpos' hlt)
        go_wp2_with fail
        have e0 := (hR1.set_ 0 (.int .i64 1)).cell 0
        have e1 := ((hR1.set_ 0 (.int .i64 1)).set_ 1 (.int .i64 (b))).cell 1
        refine bodyPost_ret (v := .agg #[.int .i64 1, .int .i64 (b)]) (by simp [results, Try.results31, go_sem, e0, e1]) rfl ⟨by rw [hres.out], (by (have q_hb1 := Below.size hb1; (try simp at q_hb1); have q_hbel := Below.size hbel; (try simp at q_hbel); repeat (first | exact Below.refl _ _ | (refine Below.trans ?_ (Below.mono hb1 (by first | omega | (simp; omega) | simp))) | (refine Below.trans ?_ (Below.mono hbel (by first | omega | (simp; omega) | simp))) | (refine Below.setCell ?_ (by first | omega | (simp; omega) | simp) _) | (refine Below.alloc ?_ (by first | omega | (simp; omega) | simp) _) | apply Below.drew | apply below_drewN)))⟩
      · have hwr : IntKind.i64.wrap (b - 1) = b - 1 := IntWalk.i64_in _ (by omega)
        go_wp2_with fail
        go_roundw
        case rel => exact ⟨1, by omega, by go_num, rfl, by show 0 ≤ b - 1; omega, hB1, hR1, (by (have q_hb1 := Below.size hb1; (try simp at q_hb1); have q_hbel := Below.size hbel; (try simp at q_hbel); repeat (first | exact Below.refl _ _ | (refine Below.trans ?_ (Below.mono hb1 (by first | omega | (simp; omega) | simp))) | (refine Below.trans ?_ (Below.mono hbel (by first | omega | (simp; omega) | simp))) | (refine Below.setCell ?_ (by first | omega | (simp; omega) | simp) _) | (refine Below.alloc ?_ (by first | omega | (simp; omega) | simp) _) | apply Below.drew | apply below_drewN)))⟩
        case measure => simp [intOf]
    · have hpos' : 0 ≤ b - 1 := hpos
      clear hpos
      have hi := kx1
      go_wp2_with fail
      refine (epochs1_any p t _ h1 h2).mono ?_
      rintro e w1 ⟨rfl, hb1⟩
      rw [← HE.out]
      have hB1 := hB.on hb1
      have hR1 := hR.on hb1
      have f1 := hR1.frozen
      have d1 := hR1.cell
      rcases Int.lt_or_le (b - 1) (E) with hlt | hge
      · have hres := Lib.hid (show whereI p t b = (2, b - 1) by rw [HE.out] at hlt; exact where1 p t b h hpos' hlt)
        go_wp2_with fail
        have e0 := (hR1.set_ 0 (.int .i64 2)).cell 0
        have e1 := ((hR1.set_ 0 (.int .i64 2)).set_ 1 (.int .i64 (b - 1))).cell 1
        refine bodyPost_ret (v := .agg #[.int .i64 2, .int .i64 (b - 1)]) (by simp [results, Try.results31, go_sem, e0, e1]) rfl ⟨by rw [hres.out], (by (have q_hb1 := Below.size hb1; (try simp at q_hb1); have q_hbel := Below.size hbel; (try simp at q_hbel); repeat (first | exact Below.refl _ _ | (refine Below.trans ?_ (Below.mono hb1 (by first | omega | (simp; omega) | simp))) | (refine Below.trans ?_ (Below.mono hbel (by first | omega | (simp; omega) | simp))) | (refine Below.setCell ?_ (by first | omega | (simp; omega) | simp) _) | (refine Below.alloc ?_ (by first | omega | (simp; omega) | simp) _) | apply Below.drew | apply below_drewN)))⟩
      · have hwr : IntKind.i64.wrap (b - 1 - E) = b - 1 - E := IntWalk.i64_in _ (by omega)
        go_wp2_with fail
        go_roundw
        case rel => exact ⟨2, by omega, by go_num, rfl, by show 0 ≤ b - 1 - E; omega, hB1, hR1, (by (have q_hb1 := Below.size hb1; (try simp at q_hb1); have q_hbel := Below.size hbel; (try simp at q_hbel); repeat (first | exact Below.refl _ _ | (refine Below.trans ?_ (Below.mono hb1 (by first | omega | (simp; omega) | simp))) | (refine Below.trans ?_ (Below.mono hbel (by first | omega | (simp; omega) | simp))) | (refine Below.setCell ?_ (by first | omega | (simp; omega) | simp) _) | (refine Below.alloc ?_ (by first | omega | (simp; omega) | simp) _) | apply Below.drew | apply below_drewN)))⟩
        case measure => simp [intOf]
    · have hpos' : 0 ≤ b - 1 - E := hpos
      clear hpos
      have hi := kx2
      go_wp2_with fail
      refine (sealed1_any p t _ h1 h2).mono ?_
      rintro e w1 ⟨rfl, hb1⟩
      rw [← HS.out]
      have hB1 := hB.on hb1
      have hR1 := hR.on hb1
      have f1 := hR1.frozen
      have d1 := hR1.cell
      rcases Int.lt_or_le (b - 1 - E) (S) with hlt | hge
      · have hres := Lib.hid (show whereI p t b = (3, b - 1 - E) by rw [HE.out, HS.out] at hlt; rw [HE.out] at hpos' e0 ⊢; exact where2 p t b h e0 hpos' hlt)
        go_wp2_with fail
        have e0 := (hR1.set_ 0 (.int .i64 3)).cell 0
        have e1 := ((hR1.set_ 0 (.int .i64 3)).set_ 1 (.int .i64 (b - 1 - E))).cell 1
        refine bodyPost_ret (v := .agg #[.int .i64 3, .int .i64 (b - 1 - E)]) (by simp [results, Try.results31, go_sem, e0, e1]) rfl ⟨by rw [hres.out], (by (have q_hb1 := Below.size hb1; (try simp at q_hb1); have q_hbel := Below.size hbel; (try simp at q_hbel); repeat (first | exact Below.refl _ _ | (refine Below.trans ?_ (Below.mono hb1 (by first | omega | (simp; omega) | simp))) | (refine Below.trans ?_ (Below.mono hbel (by first | omega | (simp; omega) | simp))) | (refine Below.setCell ?_ (by first | omega | (simp; omega) | simp) _) | (refine Below.alloc ?_ (by first | omega | (simp; omega) | simp) _) | apply Below.drew | apply below_drewN)))⟩
      · have hwr : IntKind.i64.wrap (b - 1 - E - S) = b - 1 - E - S := IntWalk.i64_in _ (by omega)
        go_wp2_with fail
        go_roundw
        case rel => exact ⟨3, by omega, by go_num, rfl, by show 0 ≤ b - 1 - E - S; omega, hB1, hR1, (by (have q_hb1 := Below.size hb1; (try simp at q_hb1); have q_hbel := Below.size hbel; (try simp at q_hbel); repeat (first | exact Below.refl _ _ | (refine Below.trans ?_ (Below.mono hb1 (by first | omega | (simp; omega) | simp))) | (refine Below.trans ?_ (Below.mono hbel (by first | omega | (simp; omega) | simp))) | (refine Below.setCell ?_ (by first | omega | (simp; omega) | simp) _) | (refine Below.alloc ?_ (by first | omega | (simp; omega) | simp) _) | apply Below.drew | apply below_drewN)))⟩
        case measure => simp [intOf]
    · have hpos' : 0 ≤ b - 1 - E - S := hpos
      clear hpos
      have hi := kx3
      go_wp2_with fail
      refine (logs1_any p t _ (by omega) h4).mono ?_
      rintro e w1 ⟨rfl, hb1⟩
      have hB1 := hB.on hb1
      have hR1 := hR.on hb1
      have f1 := hR1.frozen
      have d1 := hR1.cell
      rcases Int.lt_or_le (b - 1 - E - S) ((1 + t)) with hlt | hge
      · have hres := Lib.hid (show whereI p t b = (4, b - 1 - E - S) by rw [HE.out, HS.out] at hlt hpos' ⊢; rw [HE.out] at e0; rw [HS.out] at s0; exact where3 p t b h e0 (by omega) hpos' hlt)
        go_wp2_with fail
        have e0 := (hR1.set_ 0 (.int .i64 4)).cell 0
        have e1 := ((hR1.set_ 0 (.int .i64 4)).set_ 1 (.int .i64 (b - 1 - E - S))).cell 1
        refine bodyPost_ret (v := .agg #[.int .i64 4, .int .i64 (b - 1 - E - S)]) (by simp [results, Try.results31, go_sem, e0, e1]) rfl ⟨by rw [hres.out], (by (have q_hb1 := Below.size hb1; (try simp at q_hb1); have q_hbel := Below.size hbel; (try simp at q_hbel); repeat (first | exact Below.refl _ _ | (refine Below.trans ?_ (Below.mono hb1 (by first | omega | (simp; omega) | simp))) | (refine Below.trans ?_ (Below.mono hbel (by first | omega | (simp; omega) | simp))) | (refine Below.setCell ?_ (by first | omega | (simp; omega) | simp) _) | (refine Below.alloc ?_ (by first | omega | (simp; omega) | simp) _) | apply Below.drew | apply below_drewN)))⟩
      · have hwr : IntKind.i64.wrap (b - 1 - E - S - (1 + t)) = b - 1 - E - S - (1 + t) := IntWalk.i64_in _ (by omega)
        go_wp2_with fail
        go_roundw
        case rel => exact ⟨4, by omega, by go_num, rfl, by show 0 ≤ b - 1 - E - S - (1 + t); omega, hB1, hR1, (by (have q_hb1 := Below.size hb1; (try simp at q_hb1); have q_hbel := Below.size hbel; (try simp at q_hbel); repeat (first | exact Below.refl _ _ | (refine Below.trans ?_ (Below.mono hb1 (by first | omega | (simp; omega) | simp))) | (refine Below.trans ?_ (Below.mono hbel (by first | omega | (simp; omega) | simp))) | (refine Below.setCell ?_ (by first | omega | (simp; omega) | simp) _) | (refine Below.alloc ?_ (by first | omega | (simp; omega) | simp) _) | apply Below.drew | apply below_drewN)))⟩
        case measure => simp [intOf]
    · have hpos' : 0 ≤ b - 1 - E - S - (1 + t) := hpos
      clear hpos
      have hres := Lib.hid (show whereI p t b = (0, 0) by rw [HE.out, HS.out] at hpos'; rw [HE.out] at e0; rw [HS.out] at s0; exact where4 p t b h e0 (by omega) hpos')
      go_wp2_with fail
      have e0 := (hR.set_ 0 (.int .i64 0)).cell 0
      have e1 := ((hR.set_ 0 (.int .i64 0)).set_ 1 (.int .i64 0)).cell 1
      refine bodyPost_ret (v := .agg #[.int .i64 0, .int .i64 0]) (by simp [results, Try.results31, go_sem, e0, e1]) rfl ⟨by rw [hres.out], (by (have q_hbel := Below.size hbel; (try simp at q_hbel); repeat (first | exact Below.refl _ _ | (refine Below.trans ?_ (Below.mono hbel (by first | omega | (simp; omega) | simp))) | (refine Below.setCell ?_ (by first | omega | (simp; omega) | simp) _) | (refine Below.alloc ?_ (by first | omega | (simp; omega) | simp) _) | apply Below.drew | apply below_drewN)))⟩

theorem where_any (p t b : Int) (w : World) (hb2 : b ≤ 9223372036854775807) :
    Calls Try.prog 31 #[.agg #[.int .i64 p, .int .i64 t], .int .i64 b] w fun e w' => e = .returned (.agg #[.int .i64 (whereI p t b).1, .int .i64 (whereI p t b).2]) ∧ Below w.heap.size w w' := by
  cases h : gmay p t
  · rw [where_neg p t b (.inl h)]; exact where_bad p t b w h
  · rcases Int.lt_or_le b 0 with h0 | h0
    · rw [where_neg p t b (.inr h0)]; exact where_low p t b w h h0
    · exact where_yes p t b w h h0 hb2
end Go.Proofs.Ythepgnankelmeaa
