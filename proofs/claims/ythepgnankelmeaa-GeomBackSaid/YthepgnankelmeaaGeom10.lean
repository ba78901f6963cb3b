/- The walk of the statement GeomBack. -/
import Derived.Test.YthepgnankelmeaaGeom9
import Derived.Test.YthepgnankelmeaaGeom6
namespace Go.Proofs.Ythepgnankelmeaa
open Go.RowKit

theorem blocks_len_eq (p t : Int) : (blocksL p t).length = if gmay p t = true then (totalI p t).toNat else 0 := by
  unfold blocksL
  split
  · rename_i h
    obtain ⟨h1, h2, h3, h4⟩ := gmay_true h
    obtain ⟨m0, m1, s0, s1, e0, e1⟩ := geo_range h1 h2
    rw [all_len]; unfold totalI; omega
  · rfl
theorem where_out (p t b : Int) (h : b < 0 ∨ ((blocksL p t).length : Int) ≤ b) : whereI p t b = (0, 0) := by
  cases hm : gmay p t
  · exact where_neg p t b (.inl hm)
  · rw [blocks_len_eq, if_pos hm] at h
    obtain ⟨h1, h2, h3, h4⟩ := gmay_true hm
    obtain ⟨m0, m1, s0, s1, e0, e1⟩ := geo_range h1 h2
    rcases h with h | h
    · exact where_neg p t b (.inr h)
    · unfold whereI
      unfold totalI at h ⊢
      split
      · rw [if_neg (by omega), if_neg (by omega), if_neg (by omega), if_neg (by omega)]
      · rfl
theorem where_in (p t : Int) (b : Nat) (h : b < (blocksL p t).length) : (blocksL p t)[b]? = some (whereI p t b) ∧ (whereI p t b = (1, 0) ∧ b = 0 ∨ (∃ y, whereI p t b = (2, y) ∧ eAt p t y = b) ∨ (∃ y, whereI p t b = (3, y) ∧ sAt p t y = b) ∨ (∃ y, whereI p t b = (4, y) ∧ lAt p t y = b)) := by
  rw [blocks_len_eq] at h
  split at h
  · rename_i hm
    obtain ⟨h1, h2, h3, h4⟩ := gmay_true hm
    obtain ⟨m0, m1, s0, s1, e0, e1⟩ := geo_range h1 h2
    unfold totalI at h
    unfold blocksL eAt sAt lAt
    rw [if_pos hm, all_get]
    by_cases c0 : b = 0
    · subst c0
      have e := where0 p t 0 hm (by decide) (by decide)
      exact ⟨by rw [if_pos rfl]; exact congrArg some e.symm, .inl ⟨e, rfl⟩⟩
    · rw [if_neg c0]
      by_cases c1 : b < 1 + (epochsI p).toNat
      · rw [if_pos c1, where1 p t b hm (by omega) (by omega)]
        exact ⟨by congr 2; omega, .inr (.inl ⟨_, rfl, by rw [if_pos ⟨hm, by omega, by omega⟩]; simp only [aheadI]; omega⟩)⟩
      · rw [if_neg c1]
        by_cases c2 : b < 1 + (epochsI p).toNat + (sealedI p).toNat
        · rw [if_pos c2, where2 p t b hm e0 (by omega) (by omega)]
          exact ⟨by congr 2; omega, .inr (.inr (.inl ⟨_, rfl, by rw [if_pos ⟨hm, by omega, by omega⟩]; simp only [aheadI]; omega⟩))⟩
        · rw [if_neg c2, if_pos (by omega), where3 p t b hm e0 (by omega) (by omega) (by omega)]
          exact ⟨by congr 2; omega, .inr (.inr (.inr ⟨_, rfl, by rw [if_pos ⟨hm, by omega, by omega⟩]; simp only [aheadI]; omega⟩))⟩
  · omega

set_option maxRecDepth 100000 in
set_option maxHeartbeats 4000000 in
theorem law_back_out (p t b : Int) (w : World) (hb1 : b ≤ 9223372036854775807) (hout : b < 0 ∨ ((blocksL p t).length : Int) ≤ b) :
    Calls Try.prog 5 #[.agg #[.int .i64 p, .int .i64 t], .int .i64 b] w fun e w' => e = .returned (.bool true) ∧ Below w.heap.size w w' := by
  have hW := Lib.hid (where_out p t b hout)
  have hlen := blocks_len p t
  obtain ⟨n, hn⟩ : ∃ n, n = (blocksL p t).length := ⟨_, rfl⟩
  rw [← hn] at hout hlen
  have HN := Lib.hid hn
  clear hn
  go_enter Try.func5, Try.ntmps5
  go_wp2_with fail
  refine (where_any p t b _ hb1).mono ?_
  rintro e wa ⟨rfl, hba⟩
  rw [hW.out]
  have B1 := (Blk.new w _ _).on hba
  have c1 := B1.cell
  have z1 := B1.lt
  go_wp2_with fail
  refine (all_any p t _).mono ?_
  rintro e wc ⟨r, rfl, hF, hbc⟩
  obtain ⟨A, c, rfl, hR, _, hnc, hcm⟩ := hF.rdn n HN.out.symm
  have P1 : Blk wc wa.heap.size 36 #[.int .i64 0, .int .i64 0] := (Blk.new wa _ _).on hbc
  have c2 := P1.cell
  clear hF
  rcases hout with h | h
  all_goals
    go_wp2_with fail
    refine (gawake_any _).mono ?_
    rintro e w3 ⟨rfl, hb3⟩
    go_wp2_with fail
    go_ret
    exact ⟨rfl, (by (have q_hb3 := Below.size hb3; (try simp at q_hb3); have q_hbc := Below.size hbc; (try simp at q_hbc); have q_hba := Below.size hba; (try simp at q_hba); repeat (first | exact Below.refl _ _ | (refine Below.trans ?_ (Below.mono hb3 (by first | omega | (simp; omega) | simp))) | (refine Below.trans ?_ (Below.mono hbc (by first | omega | (simp; omega) | simp))) | (refine Below.trans ?_ (Below.mono hba (by first | omega | (simp; omega) | simp))) | (refine Below.setCell ?_ (by first | omega | (simp; omega) | simp) _) | (refine Below.alloc ?_ (by first | omega | (simp; omega) | simp) _) | apply Below.drew | apply below_drewN)))⟩

set_option maxRecDepth 100000 in
set_option maxHeartbeats 4000000 in
theorem law_back_k1 (p t : Int) (w : World) (hin : 0 < (blocksL p t).length) (hw : whereI p t 0 = (1, 0)) (hx : (blocksL p t)[0]? = some (1, 0)) :
    Calls Try.prog 5 #[.agg #[.int .i64 p, .int .i64 t], .int .i64 0] w fun e w' => e = .returned (.bool true) ∧ Below w.heap.size w w' := by
  have hW := Lib.hid hw
  have HX := Lib.hid hx
  clear hw hx
  have hlen := blocks_len p t
  obtain ⟨n, hn⟩ : ∃ n, n = (blocksL p t).length := ⟨_, rfl⟩
  rw [← hn] at hin hlen
  have HN := Lib.hid hn
  clear hn
  go_enter Try.func5, Try.ntmps5
  go_wp2_with fail
  refine (where_any p t 0 _ (by decide)).mono ?_
  rintro e wa ⟨rfl, hba⟩
  rw [hW.out]
  have B1 := (Blk.new w _ _).on hba
  have c1 := B1.cell
  have z1 := B1.lt
  go_wp2_with fail
  refine (all_any p t _).mono ?_
  rintro e wc ⟨r, rfl, hF, hbc⟩
  obtain ⟨A, c, rfl, hR, _, hnc, hcm⟩ := hF.rdn n HN.out.symm
  have P1 : Blk wc wa.heap.size 36 #[.int .i64 1, .int .i64 0] := (Blk.new wa _ _).on hbc
  have B2 := ((B1.alloc _).on hbc)
  have c2 := P1.cell
  have c3 := B2.cell
  obtain ⟨g, off, x, rfl, hbl, hx, hc⟩ := hR.at_ hin
  obtain rfl : x = (1, 0) := by rw [HX.out] at hx; exact (Option.some.inj hx).symm
  have c4 := hc 0 _ rfl
  have c5 := hc 1 _ rfl
  simp only [show pairE.sz = 2 from rfl, Nat.add_zero, Nat.zero_mul] at c4 c5
  clear hF hc hx c1 z1 hR
  have hlt : (0 : Int) < (n : Int) := by omega
  go_wp2_with fail
  go_quiet (fail)
  go_wp2_with fail
  refine (gawake_any _).mono ?_
  rintro e w3 ⟨rfl, hb3⟩
  go_wp2_with fail
  go_ret
  exact ⟨rfl, (by (have q_hb3 := Below.size hb3; (try simp at q_hb3); have q_hbc := Below.size hbc; (try simp at q_hbc); have q_hba := Below.size hba; (try simp at q_hba); repeat (first | exact Below.refl _ _ | (refine Below.trans ?_ (Below.mono hb3 (by first | omega | (simp; omega) | simp))) | (refine Below.trans ?_ (Below.mono hbc (by first | omega | (simp; omega) | simp))) | (refine Below.trans ?_ (Below.mono hba (by first | omega | (simp; omega) | simp))) | (refine Below.setCell ?_ (by first | omega | (simp; omega) | simp) _) | (refine Below.alloc ?_ (by first | omega | (simp; omega) | simp) _) | apply Below.drew | apply below_drewN)))⟩

set_option maxRecDepth 100000 in
set_option maxHeartbeats 4000000 in
theorem law_back_k2 (p t : Int) (y : Int) (b : Nat) (w : World) (hb1 : (b : Int) ≤ 9223372036854775807) (hin : b < (blocksL p t).length) (hw : whereI p t b = (2, y)) (hx : (blocksL p t)[b]? = some (2, y)) (he : eAt p t y = b) :
    Calls Try.prog 5 #[.agg #[.int .i64 p, .int .i64 t], .int .i64 b] w fun e w' => e = .returned (.bool true) ∧ Below w.heap.size w w' := by
  have hW := Lib.hid hw
  have HX := Lib.hid hx
  clear hw hx
  have HE := Lib.hid he
  clear he
  have hlen := blocks_len p t
  obtain ⟨n, hn⟩ : ∃ n, n = (blocksL p t).length := ⟨_, rfl⟩
  rw [← hn] at hin hlen
  have HN := Lib.hid hn
  clear hn
  go_enter Try.func5, Try.ntmps5
  go_wp2_with fail
  refine (where_any p t b _ hb1).mono ?_
  rintro e wa ⟨rfl, hba⟩
  rw [hW.out]
  have B1 := (Blk.new w _ _).on hba
  have c1 := B1.cell
  have z1 := B1.lt
  go_wp2_with fail
  refine (all_any p t _).mono ?_
  rintro e wc ⟨r, rfl, hF, hbc⟩
  obtain ⟨A, c, rfl, hR, _, hnc, hcm⟩ := hF.rdn n HN.out.symm
  have P1 : Blk wc wa.heap.size 36 #[.int .i64 2, .int .i64 y] := (Blk.new wa _ _).on hbc
  have B2 := ((B1.alloc _).on hbc)
  have c2 := P1.cell
  have c3 := B2.cell
  obtain ⟨g, off, x, rfl, hbl, hx, hc⟩ := hR.at_ hin
  obtain rfl : x = (2, y) := by rw [HX.out] at hx; exact (Option.some.inj hx).symm
  have c4 := hc 0 _ rfl
  have c5 := hc 1 _ rfl
  simp only [show pairE.sz = 2 from rfl, Nat.add_zero] at c4 c5
  clear hF hc hx c1 z1 hR
  have hge : (0 : Int) ≤ (b : Int) := by omega
  have hlt : (b : Int) < (n : Int) := by omega
  go_wp2_with fail
  go_quiet (fail)
  go_wp2_with fail
  refine (eAt_any p t y _).mono ?_
  rintro e w2 ⟨rfl, hb2⟩
  rw [HE.out]
  go_wp2_with fail
  refine (gawake_any _).mono ?_
  rintro e w3 ⟨rfl, hb3⟩
  go_wp2_with fail
  go_ret
  exact ⟨rfl, (by (have q_hb3 := Below.size hb3; (try simp at q_hb3); have q_hb2 := Below.size hb2; (try simp at q_hb2); have q_hbc := Below.size hbc; (try simp at q_hbc); have q_hba := Below.size hba; (try simp at q_hba); repeat (first | exact Below.refl _ _ | (refine Below.trans ?_ (Below.mono hb3 (by first | omega | (simp; omega) | simp))) | (refine Below.trans ?_ (Below.mono hb2 (by first | omega | (simp; omega) | simp))) | (refine Below.trans ?_ (Below.mono hbc (by first | omega | (simp; omega) | simp))) | (refine Below.trans ?_ (Below.mono hba (by first | omega | (simp; omega) | simp))) | (refine Below.setCell ?_ (by first | omega | (simp; omega) | simp) _) | (refine Below.alloc ?_ (by first | omega | (simp; omega) | simp) _) | apply Below.drew | apply below_drewN)))⟩

set_option maxRecDepth 100000 in
set_option maxHeartbeats 4000000 in
theorem law_back_k3 (p t : Int) (y : Int) (b : Nat) (w : World) (hb1 : (b : Int) ≤ 9223372036854775807) (hin : b < (blocksL p t).length) (hw : whereI p t b = (3, y)) (hx : (blocksL p t)[b]? = some (3, y)) (he : sAt p t y = b) :
    Calls Try.prog 5 #[.agg #[.int .i64 p, .int .i64 t], .int .i64 b] w fun e w' => e = .returned (.bool true) ∧ Below w.heap.size w w' := by
  have hW := Lib.hid hw
  have HX := Lib.hid hx
  clear hw hx
  have HE := Lib.hid he
  clear he
  have hlen := blocks_len p t
  obtain ⟨n, hn⟩ : ∃ n, n = (blocksL p t).length := ⟨_, rfl⟩
  rw [← hn] at hin hlen
  have HN := Lib.hid hn
  clear hn
  go_enter Try.func5, Try.ntmps5
  go_wp2_with fail
  refine (where_any p t b _ hb1).mono ?_
  rintro e wa ⟨rfl, hba⟩
  rw [hW.out]
  have B1 := (Blk.new w _ _).on hba
  have c1 := B1.cell
  have z1 := B1.lt
  go_wp2_with fail
  refine (all_any p t _).mono ?_
  rintro e wc ⟨r, rfl, hF, hbc⟩
  obtain ⟨A, c, rfl, hR, _, hnc, hcm⟩ := hF.rdn n HN.out.symm
  have P1 : Blk wc wa.heap.size 36 #[.int .i64 3, .int .i64 y] := (Blk.new wa _ _).on hbc
  have B2 := ((B1.alloc _).on hbc)
  have c2 := P1.cell
  have c3 := B2.cell
  obtain ⟨g, off, x, rfl, hbl, hx, hc⟩ := hR.at_ hin
  obtain rfl : x = (3, y) := by rw [HX.out] at hx; exact (Option.some.inj hx).symm
  have c4 := hc 0 _ rfl
  have c5 := hc 1 _ rfl
  simp only [show pairE.sz = 2 from rfl, Nat.add_zero] at c4 c5
  clear hF hc hx c1 z1 hR
  have hge : (0 : Int) ≤ (b : Int) := by omega
  have hlt : (b : Int) < (n : Int) := by omega
  go_wp2_with fail
  go_quiet (fail)
  go_wp2_with fail
  refine (sAt_any p t y _).mono ?_
  rintro e w2 ⟨rfl, hb2⟩
  rw [HE.out]
  go_wp2_with fail
  refine (gawake_any _).mono ?_
  rintro e w3 ⟨rfl, hb3⟩
  go_wp2_with fail
  go_ret
  exact ⟨rfl, (by (have q_hb3 := Below.size hb3; (try simp at q_hb3); have q_hb2 := Below.size hb2; (try simp at q_hb2); have q_hbc := Below.size hbc; (try simp at q_hbc); have q_hba := Below.size hba; (try simp at q_hba); repeat (first | exact Below.refl _ _ | (refine Below.trans ?_ (Below.mono hb3 (by first | omega | (simp; omega) | simp))) | (refine Below.trans ?_ (Below.mono hb2 (by first | omega | (simp; omega) | simp))) | (refine Below.trans ?_ (Below.mono hbc (by first | omega | (simp; omega) | simp))) | (refine Below.trans ?_ (Below.mono hba (by first | omega | (simp; omega) | simp))) | (refine Below.setCell ?_ (by first | omega | (simp; omega) | simp) _) | (refine Below.alloc ?_ (by first | omega | (simp; omega) | simp) _) | apply Below.drew | apply below_drewN)))⟩

set_option maxRecDepth 100000 in
set_option maxHeartbeats 4000000 in
theorem law_back_k4 (p t : Int) (y : Int) (b : Nat) (w : World) (hb1 : (b : Int) ≤ 9223372036854775807) (hin : b < (blocksL p t).length) (hw : whereI p t b = (4, y)) (hx : (blocksL p t)[b]? = some (4, y)) (he : lAt p t y = b) :
    Calls Try.prog 5 #[.agg #[.int .i64 p, .int .i64 t], .int .i64 b] w fun e w' => e = .returned (.bool true) ∧ Below w.heap.size w w' := by
  have hW := Lib.hid hw
  have HX := Lib.hid hx
  clear hw hx
  have HE := Lib.hid he
  clear he
  have hlen := blocks_len p t
  obtain ⟨n, hn⟩ : ∃ n, n = (blocksL p t).length := ⟨_, rfl⟩
  rw [← hn] at hin hlen
  have HN := Lib.hid hn
  clear hn
  go_enter Try.func5, Try.ntmps5
  go_wp2_with fail
  refine (where_any p t b _ hb1).mono ?_
  rintro e wa ⟨rfl, hba⟩
  rw [hW.out]
  have B1 := (Blk.new w _ _).on hba
  have c1 := B1.cell
  have z1 := B1.lt
  go_wp2_with fail
  refine (all_any p t _).mono ?_
  rintro e wc ⟨r, rfl, hF, hbc⟩
  obtain ⟨A, c, rfl, hR, _, hnc, hcm⟩ := hF.rdn n HN.out.symm
  have P1 : Blk wc wa.heap.size 36 #[.int .i64 4, .int .i64 y] := (Blk.new wa _ _).on hbc
  have B2 := ((B1.alloc _).on hbc)
  have c2 := P1.cell
  have c3 := B2.cell
  obtain ⟨g, off, x, rfl, hbl, hx, hc⟩ := hR.at_ hin
  obtain rfl : x = (4, y) := by rw [HX.out] at hx; exact (Option.some.inj hx).symm
  have c4 := hc 0 _ rfl
  have c5 := hc 1 _ rfl
  simp only [show pairE.sz = 2 from rfl, Nat.add_zero] at c4 c5
  clear hF hc hx c1 z1 hR
  have hge : (0 : Int) ≤ (b : Int) := by omega
  have hlt : (b : Int) < (n : Int) := by omega
  go_wp2_with fail
  go_quiet (fail)
  go_wp2_with fail
  refine (lAt_any p t y _).mono ?_
  rintro e w2 ⟨rfl, hb2⟩
  rw [HE.out]
  go_wp2_with fail
  refine (gawake_any _).mono ?_
  rintro e w3 ⟨rfl, hb3⟩
  go_wp2_with fail
  go_ret
  exact ⟨rfl, (by (have q_hb3 := Below.size hb3; (try simp at q_hb3); have q_hb2 := Below.size hb2; (try simp at q_hb2); have q_hbc := Below.size hbc; (try simp at q_hbc); have q_hba := Below.size hba; (try simp at q_hba); repeat (first | exact Below.refl _ _ | (refine Below.trans ?_ (Below.mono hb3 (by first | omega | (simp; omega) | simp))) | (refine Below.trans ?_ (Below.mono hb2 (by first | omega | (simp; omega) | simp))) | (refine Below.trans ?_ (Below.mono hbc (by first | omega | (simp; omega) | simp))) | (refine Below.trans ?_ (Below.mono hba (by first | omega | (simp; omega) | simp))) | (refine Below.setCell ?_ (by first | omega | (simp; omega) | simp) _) | (refine Below.alloc ?_ (by first | omega | (simp; omega) | simp) _) | apply Below.drew | apply below_drewN)))⟩

theorem law_back (p t b : Int) (w : World) (hb1 : b ≤ 9223372036854775807) :
    Calls Try.prog 5 #[.agg #[.int .i64 p, .int .i64 t], .int .i64 b] w fun e w' => e = .returned (.bool true) ∧ Below w.heap.size w w' := by
  by_cases hout : b < 0 ∨ ((blocksL p t).length : Int) ≤ b
  · exact law_back_out p t b w hb1 hout
  · obtain ⟨n, rfl⟩ := Int.eq_ofNat_of_zero_le (show 0 ≤ b by omega)
    have hin : n < (blocksL p t).length := by omega
    obtain ⟨hx, ⟨hw, h0⟩ | ⟨y, hw, he⟩ | ⟨y, hw, he⟩ | ⟨y, hw, he⟩⟩ := where_in p t n hin
    · subst h0; rw [hw] at hx; exact law_back_k1 p t w hin hw hx
    · rw [hw] at hx; exact law_back_k2 p t y n w hb1 hin hw hx he
    · rw [hw] at hx; exact law_back_k3 p t y n w hb1 hin hw hx he
    · rw [hw] at hx; exact law_back_k4 p t y n w hb1 hin hw hx he
end Go.Proofs.Ythepgnankelmeaa
