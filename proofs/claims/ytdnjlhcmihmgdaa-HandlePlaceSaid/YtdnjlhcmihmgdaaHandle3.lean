/- The walks of the statements HandleApart, HandleMakes, HandlePlace. -/
import Derived.Test.YtdnjlhcmihmgdaaHandle2
namespace Go.Proofs.Ytdnjlhcmihmgdaa
open Go.RowKit

set_option maxHeartbeats 1000000 in
theorem makes_yes (p s n : Int) (w : World) (h : mayB p s n = true) :
    Calls Try.prog 4 #[.agg #[.int .i64 p, .int .i64 s, .int .u64 n]] w fun e w' => e = .returned (.bool true) ∧ Below w.heap.size w w' := by
  have hr := mk_range p s n h
  obtain ⟨g1, g2, g3⟩ := place_mk p s n h
  obtain ⟨h1, h2, h3, h4, h5, h6⟩ := mayB_true h
  go_enter Try.func4, Try.ntmps4
  go_wp2_with fail
  refine (make_yes _ _ _ _ h).mono ?_
  rintro e w1 ⟨rfl, hb1⟩
  have B1 := (Blk.new w _ _).on hb1
  have c1 := B1.cell
  have z1 := B1.lt
  go_wp2_with fail
  refine (rmay_any _ _ _ _).mono ?_
  rintro e w2 ⟨rfl, hb2⟩
  have B2 := B1.on hb2
  have c2 := B2.cell
  have z2 := B2.lt
  rw [h]
  go_wp2_with fail
  refine (place_yes _ _ (by omega) (by omega) (by rw [g1, g2, g3]; exact h)).mono ?_
  rintro e w3 ⟨rfl, hb3⟩
  have B3 := B2.on hb3
  have c3 := B3.cell
  have z3 := B3.lt
  rw [g1, g2, g3]
  go_wp2_with fail
  refine (rmake_any _ _ _ _ h).mono ?_
  rintro e w4 ⟨rfl, hb4⟩
  have B4 := (B3.alloc _).on hb4
  have c4 := B4.cell
  have D4 := (Blk.new w3 _ _).on hb4
  have d4 := D4.cell
  go_wp2_with fail
  refine (hawake_any _).mono ?_
  rintro e w5 ⟨rfl, hb5⟩
  go_wp2_with fail
  go_ret
  exact ⟨rfl, (by (have q_hb5 := Below.size hb5; (try simp at q_hb5); have q_hb4 := Below.size hb4; (try simp at q_hb4); have q_hb3 := Below.size hb3; (try simp at q_hb3); have q_hb2 := Below.size hb2; (try simp at q_hb2); have q_hb1 := Below.size hb1; (try simp at q_hb1); repeat (first | exact Below.refl _ _ | (refine Below.trans ?_ (Below.mono hb5 (by first | omega | (simp; omega) | simp))) | (refine Below.trans ?_ (Below.mono hb4 (by first | omega | (simp; omega) | simp))) | (refine Below.trans ?_ (Below.mono hb3 (by first | omega | (simp; omega) | simp))) | (refine Below.trans ?_ (Below.mono hb2 (by first | omega | (simp; omega) | simp))) | (refine Below.trans ?_ (Below.mono hb1 (by first | omega | (simp; omega) | simp))) | (refine Below.setCell ?_ (by first | omega | (simp; omega) | simp) _) | (refine Below.alloc ?_ (by first | omega | (simp; omega) | simp) _) | apply Below.drew | apply below_drewN)))⟩

set_option maxHeartbeats 1000000 in
theorem makes_no (p s n : Int) (w : World) (h : mayB p s n = false) :
    Calls Try.prog 4 #[.agg #[.int .i64 p, .int .i64 s, .int .u64 n]] w fun e w' => e = .returned (.bool true) ∧ Below w.heap.size w w' := by
  go_enter Try.func4, Try.ntmps4
  go_wp2_with fail
  refine (make_no _ _ _ _ h).mono ?_
  rintro e w1 ⟨rfl, hb1⟩
  have B1 := (Blk.new w _ _).on hb1
  have c1 := B1.cell
  go_wp2_with fail
  refine (rmay_any _ _ _ _).mono ?_
  rintro e w2 ⟨rfl, hb2⟩
  rw [h]
  go_wp2_with fail
  refine (hawake_any _).mono ?_
  rintro e w5 ⟨rfl, hb5⟩
  go_wp2_with fail
  go_ret
  exact ⟨rfl, (by (have q_hb5 := Below.size hb5; (try simp at q_hb5); have q_hb2 := Below.size hb2; (try simp at q_hb2); have q_hb1 := Below.size hb1; (try simp at q_hb1); repeat (first | exact Below.refl _ _ | (refine Below.trans ?_ (Below.mono hb5 (by first | omega | (simp; omega) | simp))) | (refine Below.trans ?_ (Below.mono hb2 (by first | omega | (simp; omega) | simp))) | (refine Below.trans ?_ (Below.mono hb1 (by first | omega | (simp; omega) | simp))) | (refine Below.setCell ?_ (by first | omega | (simp; omega) | simp) _) | (refine Below.alloc ?_ (by first | omega | (simp; omega) | simp) _) | apply Below.drew | apply below_drewN)))⟩

set_option maxHeartbeats 1000000 in
theorem place_walk_yes (h : Int) (w : World) (h0 : 0 ≤ h) (h1 : h ≤ 18446744073709551615) (hm : mayB (hP h) (hS h) (hN h) = true) :
    Calls Try.prog 5 #[.int .u64 h] w fun e w' => e = .returned (.bool true) ∧ Below w.heap.size w w' := by
  have hk := Lib.hid (mk_place h)
  go_enter Try.func5, Try.ntmps5
  go_wp2_with fail
  refine (place_yes _ _ h0 h1 hm).mono ?_
  rintro e w1 ⟨rfl, hb1⟩
  go_wp2_with fail
  refine (of_yes _ _ h0 h1 hm).mono ?_
  rintro e w2 ⟨rfl, hb2⟩
  have B2 := (Blk.new w1 _ _).on hb2
  have c2 := B2.cell
  have z2 := B2.lt
  go_wp2_with fail
  refine (make_yes _ _ _ _ hm).mono ?_
  rintro e w3 ⟨rfl, hb3⟩
  rw [hk.out]
  go_wp2_with fail
  refine (hawake_any _).mono ?_
  rintro e w5 ⟨rfl, hb5⟩
  go_wp2_with fail
  go_ret
  exact ⟨rfl, (by (have q_hb5 := Below.size hb5; (try simp at q_hb5); have q_hb3 := Below.size hb3; (try simp at q_hb3); have q_hb2 := Below.size hb2; (try simp at q_hb2); have q_hb1 := Below.size hb1; (try simp at q_hb1); repeat (first | exact Below.refl _ _ | (refine Below.trans ?_ (Below.mono hb5 (by first | omega | (simp; omega) | simp))) | (refine Below.trans ?_ (Below.mono hb3 (by first | omega | (simp; omega) | simp))) | (refine Below.trans ?_ (Below.mono hb2 (by first | omega | (simp; omega) | simp))) | (refine Below.trans ?_ (Below.mono hb1 (by first | omega | (simp; omega) | simp))) | (refine Below.setCell ?_ (by first | omega | (simp; omega) | simp) _) | (refine Below.alloc ?_ (by first | omega | (simp; omega) | simp) _) | apply Below.drew | apply below_drewN)))⟩

set_option maxHeartbeats 1000000 in
theorem place_walk_no (h : Int) (w : World) (h0 : 0 ≤ h) (h1 : h ≤ 18446744073709551615) (hm : mayB (hP h) (hS h) (hN h) = false) :
    Calls Try.prog 5 #[.int .u64 h] w fun e w' => e = .returned (.bool true) ∧ Below w.heap.size w w' := by
  go_enter Try.func5, Try.ntmps5
  go_wp2_with fail
  refine (place_no _ _ h0 h1 hm).mono ?_
  rintro e w1 ⟨rfl, hb1⟩
  go_wp2_with fail
  refine (of_no _ _ h0 h1 hm).mono ?_
  rintro e w2 ⟨rfl, hb2⟩
  have B2 := (Blk.new w1 _ _).on hb2
  have c2 := B2.cell
  have z2 := B2.lt
  go_wp2_with fail
  refine (make_no _ _ _ _ (by decide)).mono ?_
  rintro e w3 ⟨rfl, hb3⟩
  go_wp2_with fail
  refine (hawake_any _).mono ?_
  rintro e w5 ⟨rfl, hb5⟩
  go_wp2_with fail
  go_ret
  exact ⟨rfl, (by (have q_hb5 := Below.size hb5; (try simp at q_hb5); have q_hb3 := Below.size hb3; (try simp at q_hb3); have q_hb2 := Below.size hb2; (try simp at q_hb2); have q_hb1 := Below.size hb1; (try simp at q_hb1); repeat (first | exact Below.refl _ _ | (refine Below.trans ?_ (Below.mono hb5 (by first | omega | (simp; omega) | simp))) | (refine Below.trans ?_ (Below.mono hb3 (by first | omega | (simp; omega) | simp))) | (refine Below.trans ?_ (Below.mono hb2 (by first | omega | (simp; omega) | simp))) | (refine Below.trans ?_ (Below.mono hb1 (by first | omega | (simp; omega) | simp))) | (refine Below.setCell ?_ (by first | omega | (simp; omega) | simp) _) | (refine Below.alloc ?_ (by first | omega | (simp; omega) | simp) _) | apply Below.drew | apply below_drewN)))⟩

theorem makes_any (p s n : Int) (w : World) :
    Calls Try.prog 4 #[.agg #[.int .i64 p, .int .i64 s, .int .u64 n]] w fun e w' => e = .returned (.bool true) ∧ Below w.heap.size w w' := by
  cases h : mayB p s n
  · exact makes_no p s n w h
  · exact makes_yes p s n w h

theorem place_walk (h : Int) (w : World) (h0 : 0 ≤ h) (h1 : h ≤ 18446744073709551615) :
    Calls Try.prog 5 #[.int .u64 h] w fun e w' => e = .returned (.bool true) ∧ Below w.heap.size w w' := by
  cases hm : mayB (hP h) (hS h) (hN h)
  · exact place_walk_no h w h0 h1 hm
  · exact place_walk_yes h w h0 h1 hm
end Go.Proofs.Ytdnjlhcmihmgdaa
