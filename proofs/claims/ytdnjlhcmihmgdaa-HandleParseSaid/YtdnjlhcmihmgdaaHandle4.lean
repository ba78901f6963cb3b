/- The walk of the statement HandleApart. -/
import Derived.Test.YtdnjlhcmihmgdaaHandle2
namespace Go.Proofs.Ytdnjlhcmihmgdaa
open Go.RowKit

theorem mk_inj (p s n p' s' n' : Int) (h : mayB p s n = true) (h' : mayB p' s' n' = true) (e : mk p s n = mk p' s' n') : p = p' ∧ s = s' ∧ n = n' := by
  obtain ⟨a1, a2, a3⟩ := place_mk p s n h
  obtain ⟨b1, b2, b3⟩ := place_mk p' s' n' h'
  rw [e] at a1 a2 a3
  omega

set_option maxHeartbeats 1000000 in
theorem apart_no1 (p s n p' s' n' : Int) (w : World) (h : mayB p s n = false) (e' : Int) (m' : Int)
    (hmk : ∀ W : World, Calls Try.prog 15 #[.agg #[.int .i64 p', .int .i64 s', .int .u64 n']] W fun e w' => e = .returned (.tuple #[.int .u64 m', .int .i64 e']) ∧ Below W.heap.size W w') :
    Calls Try.prog 3 #[.agg #[.int .i64 p, .int .i64 s, .int .u64 n], .agg #[.int .i64 p', .int .i64 s', .int .u64 n']] w fun e w' => e = .returned (.bool true) ∧ Below w.heap.size w w' := by
  have hmk' := Lib.hid hmk
  clear hmk
  go_enter Try.func3, Try.ntmps3
  go_wp2_with fail
  refine (make_no _ _ _ _ h).mono ?_
  rintro e w1 ⟨rfl, hb1⟩
  have B1 := ((Blk.new w _ _).alloc _).on hb1
  have c1 := B1.cell
  have z1 := B1.lt
  have D1 := (Blk.new (w.alloc _) _ _).on hb1
  have d1 := D1.cell
  simp only [World.size_alloc] at d1
  go_wp2_with fail
  refine (hmk'.out _).mono ?_
  rintro e w2 ⟨rfl, hb2⟩
  have B2 := B1.on hb2
  have c2 := B2.cell
  go_wp2_with fail
  refine (rmay_any _ _ _ _).mono ?_
  rintro e w3 ⟨rfl, hb3⟩
  rw [h]
  go_wp2_with fail
  refine (hawake_any _).mono ?_
  rintro e w5 ⟨rfl, hb5⟩
  go_wp2_with fail
  go_ret
  exact ⟨rfl, (by (have q_hb5 := Below.size hb5; (try simp at q_hb5); have q_hb3 := Below.size hb3; (try simp at q_hb3); have q_hb2 := Below.size hb2; (try simp at q_hb2); have q_hb1 := Below.size hb1; (try simp at q_hb1); repeat (first | exact Below.refl _ _ | (refine Below.trans ?_ (Below.mono hb5 (by first | omega | (simp; omega) | simp))) | (refine Below.trans ?_ (Below.mono hb3 (by first | omega | (simp; omega) | simp))) | (refine Below.trans ?_ (Below.mono hb2 (by first | omega | (simp; omega) | simp))) | (refine Below.trans ?_ (Below.mono hb1 (by first | omega | (simp; omega) | simp))) | (refine Below.setCell ?_ (by first | omega | (simp; omega) | simp) _) | (refine Below.alloc ?_ (by first | omega | (simp; omega) | simp) _) | apply Below.drew | apply below_drewN)))⟩

set_option maxHeartbeats 1000000 in
theorem apart_no2 (p s n p' s' n' : Int) (w : World) (h : mayB p s n = true) (h' : mayB p' s' n' = false) :
    Calls Try.prog 3 #[.agg #[.int .i64 p, .int .i64 s, .int .u64 n], .agg #[.int .i64 p', .int .i64 s', .int .u64 n']] w fun e w' => e = .returned (.bool true) ∧ Below w.heap.size w w' := by
  go_enter Try.func3, Try.ntmps3
  go_wp2_with fail
  refine (make_yes _ _ _ _ h).mono ?_
  rintro e w1 ⟨rfl, hb1⟩
  have B1 := ((Blk.new w _ _).alloc _).on hb1
  have c1 := B1.cell
  have z1 := B1.lt
  have D1 := (Blk.new (w.alloc _) _ _).on hb1
  have d1 := D1.cell
  simp only [World.size_alloc] at d1
  go_wp2_with fail
  refine (make_no _ _ _ _ h').mono ?_
  rintro e w2 ⟨rfl, hb2⟩
  have c2 := (B1.on hb2).cell
  have d2 := (D1.on hb2).cell
  simp only [World.size_alloc] at d2
  go_wp2_with fail
  refine (rmay_any _ _ _ _).mono ?_
  rintro e w3 ⟨rfl, hb3⟩
  have d3 := ((D1.on hb2).on hb3).cell
  simp only [World.size_alloc] at d3
  rw [h]
  go_wp2_with fail
  refine (rmay_any _ _ _ _).mono ?_
  rintro e w4 ⟨rfl, hb4⟩
  rw [h']
  go_wp2_with fail
  refine (hawake_any _).mono ?_
  rintro e w5 ⟨rfl, hb5⟩
  go_wp2_with fail
  go_ret
  exact ⟨rfl, (by (have q_hb5 := Below.size hb5; (try simp at q_hb5); have q_hb4 := Below.size hb4; (try simp at q_hb4); have q_hb3 := Below.size hb3; (try simp at q_hb3); have q_hb2 := Below.size hb2; (try simp at q_hb2); have q_hb1 := Below.size hb1; (try simp at q_hb1); repeat (first | exact Below.refl _ _ | (refine Below.trans ?_ (Below.mono hb5 (by first | omega | (simp; omega) | simp))) | (refine Below.trans ?_ (Below.mono hb4 (by first | omega | (simp; omega) | simp))) | (refine Below.trans ?_ (Below.mono hb3 (by first | omega | (simp; omega) | simp))) | (refine Below.trans ?_ (Below.mono hb2 (by first | omega | (simp; omega) | simp))) | (refine Below.trans ?_ (Below.mono hb1 (by first | omega | (simp; omega) | simp))) | (refine Below.setCell ?_ (by first | omega | (simp; omega) | simp) _) | (refine Below.alloc ?_ (by first | omega | (simp; omega) | simp) _) | apply Below.drew | apply below_drewN)))⟩

set_option maxHeartbeats 1000000 in
theorem apart_same (p s n : Int) (w : World) (h : mayB p s n = true) :
    Calls Try.prog 3 #[.agg #[.int .i64 p, .int .i64 s, .int .u64 n], .agg #[.int .i64 p, .int .i64 s, .int .u64 n]] w fun e w' => e = .returned (.bool true) ∧ Below w.heap.size w w' := by
  have hr := mk_range p s n h
  have hz : (mk p s n != 0) = true := by rw [bne_iff_ne]; omega
  go_enter Try.func3, Try.ntmps3
  go_wp2_with fail
  refine (make_yes _ _ _ _ h).mono ?_
  rintro e w1 ⟨rfl, hb1⟩
  have B1 := ((Blk.new w _ _).alloc _).on hb1
  have c1 := B1.cell
  have z1 := B1.lt
  have D1 := (Blk.new (w.alloc _) _ _).on hb1
  have d1 := D1.cell
  simp only [World.size_alloc] at d1
  go_wp2_with fail
  refine (make_yes _ _ _ _ h).mono ?_
  rintro e w2 ⟨rfl, hb2⟩
  have c2 := (B1.on hb2).cell
  have d2 := (D1.on hb2).cell
  simp only [World.size_alloc] at d2
  go_wp2_with fail
  refine (hawake_any _).mono ?_
  rintro e w5 ⟨rfl, hb5⟩
  go_wp2_with fail
  go_ret
  exact ⟨rfl, (by (have q_hb5 := Below.size hb5; (try simp at q_hb5); have q_hb2 := Below.size hb2; (try simp at q_hb2); have q_hb1 := Below.size hb1; (try simp at q_hb1); repeat (first | exact Below.refl _ _ | (refine Below.trans ?_ (Below.mono hb5 (by first | omega | (simp; omega) | simp))) | (refine Below.trans ?_ (Below.mono hb2 (by first | omega | (simp; omega) | simp))) | (refine Below.trans ?_ (Below.mono hb1 (by first | omega | (simp; omega) | simp))) | (refine Below.setCell ?_ (by first | omega | (simp; omega) | simp) _) | (refine Below.alloc ?_ (by first | omega | (simp; omega) | simp) _) | apply Below.drew | apply below_drewN)))⟩

set_option maxHeartbeats 1000000 in
theorem apart_other (p s n p' s' n' : Int) (w : World) (h : mayB p s n = true) (h' : mayB p' s' n' = true) (ne : (p == p') = false ∨ ((p == p') = true ∧ (s == s') = false) ∨ ((p == p') = true ∧ (s == s') = true ∧ (n == n') = false)) :
    Calls Try.prog 3 #[.agg #[.int .i64 p, .int .i64 s, .int .u64 n], .agg #[.int .i64 p', .int .i64 s', .int .u64 n']] w fun e w' => e = .returned (.bool true) ∧ Below w.heap.size w w' := by
  have hr := mk_range p s n h
  have hz : (mk p s n != 0) = true := by rw [bne_iff_ne]; omega
  have hd : (mk p s n == mk p' s' n') = false := by
    rw [beq_eq_false_iff_ne]
    intro e
    obtain ⟨rfl, rfl, rfl⟩ := mk_inj _ _ _ _ _ _ h h' e
    simp at ne
  rcases ne with n1 | ⟨n1, n2⟩ | ⟨n1, n2, n3⟩
  all_goals
    go_enter Try.func3, Try.ntmps3
    go_wp2_with fail
    refine (make_yes _ _ _ _ h).mono ?_
    rintro e w1 ⟨rfl, hb1⟩
    have B1 := ((Blk.new w _ _).alloc _).on hb1
    have c1 := B1.cell
    have z1 := B1.lt
    have D1 := (Blk.new (w.alloc _) _ _).on hb1
    have d1 := D1.cell
    simp only [World.size_alloc] at d1
    go_wp2_with fail
    refine (make_yes _ _ _ _ h').mono ?_
    rintro e w2 ⟨rfl, hb2⟩
    have c2 := (B1.on hb2).cell
    have d2 := (D1.on hb2).cell
    simp only [World.size_alloc] at d2
    go_wp2_with fail
    refine (hawake_any _).mono ?_
    rintro e w5 ⟨rfl, hb5⟩
    go_wp2_with fail
    go_ret
    exact ⟨rfl, (by (have q_hb5 := Below.size hb5; (try simp at q_hb5); have q_hb2 := Below.size hb2; (try simp at q_hb2); have q_hb1 := Below.size hb1; (try simp at q_hb1); repeat (first | exact Below.refl _ _ | (refine Below.trans ?_ (Below.mono hb5 (by first | omega | (simp; omega) | simp))) | (refine Below.trans ?_ (Below.mono hb2 (by first | omega | (simp; omega) | simp))) | (refine Below.trans ?_ (Below.mono hb1 (by first | omega | (simp; omega) | simp))) | (refine Below.setCell ?_ (by first | omega | (simp; omega) | simp) _) | (refine Below.alloc ?_ (by first | omega | (simp; omega) | simp) _) | apply Below.drew | apply below_drewN)))⟩

theorem apart_any (p s n p' s' n' : Int) (w : World) :
    Calls Try.prog 3 #[.agg #[.int .i64 p, .int .i64 s, .int .u64 n], .agg #[.int .i64 p', .int .i64 s', .int .u64 n']] w fun e w' => e = .returned (.bool true) ∧ Below w.heap.size w w' := by
  cases h : mayB p s n
  · cases h' : mayB p' s' n'
    · exact apart_no1 p s n p' s' n' w h 1 0 (fun W => make_no p' s' n' W h')
    · exact apart_no1 p s n p' s' n' w h 0 _ (fun W => make_yes p' s' n' W h')
  · cases h' : mayB p' s' n'
    · exact apart_no2 p s n p' s' n' w h h'
    · by_cases h1 : p = p'
      · by_cases h2 : s = s'
        · by_cases h3 : n = n'
          · subst h1 h2 h3
            exact apart_same p s n w h
          · exact apart_other p s n p' s' n' w h h' (.inr (.inr ⟨by simpa using h1, by simpa using h2, by simpa using h3⟩))
        · exact apart_other p s n p' s' n' w h h' (.inr (.inl ⟨by simpa using h1, by simpa using h2⟩))
      · exact apart_other p s n p' s' n' w h h' (.inl (by simpa using h1))
end Go.Proofs.Ytdnjlhcmihmgdaa
