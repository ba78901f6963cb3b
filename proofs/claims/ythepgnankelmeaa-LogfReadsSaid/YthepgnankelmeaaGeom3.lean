/- Contracts of the functions on geometries: where the one of a kind stands. -/
import Derived.Test.YthepgnankelmeaaGeom2
namespace Go.Proofs.Ythepgnankelmeaa
open Go.RowKit

set_option maxHeartbeats 600000 in
theorem at_epochs_yes (p t k : Int) (w : World) (h : gmay p t = true) (k0 : 0 ≤ k) (k1 : k < epochsI p) :
    Calls Try.prog 65 #[.agg #[.int .i64 p, .int .i64 t], .int .i64 2, .int .i64 k, .func (Fn.func 60) #[] #[]] w fun e w' => e = .returned (.int .i64 (aheadI p 1 + k)) ∧ Below w.heap.size w w' := by
  obtain ⟨h1, h2, h3, h4⟩ := gmay_true h
  obtain ⟨m0, m1, s0, s1, e0, e1⟩ := geo_range h1 h2
  obtain ⟨r0, r1⟩ := aheadI_range h1 h2 1
  obtain ⟨c, hc⟩ : ∃ c, c = epochsI p := ⟨_, rfl⟩
  rw [← hc] at k1
  have hc80 : c ≤ 80 := by omega
  obtain ⟨A, hA⟩ : ∃ A, A = aheadI p 1 := ⟨_, rfl⟩
  rw [← hA] at r0 r1
  have HC := Lib.hid hc
  have HA := Lib.hid hA
  clear hc hA m0 m1 s0 s1 e0 e1
  go_enter Try.func65, Try.ntmps65
  go_wp2_with fail
  refine (asked_epochs p t _ h).mono ?_
  rintro e w1 ⟨rfl, hb1⟩
  have B1 := (Blk.new w _ _).on hb1
  have c1 := B1.cell
  rw [← HC.out]
  go_wp2_with fail
  refine (ahead2_any p t _ h1 h2).mono ?_
  rintro e w2 ⟨rfl, hb2⟩
  rw [← HA.out]
  go_wp2_with fail
  go_ret
  exact ⟨ret1 (int_eq (by first | rfl | rw [HA.out])), (by (have q_hb2 := Below.size hb2; (try simp at q_hb2); have q_hb1 := Below.size hb1; (try simp at q_hb1); repeat (first | exact Below.refl _ _ | (refine Below.trans ?_ (Below.mono hb2 (by first | omega | (simp; omega) | simp))) | (refine Below.trans ?_ (Below.mono hb1 (by first | omega | (simp; omega) | simp))) | (refine Below.setCell ?_ (by first | omega | (simp; omega) | simp) _) | (refine Below.alloc ?_ (by first | omega | (simp; omega) | simp) _) | apply Below.drew | apply below_drewN)))⟩

set_option maxHeartbeats 600000 in
theorem at_epochs_no (p t k : Int) (w : World) (h : gmay p t = false ∨ k < 0 ∨ (gmay p t = true ∧ epochsI p ≤ k)) :
    Calls Try.prog 65 #[.agg #[.int .i64 p, .int .i64 t], .int .i64 2, .int .i64 k, .func (Fn.func 60) #[] #[]] w fun e w' => e = .returned (.int .i64 (-1)) ∧ Below w.heap.size w w' := by
  by_cases hk : k < 0
  · clear h
    go_enter Try.func65, Try.ntmps65
    go_wp2_with fail
    go_ret
    exact ⟨rfl, (by (repeat (first | exact Below.refl _ _ | (refine Below.setCell ?_ (by first | omega | (simp; omega) | simp) _) | (refine Below.alloc ?_ (by first | omega | (simp; omega) | simp) _) | apply Below.drew | apply below_drewN)))⟩
  · have hk0 : 0 ≤ k := by omega
    cases hm : gmay p t
    · clear h
      go_enter Try.func65, Try.ntmps65
      go_wp2_with fail
      refine (asked_epochs_no p t _ hm).mono ?_
      rintro e w1 ⟨rfl, hb1⟩
      go_wp2_with fail
      go_ret
      exact ⟨rfl, (by (have q_hb1 := Below.size hb1; (try simp at q_hb1); repeat (first | exact Below.refl _ _ | (refine Below.trans ?_ (Below.mono hb1 (by first | omega | (simp; omega) | simp))) | (refine Below.setCell ?_ (by first | omega | (simp; omega) | simp) _) | (refine Below.alloc ?_ (by first | omega | (simp; omega) | simp) _) | apply Below.drew | apply below_drewN)))⟩
    · rw [hm] at h
      have hge : epochsI p ≤ k := by
        rcases h with h | h | h
        · cases h
        · exact absurd h hk
        · exact h.2
      obtain ⟨c, hc⟩ : ∃ c, c = epochsI p := ⟨_, rfl⟩
      rw [← hc] at hge
      have HC := Lib.hid hc
      clear hc h hk
      go_enter Try.func65, Try.ntmps65
      go_wp2_with fail
      refine (asked_epochs p t _ hm).mono ?_
      rintro e w1 ⟨rfl, hb1⟩
      rw [← HC.out]
      go_wp2_with fail
      go_ret
      exact ⟨rfl, (by (have q_hb1 := Below.size hb1; (try simp at q_hb1); repeat (first | exact Below.refl _ _ | (refine Below.trans ?_ (Below.mono hb1 (by first | omega | (simp; omega) | simp))) | (refine Below.setCell ?_ (by first | omega | (simp; omega) | simp) _) | (refine Below.alloc ?_ (by first | omega | (simp; omega) | simp) _) | apply Below.drew | apply below_drewN)))⟩

set_option maxHeartbeats 600000 in
theorem gepochsAt_yes (p t k : Int) (w : World) (h : gmay p t = true) (k0 : 0 ≤ k) (k1 : k < epochsI p) :
    Calls Try.prog 25 #[.agg #[.int .i64 p, .int .i64 t], .int .i64 k] w fun e w' => e = .returned (.int .i64 (aheadI p 1 + k)) ∧ Below w.heap.size w w' := by
  have HC := Lib.hid k1
  clear k1
  go_enter Try.func25, Try.ntmps25
  go_wp2_with fail
  refine (at_epochs_yes p t k _ h k0 HC.out).mono ?_
  rintro e w1 ⟨rfl, hb1⟩
  go_wp2_with fail
  go_ret
  exact ⟨rfl, (by (have q_hb1 := Below.size hb1; (try simp at q_hb1); repeat (first | exact Below.refl _ _ | (refine Below.trans ?_ (Below.mono hb1 (by first | omega | (simp; omega) | simp))) | (refine Below.setCell ?_ (by first | omega | (simp; omega) | simp) _) | (refine Below.alloc ?_ (by first | omega | (simp; omega) | simp) _) | apply Below.drew | apply below_drewN)))⟩

set_option maxHeartbeats 600000 in
theorem gepochsAt_no (p t k : Int) (w : World) (h : gmay p t = false ∨ k < 0 ∨ (gmay p t = true ∧ epochsI p ≤ k)) :
    Calls Try.prog 25 #[.agg #[.int .i64 p, .int .i64 t], .int .i64 k] w fun e w' => e = .returned (.int .i64 (-1)) ∧ Below w.heap.size w w' := by
  have HC := Lib.hid h
  clear h
  go_enter Try.func25, Try.ntmps25
  go_wp2_with fail
  refine (at_epochs_no p t k _ HC.out).mono ?_
  rintro e w1 ⟨rfl, hb1⟩
  go_wp2_with fail
  go_ret
  exact ⟨rfl, (by (have q_hb1 := Below.size hb1; (try simp at q_hb1); repeat (first | exact Below.refl _ _ | (refine Below.trans ?_ (Below.mono hb1 (by first | omega | (simp; omega) | simp))) | (refine Below.setCell ?_ (by first | omega | (simp; omega) | simp) _) | (refine Below.alloc ?_ (by first | omega | (simp; omega) | simp) _) | apply Below.drew | apply below_drewN)))⟩

set_option maxHeartbeats 600000 in
theorem at_sealed_yes (p t k : Int) (w : World) (h : gmay p t = true) (k0 : 0 ≤ k) (k1 : k < sealedI p) :
    Calls Try.prog 65 #[.agg #[.int .i64 p, .int .i64 t], .int .i64 3, .int .i64 k, .func (Fn.func 59) #[] #[]] w fun e w' => e = .returned (.int .i64 (aheadI p 2 + k)) ∧ Below w.heap.size w w' := by
  obtain ⟨h1, h2, h3, h4⟩ := gmay_true h
  obtain ⟨m0, m1, s0, s1, e0, e1⟩ := geo_range h1 h2
  obtain ⟨r0, r1⟩ := aheadI_range h1 h2 2
  obtain ⟨c, hc⟩ : ∃ c, c = sealedI p := ⟨_, rfl⟩
  rw [← hc] at k1
  have hc80 : c ≤ 80 := by omega
  obtain ⟨A, hA⟩ : ∃ A, A = aheadI p 2 := ⟨_, rfl⟩
  rw [← hA] at r0 r1
  have HC := Lib.hid hc
  have HA := Lib.hid hA
  clear hc hA m0 m1 s0 s1 e0 e1
  go_enter Try.func65, Try.ntmps65
  go_wp2_with fail
  refine (asked_sealed p t _ h).mono ?_
  rintro e w1 ⟨rfl, hb1⟩
  have B1 := (Blk.new w _ _).on hb1
  have c1 := B1.cell
  rw [← HC.out]
  go_wp2_with fail
  refine (ahead3_any p t _ h1 h2).mono ?_
  rintro e w2 ⟨rfl, hb2⟩
  rw [← HA.out]
  go_wp2_with fail
  go_ret
  exact ⟨ret1 (int_eq (by first | rfl | rw [HA.out])), (by (have q_hb2 := Below.size hb2; (try simp at q_hb2); have q_hb1 := Below.size hb1; (try simp at q_hb1); repeat (first | exact Below.refl _ _ | (refine Below.trans ?_ (Below.mono hb2 (by first | omega | (simp; omega) | simp))) | (refine Below.trans ?_ (Below.mono hb1 (by first | omega | (simp; omega) | simp))) | (refine Below.setCell ?_ (by first | omega | (simp; omega) | simp) _) | (refine Below.alloc ?_ (by first | omega | (simp; omega) | simp) _) | apply Below.drew | apply below_drewN)))⟩

set_option maxHeartbeats 600000 in
theorem at_sealed_no (p t k : Int) (w : World) (h : gmay p t = false ∨ k < 0 ∨ (gmay p t = true ∧ sealedI p ≤ k)) :
    Calls Try.prog 65 #[.agg #[.int .i64 p, .int .i64 t], .int .i64 3, .int .i64 k, .func (Fn.func 59) #[] #[]] w fun e w' => e = .returned (.int .i64 (-1)) ∧ Below w.heap.size w w' := by
  by_cases hk : k < 0
  · clear h
    go_enter Try.func65, Try.ntmps65
    go_wp2_with fail
    go_ret
    exact ⟨rfl, (by (repeat (first | exact Below.refl _ _ | (refine Below.setCell ?_ (by first | omega | (simp; omega) | simp) _) | (refine Below.alloc ?_ (by first | omega | (simp; omega) | simp) _) | apply Below.drew | apply below_drewN)))⟩
  · have hk0 : 0 ≤ k := by omega
    cases hm : gmay p t
    · clear h
      go_enter Try.func65, Try.ntmps65
      go_wp2_with fail
      refine (asked_sealed_no p t _ hm).mono ?_
      rintro e w1 ⟨rfl, hb1⟩
      go_wp2_with fail
      go_ret
      exact ⟨rfl, (by (have q_hb1 := Below.size hb1; (try simp at q_hb1); repeat (first | exact Below.refl _ _ | (refine Below.trans ?_ (Below.mono hb1 (by first | omega | (simp; omega) | simp))) | (refine Below.setCell ?_ (by first | omega | (simp; omega) | simp) _) | (refine Below.alloc ?_ (by first | omega | (simp; omega) | simp) _) | apply Below.drew | apply below_drewN)))⟩
    · rw [hm] at h
      have hge : sealedI p ≤ k := by
        rcases h with h | h | h
        · cases h
        · exact absurd h hk
        · exact h.2
      obtain ⟨c, hc⟩ : ∃ c, c = sealedI p := ⟨_, rfl⟩
      rw [← hc] at hge
      have HC := Lib.hid hc
      clear hc h hk
      go_enter Try.func65, Try.ntmps65
      go_wp2_with fail
      refine (asked_sealed p t _ hm).mono ?_
      rintro e w1 ⟨rfl, hb1⟩
      rw [← HC.out]
      go_wp2_with fail
      go_ret
      exact ⟨rfl, (by (have q_hb1 := Below.size hb1; (try simp at q_hb1); repeat (first | exact Below.refl _ _ | (refine Below.trans ?_ (Below.mono hb1 (by first | omega | (simp; omega) | simp))) | (refine Below.setCell ?_ (by first | omega | (simp; omega) | simp) _) | (refine Below.alloc ?_ (by first | omega | (simp; omega) | simp) _) | apply Below.drew | apply below_drewN)))⟩

set_option maxHeartbeats 600000 in
theorem gsealedAt_yes (p t k : Int) (w : World) (h : gmay p t = true) (k0 : 0 ≤ k) (k1 : k < sealedI p) :
    Calls Try.prog 27 #[.agg #[.int .i64 p, .int .i64 t], .int .i64 k] w fun e w' => e = .returned (.int .i64 (aheadI p 2 + k)) ∧ Below w.heap.size w w' := by
  have HC := Lib.hid k1
  clear k1
  go_enter Try.func27, Try.ntmps27
  go_wp2_with fail
  refine (at_sealed_yes p t k _ h k0 HC.out).mono ?_
  rintro e w1 ⟨rfl, hb1⟩
  go_wp2_with fail
  go_ret
  exact ⟨rfl, (by (have q_hb1 := Below.size hb1; (try simp at q_hb1); repeat (first | exact Below.refl _ _ | (refine Below.trans ?_ (Below.mono hb1 (by first | omega | (simp; omega) | simp))) | (refine Below.setCell ?_ (by first | omega | (simp; omega) | simp) _) | (refine Below.alloc ?_ (by first | omega | (simp; omega) | simp) _) | apply Below.drew | apply below_drewN)))⟩

set_option maxHeartbeats 600000 in
theorem gsealedAt_no (p t k : Int) (w : World) (h : gmay p t = false ∨ k < 0 ∨ (gmay p t = true ∧ sealedI p ≤ k)) :
    Calls Try.prog 27 #[.agg #[.int .i64 p, .int .i64 t], .int .i64 k] w fun e w' => e = .returned (.int .i64 (-1)) ∧ Below w.heap.size w w' := by
  have HC := Lib.hid h
  clear h
  go_enter Try.func27, Try.ntmps27
  go_wp2_with fail
  refine (at_sealed_no p t k _ HC.out).mono ?_
  rintro e w1 ⟨rfl, hb1⟩
  go_wp2_with fail
  go_ret
  exact ⟨rfl, (by (have q_hb1 := Below.size hb1; (try simp at q_hb1); repeat (first | exact Below.refl _ _ | (refine Below.trans ?_ (Below.mono hb1 (by first | omega | (simp; omega) | simp))) | (refine Below.setCell ?_ (by first | omega | (simp; omega) | simp) _) | (refine Below.alloc ?_ (by first | omega | (simp; omega) | simp) _) | apply Below.drew | apply below_drewN)))⟩

set_option maxHeartbeats 600000 in
theorem at_logs_yes (p t k : Int) (w : World) (h : gmay p t = true) (k0 : 0 ≤ k) (k1 : k < 1 + t) :
    Calls Try.prog 65 #[.agg #[.int .i64 p, .int .i64 t], .int .i64 4, .int .i64 k, .func (Fn.func 64) #[] #[]] w fun e w' => e = .returned (.int .i64 (aheadI p 3 + k)) ∧ Below w.heap.size w w' := by
  obtain ⟨h1, h2, h3, h4⟩ := gmay_true h
  obtain ⟨m0, m1, s0, s1, e0, e1⟩ := geo_range h1 h2
  obtain ⟨r0, r1⟩ := aheadI_range h1 h2 3
  obtain ⟨c, hc⟩ : ∃ c, c = 1 + t := ⟨_, rfl⟩
  rw [← hc] at k1
  have hc80 : c ≤ 80 := by omega
  obtain ⟨A, hA⟩ : ∃ A, A = aheadI p 3 := ⟨_, rfl⟩
  rw [← hA] at r0 r1
  have HC := Lib.hid hc
  have HA := Lib.hid hA
  clear hc hA m0 m1 s0 s1 e0 e1
  go_enter Try.func65, Try.ntmps65
  go_wp2_with fail
  refine (asked_logs p t _ h).mono ?_
  rintro e w1 ⟨rfl, hb1⟩
  have B1 := (Blk.new w _ _).on hb1
  have c1 := B1.cell
  rw [← HC.out]
  go_wp2_with fail
  refine (ahead4_any p t _ h1 h2).mono ?_
  rintro e w2 ⟨rfl, hb2⟩
  rw [← HA.out]
  go_wp2_with fail
  go_ret
  exact ⟨ret1 (int_eq (by first | rfl | rw [HA.out])), (by (have q_hb2 := Below.size hb2; (try simp at q_hb2); have q_hb1 := Below.size hb1; (try simp at q_hb1); repeat (first | exact Below.refl _ _ | (refine Below.trans ?_ (Below.mono hb2 (by first | omega | (simp; omega) | simp))) | (refine Below.trans ?_ (Below.mono hb1 (by first | omega | (simp; omega) | simp))) | (refine Below.setCell ?_ (by first | omega | (simp; omega) | simp) _) | (refine Below.alloc ?_ (by first | omega | (simp; omega) | simp) _) | apply Below.drew | apply below_drewN)))⟩

set_option maxHeartbeats 600000 in
theorem at_logs_no (p t k : Int) (w : World) (h : gmay p t = false ∨ k < 0 ∨ (gmay p t = true ∧ 1 + t ≤ k)) :
    Calls Try.prog 65 #[.agg #[.int .i64 p, .int .i64 t], .int .i64 4, .int .i64 k, .func (Fn.func 64) #[] #[]] w fun e w' => e = .returned (.int .i64 (-1)) ∧ Below w.heap.size w w' := by
  by_cases hk : k < 0
  · clear h
    go_enter Try.func65, Try.ntmps65
    go_wp2_with fail
    go_ret
    exact ⟨rfl, (by (repeat (first | exact Below.refl _ _ | (refine Below.setCell ?_ (by first | omega | (simp; omega) | simp) _) | (refine Below.alloc ?_ (by first | omega | (simp; omega) | simp) _) | apply Below.drew | apply below_drewN)))⟩
  · have hk0 : 0 ≤ k := by omega
    cases hm : gmay p t
    · clear h
      go_enter Try.func65, Try.ntmps65
      go_wp2_with fail
      refine (asked_logs_no p t _ hm).mono ?_
      rintro e w1 ⟨rfl, hb1⟩
      go_wp2_with fail
      go_ret
      exact ⟨rfl, (by (have q_hb1 := Below.size hb1; (try simp at q_hb1); repeat (first | exact Below.refl _ _ | (refine Below.trans ?_ (Below.mono hb1 (by first | omega | (simp; omega) | simp))) | (refine Below.setCell ?_ (by first | omega | (simp; omega) | simp) _) | (refine Below.alloc ?_ (by first | omega | (simp; omega) | simp) _) | apply Below.drew | apply below_drewN)))⟩
    · rw [hm] at h
      have hge : 1 + t ≤ k := by
        rcases h with h | h | h
        · cases h
        · exact absurd h hk
        · exact h.2
      obtain ⟨c, hc⟩ : ∃ c, c = 1 + t := ⟨_, rfl⟩
      rw [← hc] at hge
      have HC := Lib.hid hc
      clear hc h hk
      go_enter Try.func65, Try.ntmps65
      go_wp2_with fail
      refine (asked_logs p t _ hm).mono ?_
      rintro e w1 ⟨rfl, hb1⟩
      rw [← HC.out]
      go_wp2_with fail
      go_ret
      exact ⟨rfl, (by (have q_hb1 := Below.size hb1; (try simp at q_hb1); repeat (first | exact Below.refl _ _ | (refine Below.trans ?_ (Below.mono hb1 (by first | omega | (simp; omega) | simp))) | (refine Below.setCell ?_ (by first | omega | (simp; omega) | simp) _) | (refine Below.alloc ?_ (by first | omega | (simp; omega) | simp) _) | apply Below.drew | apply below_drewN)))⟩

set_option maxHeartbeats 600000 in
theorem glogsAt_yes (p t k : Int) (w : World) (h : gmay p t = true) (k0 : 0 ≤ k) (k1 : k < 1 + t) :
    Calls Try.prog 28 #[.agg #[.int .i64 p, .int .i64 t], .int .i64 k] w fun e w' => e = .returned (.int .i64 (aheadI p 3 + k)) ∧ Below w.heap.size w w' := by
  have HC := Lib.hid k1
  clear k1
  go_enter Try.func28, Try.ntmps28
  go_wp2_with fail
  refine (at_logs_yes p t k _ h k0 HC.out).mono ?_
  rintro e w1 ⟨rfl, hb1⟩
  go_wp2_with fail
  go_ret
  exact ⟨rfl, (by (have q_hb1 := Below.size hb1; (try simp at q_hb1); repeat (first | exact Below.refl _ _ | (refine Below.trans ?_ (Below.mono hb1 (by first | omega | (simp; omega) | simp))) | (refine Below.setCell ?_ (by first | omega | (simp; omega) | simp) _) | (refine Below.alloc ?_ (by first | omega | (simp; omega) | simp) _) | apply Below.drew | apply below_drewN)))⟩

set_option maxHeartbeats 600000 in
theorem glogsAt_no (p t k : Int) (w : World) (h : gmay p t = false ∨ k < 0 ∨ (gmay p t = true ∧ 1 + t ≤ k)) :
    Calls Try.prog 28 #[.agg #[.int .i64 p, .int .i64 t], .int .i64 k] w fun e w' => e = .returned (.int .i64 (-1)) ∧ Below w.heap.size w w' := by
  have HC := Lib.hid h
  clear h
  go_enter Try.func28, Try.ntmps28
  go_wp2_with fail
  refine (at_logs_no p t k _ HC.out).mono ?_
  rintro e w1 ⟨rfl, hb1⟩
  go_wp2_with fail
  go_ret
  exact ⟨rfl, (by (have q_hb1 := Below.size hb1; (try simp at q_hb1); repeat (first | exact Below.refl _ _ | (refine Below.trans ?_ (Below.mono hb1 (by first | omega | (simp; omega) | simp))) | (refine Below.setCell ?_ (by first | omega | (simp; omega) | simp) _) | (refine Below.alloc ?_ (by first | omega | (simp; omega) | simp) _) | apply Below.drew | apply below_drewN)))⟩

set_option maxHeartbeats 600000 in
theorem pageAt_yes (p t k : Int) (w : World) (h : gmay p t = true) (k0 : 0 ≤ k) (k1 : k < p) :
    Calls Try.prog 29 #[.agg #[.int .i64 p, .int .i64 t], .int .i64 k] w fun e w' => e = .returned (.int .i64 (1 + mapsI p + k)) ∧ Below w.heap.size w w' := by
  obtain ⟨h1, h2, h3, h4⟩ := gmay_true h
  obtain ⟨m0, m1, s0, s1, e0, e1⟩ := geo_range h1 h2
  obtain ⟨m, hm⟩ : ∃ m, m = mapsI p := ⟨_, rfl⟩
  rw [← hm] at m0 m1
  have HM := Lib.hid hm
  clear hm s0 s1 e0 e1
  go_enter Try.func29, Try.ntmps29
  go_wp2_with fail
  refine (check_yes p t _ h).mono ?_
  rintro e w1 ⟨rfl, hb1⟩
  have B1 := (Blk.new w _ _).on hb1
  have c1 := B1.cell
  go_wp2_with fail
  refine (gmaps p t _ h).mono ?_
  rintro e w2 ⟨rfl, hb2⟩
  rw [← HM.out]
  go_wp2_with fail
  go_ret
  exact ⟨ret1 (int_eq (by rw [HM.out])), (by (have q_hb2 := Below.size hb2; (try simp at q_hb2); have q_hb1 := Below.size hb1; (try simp at q_hb1); repeat (first | exact Below.refl _ _ | (refine Below.trans ?_ (Below.mono hb2 (by first | omega | (simp; omega) | simp))) | (refine Below.trans ?_ (Below.mono hb1 (by first | omega | (simp; omega) | simp))) | (refine Below.setCell ?_ (by first | omega | (simp; omega) | simp) _) | (refine Below.alloc ?_ (by first | omega | (simp; omega) | simp) _) | apply Below.drew | apply below_drewN)))⟩

set_option maxHeartbeats 600000 in
theorem pageAt_bad (p t k : Int) (w : World) (h : gmay p t = false) :
    Calls Try.prog 29 #[.agg #[.int .i64 p, .int .i64 t], .int .i64 k] w fun e w' => e = .returned (.int .i64 (-1)) ∧ Below w.heap.size w w' := by
  go_enter Try.func29, Try.ntmps29
  go_wp2_with fail
  refine (check_no p t _ h).mono ?_
  rintro e w1 ⟨rfl, hb1⟩
  go_wp2_with fail
  go_ret
  exact ⟨rfl, (by (have q_hb1 := Below.size hb1; (try simp at q_hb1); repeat (first | exact Below.refl _ _ | (refine Below.trans ?_ (Below.mono hb1 (by first | omega | (simp; omega) | simp))) | (refine Below.setCell ?_ (by first | omega | (simp; omega) | simp) _) | (refine Below.alloc ?_ (by first | omega | (simp; omega) | simp) _) | apply Below.drew | apply below_drewN)))⟩

set_option maxHeartbeats 600000 in
theorem pageAt_out (p t k : Int) (w : World) (h : gmay p t = true) (hk : k < 0 ∨ (0 ≤ k ∧ p ≤ k)) :
    Calls Try.prog 29 #[.agg #[.int .i64 p, .int .i64 t], .int .i64 k] w fun e w' => e = .returned (.int .i64 (-1)) ∧ Below w.heap.size w w' := by
  rcases hk with hk | ⟨hk0, hk⟩
  all_goals
    go_enter Try.func29, Try.ntmps29
    go_wp2_with fail
    refine (check_yes p t _ h).mono ?_
    rintro e w1 ⟨rfl, hb1⟩
    have B1 := (Blk.new w _ _).on hb1
    have c1 := B1.cell
    go_wp2_with fail
    go_ret
    exact ⟨rfl, (by (have q_hb1 := Below.size hb1; (try simp at q_hb1); repeat (first | exact Below.refl _ _ | (refine Below.trans ?_ (Below.mono hb1 (by first | omega | (simp; omega) | simp))) | (refine Below.setCell ?_ (by first | omega | (simp; omega) | simp) _) | (refine Below.alloc ?_ (by first | omega | (simp; omega) | simp) _) | apply Below.drew | apply below_drewN)))⟩

set_option maxHeartbeats 600000 in
theorem gbytes_yes (k : Int) (w : World) (h0 : 0 ≤ k) (h1 : k < 65536) :
    Calls Try.prog 30 #[.int .i64 k] w fun e w' => e = .returned (.int .i64 (256 * k)) ∧ w = w' := by
  go_enter Try.func30, Try.ntmps30
  go_wp2_with fail
  go_ret
  exact ⟨rfl, rfl⟩
theorem gbytes_no (k : Int) (w : World) (h : k < 0 ∨ (0 ≤ k ∧ 65536 ≤ k)) :
    Calls Try.prog 30 #[.int .i64 k] w fun e w' => e = .returned (.int .i64 0) ∧ w = w' := by
  rcases h with h | ⟨h0, h⟩
  all_goals
    go_enter Try.func30, Try.ntmps30
    go_wp2_with fail
    go_ret
    exact ⟨rfl, rfl⟩

set_option maxHeartbeats 600000 in
theorem rmaps_any (p t : Int) (w : World) (h0 : 1 ≤ p) (h1 : p ≤ 64) :
    Calls Try.prog 15 #[.agg #[.int .i64 p, .int .i64 t]] w fun e w' => e = .returned (.int .i64 (mapsI p)) ∧ Below w.heap.size w w' := by
  have hbB := Blk.new w 23 #[.int .i64 p, .int .i64 t]
  have cc := hbB.cell
  go_enter Try.func15, Try.ntmps15
  go_wp2_with fail
  go_loop [3] (fun n => ∃ k : Nat, k ≤ 4 ∧ n = .int .i64 k ∧ 16 * ((k : Int) - 1) < p) (fun n => 5 - (intOf n).toNat)
  case atStart => exact ⟨0, by omega, rfl, by omega⟩
  case round =>
    obtain ⟨k, hk, rfl, hp⟩ := hrel
    by_cases hlt : 16 * (k : Int) < p
    · go_wp2_with fail
      go_round
      case rel => exact ⟨k + 1, by omega, by go_num, by omega⟩
      case measure => simp [intOf] <;> omega
    · have he := Lib.hid (show mapsI p = (k : Int) by unfold mapsI; omega)
      go_wp2_with fail
      go_ret
      exact ⟨ret1 (int_eq he.out.symm), (by (repeat (first | exact Below.refl _ _ | (refine Below.setCell ?_ (by first | omega | (simp; omega) | simp) _) | (refine Below.alloc ?_ (by first | omega | (simp; omega) | simp) _) | apply Below.drew | apply below_drewN)))⟩

set_option maxRecDepth 100000 in
set_option maxHeartbeats 600000 in
theorem rsealed_any (p t : Int) (w : World) (h0 : 1 ≤ p) (h1 : p ≤ 64) :
    Calls Try.prog 44 #[.agg #[.int .i64 p, .int .i64 t]] w fun e w' => e = .returned (.int .i64 (sealedI p)) ∧ Below w.heap.size w w' := by
  obtain ⟨m0, m1, s0, s1, e0, e1⟩ := geo_range h0 h1
  have hs := Lib.hid (show sealedI p = 1 + mapsI p + p from rfl)
  obtain ⟨m, hmm⟩ : ∃ m, m = mapsI p := ⟨_, rfl⟩
  have HM := Lib.hid hmm
  rw [← hmm] at hs m0 m1
  clear hmm
  go_enter Try.func44, Try.ntmps44
  go_wp2_with fail
  refine wp_flows [(fun y_ _ => y_ = .agg #[.int .i64 p, .int .i64 t]), (fun y_ _ => y_ = .int .i64 m), (fun y_ _ => y_ = .int .i64 (1 + m)), (fun y_ _ => y_ = .pointer (some ⟨w.heap.size, 0, none⟩)), (fun y_ _ => y_ = .int .i64 p), (fun y_ _ => y_ = .int .i64 ((1 + m) + p)), (fun y_ _ => y_ = .int .i64 ((1 + m) + p))] (by kernel_rfl) ⟨Stab.eq _, Stab.eq _, Stab.eq _, Stab.eq _, Stab.eq _, Stab.eq _, Stab.eq _, trivial⟩ (by kernel_rfl) (by rfl) ?_ ?_
  · intro kq hkq
    match kq, hkq with
    | 0, _ =>
      refine StepOk.plain _ 3 rfl rfl rfl [(1, none)] (by kernel_rfl) (fun af wf hbw hf Kf hKf => ?_)
      obtain ⟨g1, _⟩ := hf
      have h1 : af.tmps[1]?.getD undef = .pointer (some ⟨w.heap.size, 0, none⟩) := g1
      clear g1
      have cB0 := (Blk.on (Blk.drew (Blk.new w _ _)) hbw).cell
      go_simp
      exact hKf _ _ (Below.refl _ _) rfl
    | 1, _ =>
      refine StepOk.plain _ 4 rfl rfl rfl [(3, some 0)] (by kernel_rfl) (fun af wf hbw hf Kf hKf => ?_)
      obtain ⟨g3, _⟩ := hf
      have h3 : af.tmps[3]?.getD undef = .agg #[.int .i64 p, .int .i64 t] := g3
      clear g3
      go_simp
      refine (rmaps_any p t _ h0 h1).mono ?_
      rintro e wN ⟨rfl, hb1⟩
      exact hKf _ _ (hb1) (int_eq HM.out.symm)
    | 2, _ =>
      refine StepOk.plain _ 5 rfl rfl rfl [(4, some 1)] (by kernel_rfl) (fun af wf hbw hf Kf hKf => ?_)
      obtain ⟨g4, _⟩ := hf
      have h4 : af.tmps[4]?.getD undef = .int .i64 m := g4
      clear g4
      have hwr : IntKind.i64.wrap (1 + m) = 1 + m := IntWalk.i64_in _ (by omega)
      go_simp
      exact hKf _ _ (Below.refl _ _) rfl
    | 3, _ =>
      refine StepOk.plain _ 6 rfl rfl rfl [(1, none)] (by kernel_rfl) (fun af wf hbw hf Kf hKf => ?_)
      obtain ⟨g1, _⟩ := hf
      have h1 : af.tmps[1]?.getD undef = .pointer (some ⟨w.heap.size, 0, none⟩) := g1
      clear g1
      go_simp
      exact hKf _ _ (Below.refl _ _) rfl
    | 4, _ =>
      refine StepOk.plain _ 7 rfl rfl rfl [(6, some 3)] (by kernel_rfl) (fun af wf hbw hf Kf hKf => ?_)
      obtain ⟨g6, _⟩ := hf
      have h6 : af.tmps[6]?.getD undef = .pointer (some ⟨w.heap.size, 0, none⟩) := g6
      clear g6
      have cB0 := (Blk.on (Blk.drew (Blk.new w _ _)) hbw).cell
      go_simp
      exact hKf _ _ (Below.refl _ _) rfl
    | 5, _ =>
      refine StepOk.plain _ 8 rfl rfl rfl [(5, some 2), (7, some 4)] (by kernel_rfl) (fun af wf hbw hf Kf hKf => ?_)
      obtain ⟨g5, g7, _⟩ := hf
      have h5 : af.tmps[5]?.getD undef = .int .i64 (1 + m) := g5
      have h7 : af.tmps[7]?.getD undef = .int .i64 p := g7
      clear g5 g7
      have hwr : IntKind.i64.wrap ((1 + m) + p) = (1 + m) + p := IntWalk.i64_in _ (by omega)
      go_simp
      exact hKf _ _ (Below.refl _ _) rfl
    | 6, _ =>
      refine StepOk.plain _ 2 rfl rfl rfl [(8, some 5)] (by kernel_rfl) (fun af wf hbw hf Kf hKf => ?_)
      obtain ⟨g8, _⟩ := hf
      have h8 : af.tmps[8]?.getD undef = .int .i64 ((1 + m) + p) := g8
      clear g8
      go_simp
      exact hKf _ _ (Below.refl _ _) rfl
    | i + 7, h => exact absurd h (by show ¬ (i + 7 < 7); omega)
  · intro af wF hbF hdF hsF hbaseF hfactF
    obtain ⟨T, dsF⟩ := af
    obtain rfl : dsF = _ := hdF
    have e0 := hbaseF 0 (not_dst (by kernel_rfl))
    simp only [List.getElem?_toArray, List.getElem?_cons_zero, Option.getD_some] at e0
    have e1 := hbaseF 1 (not_dst (by kernel_rfl))
    simp only [List.getElem?_toArray, List.getElem?_cons_zero, List.getElem?_cons_succ, Option.getD_some] at e1
    have e2 := hfactF 6 2 (by decide) rfl
    replace e2 : T[2]?.getD undef = .int .i64 ((1 + m) + p) := e2
    clear hbaseF hfactF
    have hT : T = #[T[0]?.getD undef, T[1]?.getD undef, T[2]?.getD undef, T[3]?.getD undef, T[4]?.getD undef, T[5]?.getD undef, T[6]?.getD undef, T[7]?.getD undef, T[8]?.getD undef] := arr_eq T 9 hsF
    clear hsF
    rw [e0] at hT; clear e0
    rw [e1] at hT; clear e1
    rw [e2] at hT; clear e2
    generalize T[3]?.getD undef = u3 at hT
    generalize T[4]?.getD undef = u4 at hT
    generalize T[5]?.getD undef = u5 at hT
    generalize T[6]?.getD undef = u6 at hT
    generalize T[7]?.getD undef = u7 at hT
    generalize T[8]?.getD undef = u8 at hT
    subst hT
    go_wp2_with fail
    go_ret
    exact ⟨ret1 (int_eq hs.out.symm), (by (have q_hbF := Below.size hbF; (try simp at q_hbF); repeat (first | exact Below.refl _ _ | (refine Below.trans ?_ (Below.mono hbF (by first | omega | (simp; omega) | simp))) | (refine Below.setCell ?_ (by first | omega | (simp; omega) | simp) _) | (refine Below.alloc ?_ (by first | omega | (simp; omega) | simp) _) | apply Below.drew | apply below_drewN)))⟩

set_option maxHeartbeats 1000000 in
theorem repochs_any (p t : Int) (w : World) (h0 : 1 ≤ p) (h1 : p ≤ 64) :
    Calls Try.prog 42 #[.agg #[.int .i64 p, .int .i64 t]] w fun e w' => e = .returned (.int .i64 (epochsI p)) ∧ Below w.heap.size w w' := by
  obtain ⟨m0, m1, s0, s1, e0, e1⟩ := geo_range h0 h1
  have he := Lib.hid (show epochsI p = (sealedI p + 31) / 32 from rfl)
  obtain ⟨s, hs⟩ : ∃ s, s = sealedI p := ⟨_, rfl⟩
  have HS := Lib.hid hs
  rw [← hs] at he s0 s1
  clear hs
  go_enter Try.func42, Try.ntmps42
  go_wp2_with fail
  go_loopw [3] (fun n wr => ∃ k : Nat, k ≤ 3 ∧ n = .int .i64 k ∧ 32 * ((k : Int) - 1) < s ∧ Blk wr w.heap.size 23 #[.int .i64 p, .int .i64 t] ∧ Below w.heap.size w wr) (fun n _ => 4 - (intOf n).toNat)
  case atStart => exact ⟨0, by omega, rfl, by omega, Blk.new w _ _, (by (repeat (first | exact Below.refl _ _ | (refine Below.setCell ?_ (by first | omega | (simp; omega) | simp) _) | (refine Below.alloc ?_ (by first | omega | (simp; omega) | simp) _) | apply Below.drew | apply below_drewN)))⟩
  case round =>
    obtain ⟨k, hk, rfl, hp, hB, hbel⟩ := hrel
    have cc := hB.cell
    by_cases hlt : 32 * (k : Int) < s
    · go_wp2_with fail
      refine (rsealed_any p t _ h0 h1).mono ?_
      rintro e w1 ⟨rfl, hb1⟩
      rw [← HS.out]
      go_wp2_with fail
      go_roundw
      case rel => exact ⟨k + 1, by omega, by go_num, by omega, hB.on hb1, (by (have q_hb1 := Below.size hb1; (try simp at q_hb1); have q_hbel := Below.size hbel; (try simp at q_hbel); repeat (first | exact Below.refl _ _ | (refine Below.trans ?_ (Below.mono hb1 (by first | omega | (simp; omega) | simp))) | (refine Below.trans ?_ (Below.mono hbel (by first | omega | (simp; omega) | simp))) | (refine Below.setCell ?_ (by first | omega | (simp; omega) | simp) _) | (refine Below.alloc ?_ (by first | omega | (simp; omega) | simp) _) | apply Below.drew | apply below_drewN)))⟩
      case measure => simp [intOf] <;> omega
    · have hE := Lib.hid (show epochsI p = (k : Int) by rw [he.out]; omega)
      go_wp2_with fail
      refine (rsealed_any p t _ h0 h1).mono ?_
      rintro e w1 ⟨rfl, hb1⟩
      rw [← HS.out]
      go_wp2_with fail
      go_ret
      exact ⟨ret1 (int_eq hE.out.symm), (by (have q_hb1 := Below.size hb1; (try simp at q_hb1); have q_hbel := Below.size hbel; (try simp at q_hbel); repeat (first | exact Below.refl _ _ | (refine Below.trans ?_ (Below.mono hb1 (by first | omega | (simp; omega) | simp))) | (refine Below.trans ?_ (Below.mono hbel (by first | omega | (simp; omega) | simp))) | (refine Below.setCell ?_ (by first | omega | (simp; omega) | simp) _) | (refine Below.alloc ?_ (by first | omega | (simp; omega) | simp) _) | apply Below.drew | apply below_drewN)))⟩
end Go.Proofs.Ythepgnankelmeaa
