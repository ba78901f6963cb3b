/- Contracts of the functions on geometries: how many there are, and where they stand. -/
import Derived.Test.YthepgnankelmeaaGeom
namespace Go.Proofs.Ythepgnankelmeaa
open Go.RowKit

/-- How many blocks stand ahead of kind j + 1. -/
def aheadI (p : Int) : Nat → Int
  | 0 => 0
  | 1 => 1
  | 2 => 1 + epochsI p
  | _ => 1 + epochsI p + sealedI p

set_option maxRecDepth 100000 in
set_option maxHeartbeats 2000000 in
theorem ahead2_any (p t : Int) (w : World) (h0 : 1 ≤ p) (h1 : p ≤ 64) :
    Calls Try.prog 62 #[.agg #[.int .i64 p, .int .i64 t], .int .i64 2] w fun e w' => e = .returned (.int .i64 (aheadI p 1)) ∧ Below w.heap.size w w' := by
  obtain ⟨m0, m1, s0, s1, e0, e1⟩ := geo_range h0 h1
  obtain ⟨E, hE⟩ : ∃ E, E = epochsI p := ⟨_, rfl⟩
  obtain ⟨S, hS⟩ : ∃ S, S = sealedI p := ⟨_, rfl⟩
  have hres := Lib.hid (show aheadI p 1 = 1 by simp only [aheadI])
  rw [← hE] at e0 e1
  rw [← hS] at s0 s1
  have HE := Lib.hid hE
  have HS := Lib.hid hS
  clear hE hS
  go_enter Try.func62, Try.ntmps62
  go_wp2_with fail
  refine (kinds_any _).mono ?_
  rintro e wk ⟨rfl, hbk⟩
  have hB0 := (Blk.new w _ _).on hbk
  go_wp2_with fail
  go_loopw [5, 9] (fun n i wr => ∃ k : Nat, k ≤ 4 ∧ i = .int .i64 k ∧ n = .int .i64 (match k with | 0 => 0 | 1 => 1 | 2 => 1 | 3 => 1 | _ => 1) ∧ Blk wr w.heap.size 83 #[.int .i64 p, .int .i64 t] ∧ Below w.heap.size w wr) (fun _ i _ => 4 - (intOf i).toNat)
  case atStart => exact ⟨0, by omega, rfl, rfl, hB0, (by (have q_hbk := Below.size hbk; (try simp at q_hbk); repeat (first | exact Below.refl _ _ | (refine Below.trans ?_ (Below.mono hbk (by first | omega | (simp; omega) | simp))) | (refine Below.setCell ?_ (by first | omega | (simp; omega) | simp) _) | (refine Below.alloc ?_ (by first | omega | (simp; omega) | simp) _) | apply Below.drew | apply below_drewN)))⟩
  case round =>
    obtain ⟨k, hk, rfl, rfl, hB, hbel⟩ := hrel
    have cc := hB.cell
    have hcases : k = 0 ∨ k = 1 ∨ k = 2 ∨ k = 3 ∨ k = 4 := by omega
    rcases hcases with rfl | rfl | rfl | rfl | rfl
    · have hi := kx0
      go_wp2_with fail
      refine (supers1_any p t _).mono ?_
      rintro e w1 ⟨rfl, hb1⟩
      go_wp2_with fail
      go_roundw
      case rel => exact ⟨1, by omega, rfl, by go_num, hB.on hb1, (by (have q_hb1 := Below.size hb1; (try simp at q_hb1); have q_hbel := Below.size hbel; (try simp at q_hbel); repeat (first | exact Below.refl _ _ | (refine Below.trans ?_ (Below.mono hb1 (by first | omega | (simp; omega) | simp))) | (refine Below.trans ?_ (Below.mono hbel (by first | omega | (simp; omega) | simp))) | (refine Below.setCell ?_ (by first | omega | (simp; omega) | simp) _) | (refine Below.alloc ?_ (by first | omega | (simp; omega) | simp) _) | apply Below.drew | apply below_drewN)))⟩
      case measure => simp [intOf]
    · have hi := kx1
      go_wp2_with fail
      go_roundw
      case rel => exact ⟨2, by omega, rfl, by go_num, hB, hbel⟩
      case measure => simp [intOf]
    · have hi := kx2
      go_wp2_with fail
      go_roundw
      case rel => exact ⟨3, by omega, rfl, by go_num, hB, hbel⟩
      case measure => simp [intOf]
    · have hi := kx3
      go_wp2_with fail
      go_roundw
      case rel => exact ⟨4, by omega, rfl, by go_num, hB, hbel⟩
      case measure => simp [intOf]
    · go_wp2_with fail
      go_ret
      exact ⟨ret1 (int_eq hres.out.symm), hbel⟩

set_option maxRecDepth 100000 in
set_option maxHeartbeats 2000000 in
theorem ahead3_any (p t : Int) (w : World) (h0 : 1 ≤ p) (h1 : p ≤ 64) :
    Calls Try.prog 62 #[.agg #[.int .i64 p, .int .i64 t], .int .i64 3] w fun e w' => e = .returned (.int .i64 (aheadI p 2)) ∧ Below w.heap.size w w' := by
  obtain ⟨m0, m1, s0, s1, e0, e1⟩ := geo_range h0 h1
  obtain ⟨E, hE⟩ : ∃ E, E = epochsI p := ⟨_, rfl⟩
  obtain ⟨S, hS⟩ : ∃ S, S = sealedI p := ⟨_, rfl⟩
  have hres := Lib.hid (show aheadI p 2 = (1 + E) by simp only [aheadI]; rw [hE])
  rw [← hE] at e0 e1
  rw [← hS] at s0 s1
  have HE := Lib.hid hE
  have HS := Lib.hid hS
  clear hE hS
  go_enter Try.func62, Try.ntmps62
  go_wp2_with fail
  refine (kinds_any _).mono ?_
  rintro e wk ⟨rfl, hbk⟩
  have hB0 := (Blk.new w _ _).on hbk
  go_wp2_with fail
  go_loopw [5, 9] (fun n i wr => ∃ k : Nat, k ≤ 4 ∧ i = .int .i64 k ∧ n = .int .i64 (match k with | 0 => 0 | 1 => 1 | 2 => (1 + E) | 3 => (1 + E) | _ => (1 + E)) ∧ Blk wr w.heap.size 83 #[.int .i64 p, .int .i64 t] ∧ Below w.heap.size w wr) (fun _ i _ => 4 - (intOf i).toNat)
  case atStart => exact ⟨0, by omega, rfl, rfl, hB0, (by (have q_hbk := Below.size hbk; (try simp at q_hbk); repeat (first | exact Below.refl _ _ | (refine Below.trans ?_ (Below.mono hbk (by first | omega | (simp; omega) | simp))) | (refine Below.setCell ?_ (by first | omega | (simp; omega) | simp) _) | (refine Below.alloc ?_ (by first | omega | (simp; omega) | simp) _) | apply Below.drew | apply below_drewN)))⟩
  case round =>
    obtain ⟨k, hk, rfl, rfl, hB, hbel⟩ := hrel
    have cc := hB.cell
    have hcases : k = 0 ∨ k = 1 ∨ k = 2 ∨ k = 3 ∨ k = 4 := by omega
    rcases hcases with rfl | rfl | rfl | rfl | rfl
    · have hi := kx0
      go_wp2_with fail
      refine (supers1_any p t _).mono ?_
      rintro e w1 ⟨rfl, hb1⟩
      go_wp2_with fail
      go_roundw
      case rel => exact ⟨1, by omega, rfl, by go_num, hB.on hb1, (by (have q_hb1 := Below.size hb1; (try simp at q_hb1); have q_hbel := Below.size hbel; (try simp at q_hbel); repeat (first | exact Below.refl _ _ | (refine Below.trans ?_ (Below.mono hb1 (by first | omega | (simp; omega) | simp))) | (refine Below.trans ?_ (Below.mono hbel (by first | omega | (simp; omega) | simp))) | (refine Below.setCell ?_ (by first | omega | (simp; omega) | simp) _) | (refine Below.alloc ?_ (by first | omega | (simp; omega) | simp) _) | apply Below.drew | apply below_drewN)))⟩
      case measure => simp [intOf]
    · have hi := kx1
      go_wp2_with fail
      refine (epochs1_any p t _ h0 h1).mono ?_
      rintro e w1 ⟨rfl, hb1⟩
      rw [← HE.out]
      go_wp2_with fail
      go_roundw
      case rel => exact ⟨2, by omega, rfl, by go_num, hB.on hb1, (by (have q_hb1 := Below.size hb1; (try simp at q_hb1); have q_hbel := Below.size hbel; (try simp at q_hbel); repeat (first | exact Below.refl _ _ | (refine Below.trans ?_ (Below.mono hb1 (by first | omega | (simp; omega) | simp))) | (refine Below.trans ?_ (Below.mono hbel (by first | omega | (simp; omega) | simp))) | (refine Below.setCell ?_ (by first | omega | (simp; omega) | simp) _) | (refine Below.alloc ?_ (by first | omega | (simp; omega) | simp) _) | apply Below.drew | apply below_drewN)))⟩
      case measure => simp [intOf]
    · have hi := kx2
      go_wp2_with fail
      go_roundw
      case rel => exact ⟨3, by omega, rfl, by go_num, hB, hbel⟩
      case measure => simp [intOf]
    · have hi := kx3
      go_wp2_with fail
      go_roundw
      case rel => exact ⟨4, by omega, rfl, by go_num, hB, hbel⟩
      case measure => simp [intOf]
    · go_wp2_with fail
      go_ret
      exact ⟨ret1 (int_eq hres.out.symm), hbel⟩

set_option maxRecDepth 100000 in
set_option maxHeartbeats 2000000 in
theorem ahead4_any (p t : Int) (w : World) (h0 : 1 ≤ p) (h1 : p ≤ 64) :
    Calls Try.prog 62 #[.agg #[.int .i64 p, .int .i64 t], .int .i64 4] w fun e w' => e = .returned (.int .i64 (aheadI p 3)) ∧ Below w.heap.size w w' := by
  obtain ⟨m0, m1, s0, s1, e0, e1⟩ := geo_range h0 h1
  obtain ⟨E, hE⟩ : ∃ E, E = epochsI p := ⟨_, rfl⟩
  obtain ⟨S, hS⟩ : ∃ S, S = sealedI p := ⟨_, rfl⟩
  have hres := Lib.hid (show aheadI p 3 = (1 + E + S) by simp only [aheadI]; rw [hE, hS])
  rw [← hE] at e0 e1
  rw [← hS] at s0 s1
  have HE := Lib.hid hE
  have HS := Lib.hid hS
  clear hE hS
  go_enter Try.func62, Try.ntmps62
  go_wp2_with fail
  refine (kinds_any _).mono ?_
  rintro e wk ⟨rfl, hbk⟩
  have hB0 := (Blk.new w _ _).on hbk
  go_wp2_with fail
  go_loopw [5, 9] (fun n i wr => ∃ k : Nat, k ≤ 4 ∧ i = .int .i64 k ∧ n = .int .i64 (match k with | 0 => 0 | 1 => 1 | 2 => (1 + E) | 3 => (1 + E + S) | _ => (1 + E + S)) ∧ Blk wr w.heap.size 83 #[.int .i64 p, .int .i64 t] ∧ Below w.heap.size w wr) (fun _ i _ => 4 - (intOf i).toNat)
  case atStart => exact ⟨0, by omega, rfl, rfl, hB0, (by (have q_hbk := Below.size hbk; (try simp at q_hbk); repeat (first | exact Below.refl _ _ | (refine Below.trans ?_ (Below.mono hbk (by first | omega | (simp; omega) | simp))) | (refine Below.setCell ?_ (by first | omega | (simp; omega) | simp) _) | (refine Below.alloc ?_ (by first | omega | (simp; omega) | simp) _) | apply Below.drew | apply below_drewN)))⟩
  case round =>
    obtain ⟨k, hk, rfl, rfl, hB, hbel⟩ := hrel
    have cc := hB.cell
    have hcases : k = 0 ∨ k = 1 ∨ k = 2 ∨ k = 3 ∨ k = 4 := by omega
    rcases hcases with rfl | rfl | rfl | rfl | rfl
    · have hi := kx0
      go_wp2_with fail
      refine (supers1_any p t _).mono ?_
      rintro e w1 ⟨rfl, hb1⟩
      go_wp2_with fail
      go_roundw
      case rel => exact ⟨1, by omega, rfl, by go_num, hB.on hb1, (by (have q_hb1 := Below.size hb1; (try simp at q_hb1); have q_hbel := Below.size hbel; (try simp at q_hbel); repeat (first | exact Below.refl _ _ | (refine Below.trans ?_ (Below.mono hb1 (by first | omega | (simp; omega) | simp))) | (refine Below.trans ?_ (Below.mono hbel (by first | omega | (simp; omega) | simp))) | (refine Below.setCell ?_ (by first | omega | (simp; omega) | simp) _) | (refine Below.alloc ?_ (by first | omega | (simp; omega) | simp) _) | apply Below.drew | apply below_drewN)))⟩
      case measure => simp [intOf]
    · have hi := kx1
      go_wp2_with fail
      refine (epochs1_any p t _ h0 h1).mono ?_
      rintro e w1 ⟨rfl, hb1⟩
      rw [← HE.out]
      go_wp2_with fail
      go_roundw
      case rel => exact ⟨2, by omega, rfl, by go_num, hB.on hb1, (by (have q_hb1 := Below.size hb1; (try simp at q_hb1); have q_hbel := Below.size hbel; (try simp at q_hbel); repeat (first | exact Below.refl _ _ | (refine Below.trans ?_ (Below.mono hb1 (by first | omega | (simp; omega) | simp))) | (refine Below.trans ?_ (Below.mono hbel (by first | omega | (simp; omega) | simp))) | (refine Below.setCell ?_ (by first | omega | (simp; omega) | simp) _) | (refine Below.alloc ?_ (by first | omega | (simp; omega) | simp) _) | apply Below.drew | apply below_drewN)))⟩
      case measure => simp [intOf]
    · have hi := kx2
      go_wp2_with fail
      refine (sealed1_any p t _ h0 h1).mono ?_
      rintro e w1 ⟨rfl, hb1⟩
      rw [← HS.out]
      go_wp2_with fail
      go_roundw
      case rel => exact ⟨3, by omega, rfl, by go_num, hB.on hb1, (by (have q_hb1 := Below.size hb1; (try simp at q_hb1); have q_hbel := Below.size hbel; (try simp at q_hbel); repeat (first | exact Below.refl _ _ | (refine Below.trans ?_ (Below.mono hb1 (by first | omega | (simp; omega) | simp))) | (refine Below.trans ?_ (Below.mono hbel (by first | omega | (simp; omega) | simp))) | (refine Below.setCell ?_ (by first | omega | (simp; omega) | simp) _) | (refine Below.alloc ?_ (by first | omega | (simp; omega) | simp) _) | apply Below.drew | apply below_drewN)))⟩
      case measure => simp [intOf]
    · have hi := kx3
      go_wp2_with fail
      go_roundw
      case rel => exact ⟨4, by omega, rfl, by go_num, hB, hbel⟩
      case measure => simp [intOf]
    · go_wp2_with fail
      go_ret
      exact ⟨ret1 (int_eq hres.out.symm), hbel⟩

set_option maxHeartbeats 400000 in
theorem leaves1_any (p t : Int) (w : World) (h0 : 1 ≤ p) (h1 : p ≤ 64) :
    Calls Try.prog 61 #[.agg #[.int .i64 p, .int .i64 t]] w fun e w' => e = .returned (.int .i64 (aheadI p 3)) ∧ Below w.heap.size w w' := by
  go_enter Try.func61, Try.ntmps61
  go_wp2_with fail
  refine (ahead4_any p t _ h0 h1).mono ?_
  rintro e w1 ⟨rfl, hb1⟩
  go_wp2_with fail
  go_ret
  exact ⟨rfl, (by (have q_hb1 := Below.size hb1; (try simp at q_hb1); repeat (first | exact Below.refl _ _ | (refine Below.trans ?_ (Below.mono hb1 (by first | omega | (simp; omega) | simp))) | (refine Below.setCell ?_ (by first | omega | (simp; omega) | simp) _) | (refine Below.alloc ?_ (by first | omega | (simp; omega) | simp) _) | apply Below.drew | apply below_drewN)))⟩

theorem aheadI_range {p : Int} (h0 : 1 ≤ p) (h1 : p ≤ 64) (j : Nat) : 0 ≤ aheadI p j ∧ aheadI p j ≤ 80 := by
  obtain ⟨m0, m1, s0, s1, e0, e1⟩ := geo_range h0 h1
  unfold aheadI
  split <;> omega

set_option maxRecDepth 100000 in
set_option maxHeartbeats 400000 in
theorem total1_any (p t : Int) (w : World) (h0 : 1 ≤ p) (h1 : p ≤ 64) (t0 : 0 ≤ t) (t1 : t ≤ 24) :
    Calls Try.prog 63 #[.agg #[.int .i64 p, .int .i64 t]] w fun e w' => e = .returned (.int .i64 (totalI p t)) ∧ Below w.heap.size w w' := by
  have hres := Lib.hid (show totalI p t = aheadI p 3 + (1 + t) from rfl)
  obtain ⟨r0, r1⟩ := aheadI_range h0 h1 3
  obtain ⟨A, hA⟩ : ∃ A, A = aheadI p 3 := ⟨_, rfl⟩
  rw [← hA] at hres r0 r1
  have HA := Lib.hid hA
  clear hA
  go_enter Try.func63, Try.ntmps63
  go_wp2_with fail
  refine wp_flows [(fun y_ _ => y_ = .agg #[.int .i64 p, .int .i64 t]), (fun y_ _ => y_ = .int .i64 A), (fun y_ _ => y_ = .agg #[.int .i64 p, .int .i64 t]), (fun y_ _ => y_ = .int .i64 (1 + t)), (fun y_ _ => y_ = .int .i64 (A + (1 + t))), (fun y_ _ => y_ = .int .i64 (A + (1 + t)))] (by kernel_rfl) ⟨Stab.eq _, Stab.eq _, Stab.eq _, Stab.eq _, Stab.eq _, Stab.eq _, trivial⟩ (by kernel_rfl) (by rfl) ?_ ?_
  · intro kq hkq
    match kq, hkq with
    | 0, _ =>
      refine StepOk.plain _ 3 rfl rfl rfl [(1, none)] (by kernel_rfl) (fun af wf hbw hf Kf hKf => ?_)
      obtain ⟨g1, _⟩ := hf
      have h1 : af.tmps[1]?.getD undef = .pointer (some ⟨w.heap.size, 0, none⟩) := g1
      clear g1
      have cB0 := (Blk.on (Blk.drew (Blk.new w _ _)) hbw).cell
      go_simp
      exact hKf _ _ (Below.refl _ _) rfl
    | 1, _ =>
      refine StepOk.plain _ 4 rfl rfl rfl [(3, some 0)] (by kernel_rfl) (fun af wf hbw hf Kf hKf => ?_)
      obtain ⟨g3, _⟩ := hf
      have h3 : af.tmps[3]?.getD undef = .agg #[.int .i64 p, .int .i64 t] := g3
      clear g3
      go_simp
      refine (ahead4_any p t _ h0 h1).mono ?_
      rintro e wN ⟨rfl, hb1⟩
      exact hKf _ _ (hb1) (int_eq HA.out.symm)
    | 2, _ =>
      refine StepOk.plain _ 5 rfl rfl rfl [(1, none)] (by kernel_rfl) (fun af wf hbw hf Kf hKf => ?_)
      obtain ⟨g1, _⟩ := hf
      have h1 : af.tmps[1]?.getD undef = .pointer (some ⟨w.heap.size, 0, none⟩) := g1
      clear g1
      have cB0 := (Blk.on (Blk.drew (Blk.new w _ _)) hbw).cell
      go_simp
      exact hKf _ _ (Below.refl _ _) rfl
    | 3, _ =>
      refine StepOk.plain _ 6 rfl rfl rfl [(5, some 2)] (by kernel_rfl) (fun af wf hbw hf Kf hKf => ?_)
      obtain ⟨g5, _⟩ := hf
      have h5 : af.tmps[5]?.getD undef = .agg #[.int .i64 p, .int .i64 t] := g5
      clear g5
      go_simp
      refine (logs1_any p t _ t0 t1).mono ?_
      rintro e wN ⟨rfl, hb1⟩
      exact hKf _ _ (hb1) (rfl)
    | 4, _ =>
      refine StepOk.plain _ 7 rfl rfl rfl [(4, some 1), (6, some 3)] (by kernel_rfl) (fun af wf hbw hf Kf hKf => ?_)
      obtain ⟨g4, g6, _⟩ := hf
      have h4 : af.tmps[4]?.getD undef = .int .i64 A := g4
      have h6 : af.tmps[6]?.getD undef = .int .i64 (1 + t) := g6
      clear g4 g6
      have hwr : IntKind.i64.wrap (A + (1 + t)) = A + (1 + t) := IntWalk.i64_in _ (by omega)
      go_simp
      exact hKf _ _ (Below.refl _ _) rfl
    | 5, _ =>
      refine StepOk.plain _ 2 rfl rfl rfl [(7, some 4)] (by kernel_rfl) (fun af wf hbw hf Kf hKf => ?_)
      obtain ⟨g7, _⟩ := hf
      have h7 : af.tmps[7]?.getD undef = .int .i64 (A + (1 + t)) := g7
      clear g7
      go_simp
      exact hKf _ _ (Below.refl _ _) rfl
    | i + 6, h => exact absurd h (by show ¬ (i + 6 < 6); omega)
  · intro af wF hbF hdF hsF hbaseF hfactF
    obtain ⟨T, dsF⟩ := af
    obtain rfl : dsF = _ := hdF
    have e0 := hbaseF 0 (not_dst (by kernel_rfl))
    simp only [List.getElem?_toArray, List.getElem?_cons_zero, Option.getD_some] at e0
    have e1 := hbaseF 1 (not_dst (by kernel_rfl))
    simp only [List.getElem?_toArray, List.getElem?_cons_zero, List.getElem?_cons_succ, Option.getD_some] at e1
    have e2 := hfactF 5 2 (by decide) rfl
    replace e2 : T[2]?.getD undef = .int .i64 (A + (1 + t)) := e2
    clear hbaseF hfactF
    have hT : T = #[T[0]?.getD undef, T[1]?.getD undef, T[2]?.getD undef, T[3]?.getD undef, T[4]?.getD undef, T[5]?.getD undef, T[6]?.getD undef, T[7]?.getD undef] := arr_eq T 8 hsF
    clear hsF
    rw [e0] at hT; clear e0
    rw [e1] at hT; clear e1
    rw [e2] at hT; clear e2
    generalize T[3]?.getD undef = u3 at hT
    generalize T[4]?.getD undef = u4 at hT
    generalize T[5]?.getD undef = u5 at hT
    generalize T[6]?.getD undef = u6 at hT
    generalize T[7]?.getD undef = u7 at hT
    subst hT
    go_wp2_with fail
    go_ret
    exact ⟨ret1 (int_eq hres.out.symm), (by (have q_hbF := Below.size hbF; (try simp at q_hbF); repeat (first | exact Below.refl _ _ | (refine Below.trans ?_ (Below.mono hbF (by first | omega | (simp; omega) | simp))) | (refine Below.setCell ?_ (by first | omega | (simp; omega) | simp) _) | (refine Below.alloc ?_ (by first | omega | (simp; omega) | simp) _) | apply Below.drew | apply below_drewN)))⟩

set_option maxHeartbeats 400000 in
theorem asked_maps (p t : Int) (w : World) (h : gmay p t = true) :
    Calls Try.prog 56 #[.agg #[.int .i64 p, .int .i64 t], .func (Fn.func 57) #[] #[]] w fun e w' => e = .returned (.int .i64 (mapsI p)) ∧ Below w.heap.size w w' := by
  obtain ⟨h1, h2, h3, h4⟩ := gmay_true h
  go_enter Try.func56, Try.ntmps56
  go_wp2_with fail
  refine (check_yes p t _ h).mono ?_
  rintro e w1 ⟨rfl, hb1⟩
  have B1 := (Blk.new w _ _).on hb1
  have c1 := B1.cell
  go_wp2_with fail
  refine (maps1_any p t _ h1 h2).mono ?_
  rintro e w2 ⟨rfl, hb2⟩
  go_wp2_with fail
  go_ret
  exact ⟨rfl, (by (have q_hb2 := Below.size hb2; (try simp at q_hb2); have q_hb1 := Below.size hb1; (try simp at q_hb1); repeat (first | exact Below.refl _ _ | (refine Below.trans ?_ (Below.mono hb2 (by first | omega | (simp; omega) | simp))) | (refine Below.trans ?_ (Below.mono hb1 (by first | omega | (simp; omega) | simp))) | (refine Below.setCell ?_ (by first | omega | (simp; omega) | simp) _) | (refine Below.alloc ?_ (by first | omega | (simp; omega) | simp) _) | apply Below.drew | apply below_drewN)))⟩

set_option maxHeartbeats 400000 in
theorem asked_maps_no (p t : Int) (w : World) (h : gmay p t = false) :
    Calls Try.prog 56 #[.agg #[.int .i64 p, .int .i64 t], .func (Fn.func 57) #[] #[]] w fun e w' => e = .returned (.int .i64 0) ∧ Below w.heap.size w w' := by
  go_enter Try.func56, Try.ntmps56
  go_wp2_with fail
  refine (check_no p t _ h).mono ?_
  rintro e w1 ⟨rfl, hb1⟩
  go_wp2_with fail
  go_ret
  exact ⟨rfl, (by (have q_hb1 := Below.size hb1; (try simp at q_hb1); repeat (first | exact Below.refl _ _ | (refine Below.trans ?_ (Below.mono hb1 (by first | omega | (simp; omega) | simp))) | (refine Below.setCell ?_ (by first | omega | (simp; omega) | simp) _) | (refine Below.alloc ?_ (by first | omega | (simp; omega) | simp) _) | apply Below.drew | apply below_drewN)))⟩

set_option maxHeartbeats 400000 in
theorem asked_sealed (p t : Int) (w : World) (h : gmay p t = true) :
    Calls Try.prog 56 #[.agg #[.int .i64 p, .int .i64 t], .func (Fn.func 59) #[] #[]] w fun e w' => e = .returned (.int .i64 (sealedI p)) ∧ Below w.heap.size w w' := by
  obtain ⟨h1, h2, h3, h4⟩ := gmay_true h
  go_enter Try.func56, Try.ntmps56
  go_wp2_with fail
  refine (check_yes p t _ h).mono ?_
  rintro e w1 ⟨rfl, hb1⟩
  have B1 := (Blk.new w _ _).on hb1
  have c1 := B1.cell
  go_wp2_with fail
  refine (sealed1_any p t _ h1 h2).mono ?_
  rintro e w2 ⟨rfl, hb2⟩
  go_wp2_with fail
  go_ret
  exact ⟨rfl, (by (have q_hb2 := Below.size hb2; (try simp at q_hb2); have q_hb1 := Below.size hb1; (try simp at q_hb1); repeat (first | exact Below.refl _ _ | (refine Below.trans ?_ (Below.mono hb2 (by first | omega | (simp; omega) | simp))) | (refine Below.trans ?_ (Below.mono hb1 (by first | omega | (simp; omega) | simp))) | (refine Below.setCell ?_ (by first | omega | (simp; omega) | simp) _) | (refine Below.alloc ?_ (by first | omega | (simp; omega) | simp) _) | apply Below.drew | apply below_drewN)))⟩

set_option maxHeartbeats 400000 in
theorem asked_sealed_no (p t : Int) (w : World) (h : gmay p t = false) :
    Calls Try.prog 56 #[.agg #[.int .i64 p, .int .i64 t], .func (Fn.func 59) #[] #[]] w fun e w' => e = .returned (.int .i64 0) ∧ Below w.heap.size w w' := by
  go_enter Try.func56, Try.ntmps56
  go_wp2_with fail
  refine (check_no p t _ h).mono ?_
  rintro e w1 ⟨rfl, hb1⟩
  go_wp2_with fail
  go_ret
  exact ⟨rfl, (by (have q_hb1 := Below.size hb1; (try simp at q_hb1); repeat (first | exact Below.refl _ _ | (refine Below.trans ?_ (Below.mono hb1 (by first | omega | (simp; omega) | simp))) | (refine Below.setCell ?_ (by first | omega | (simp; omega) | simp) _) | (refine Below.alloc ?_ (by first | omega | (simp; omega) | simp) _) | apply Below.drew | apply below_drewN)))⟩

set_option maxHeartbeats 400000 in
theorem asked_epochs (p t : Int) (w : World) (h : gmay p t = true) :
    Calls Try.prog 56 #[.agg #[.int .i64 p, .int .i64 t], .func (Fn.func 60) #[] #[]] w fun e w' => e = .returned (.int .i64 (epochsI p)) ∧ Below w.heap.size w w' := by
  obtain ⟨h1, h2, h3, h4⟩ := gmay_true h
  go_enter Try.func56, Try.ntmps56
  go_wp2_with fail
  refine (check_yes p t _ h).mono ?_
  rintro e w1 ⟨rfl, hb1⟩
  have B1 := (Blk.new w _ _).on hb1
  have c1 := B1.cell
  go_wp2_with fail
  refine (epochs1_any p t _ h1 h2).mono ?_
  rintro e w2 ⟨rfl, hb2⟩
  go_wp2_with fail
  go_ret
  exact ⟨rfl, (by (have q_hb2 := Below.size hb2; (try simp at q_hb2); have q_hb1 := Below.size hb1; (try simp at q_hb1); repeat (first | exact Below.refl _ _ | (refine Below.trans ?_ (Below.mono hb2 (by first | omega | (simp; omega) | simp))) | (refine Below.trans ?_ (Below.mono hb1 (by first | omega | (simp; omega) | simp))) | (refine Below.setCell ?_ (by first | omega | (simp; omega) | simp) _) | (refine Below.alloc ?_ (by first | omega | (simp; omega) | simp) _) | apply Below.drew | apply below_drewN)))⟩

set_option maxHeartbeats 400000 in
theorem asked_epochs_no (p t : Int) (w : World) (h : gmay p t = false) :
    Calls Try.prog 56 #[.agg #[.int .i64 p, .int .i64 t], .func (Fn.func 60) #[] #[]] w fun e w' => e = .returned (.int .i64 0) ∧ Below w.heap.size w w' := by
  go_enter Try.func56, Try.ntmps56
  go_wp2_with fail
  refine (check_no p t _ h).mono ?_
  rintro e w1 ⟨rfl, hb1⟩
  go_wp2_with fail
  go_ret
  exact ⟨rfl, (by (have q_hb1 := Below.size hb1; (try simp at q_hb1); repeat (first | exact Below.refl _ _ | (refine Below.trans ?_ (Below.mono hb1 (by first | omega | (simp; omega) | simp))) | (refine Below.setCell ?_ (by first | omega | (simp; omega) | simp) _) | (refine Below.alloc ?_ (by first | omega | (simp; omega) | simp) _) | apply Below.drew | apply below_drewN)))⟩

set_option maxHeartbeats 400000 in
theorem asked_leaves (p t : Int) (w : World) (h : gmay p t = true) :
    Calls Try.prog 56 #[.agg #[.int .i64 p, .int .i64 t], .func (Fn.func 61) #[] #[]] w fun e w' => e = .returned (.int .i64 (aheadI p 3)) ∧ Below w.heap.size w w' := by
  obtain ⟨h1, h2, h3, h4⟩ := gmay_true h
  go_enter Try.func56, Try.ntmps56
  go_wp2_with fail
  refine (check_yes p t _ h).mono ?_
  rintro e w1 ⟨rfl, hb1⟩
  have B1 := (Blk.new w _ _).on hb1
  have c1 := B1.cell
  go_wp2_with fail
  refine (leaves1_any p t _ h1 h2).mono ?_
  rintro e w2 ⟨rfl, hb2⟩
  go_wp2_with fail
  go_ret
  exact ⟨rfl, (by (have q_hb2 := Below.size hb2; (try simp at q_hb2); have q_hb1 := Below.size hb1; (try simp at q_hb1); repeat (first | exact Below.refl _ _ | (refine Below.trans ?_ (Below.mono hb2 (by first | omega | (simp; omega) | simp))) | (refine Below.trans ?_ (Below.mono hb1 (by first | omega | (simp; omega) | simp))) | (refine Below.setCell ?_ (by first | omega | (simp; omega) | simp) _) | (refine Below.alloc ?_ (by first | omega | (simp; omega) | simp) _) | apply Below.drew | apply below_drewN)))⟩

set_option maxHeartbeats 400000 in
theorem asked_leaves_no (p t : Int) (w : World) (h : gmay p t = false) :
    Calls Try.prog 56 #[.agg #[.int .i64 p, .int .i64 t], .func (Fn.func 61) #[] #[]] w fun e w' => e = .returned (.int .i64 0) ∧ Below w.heap.size w w' := by
  go_enter Try.func56, Try.ntmps56
  go_wp2_with fail
  refine (check_no p t _ h).mono ?_
  rintro e w1 ⟨rfl, hb1⟩
  go_wp2_with fail
  go_ret
  exact ⟨rfl, (by (have q_hb1 := Below.size hb1; (try simp at q_hb1); repeat (first | exact Below.refl _ _ | (refine Below.trans ?_ (Below.mono hb1 (by first | omega | (simp; omega) | simp))) | (refine Below.setCell ?_ (by first | omega | (simp; omega) | simp) _) | (refine Below.alloc ?_ (by first | omega | (simp; omega) | simp) _) | apply Below.drew | apply below_drewN)))⟩

set_option maxHeartbeats 400000 in
theorem asked_total (p t : Int) (w : World) (h : gmay p t = true) :
    Calls Try.prog 56 #[.agg #[.int .i64 p, .int .i64 t], .func (Fn.func 63) #[] #[]] w fun e w' => e = .returned (.int .i64 (totalI p t)) ∧ Below w.heap.size w w' := by
  obtain ⟨h1, h2, h3, h4⟩ := gmay_true h
  go_enter Try.func56, Try.ntmps56
  go_wp2_with fail
  refine (check_yes p t _ h).mono ?_
  rintro e w1 ⟨rfl, hb1⟩
  have B1 := (Blk.new w _ _).on hb1
  have c1 := B1.cell
  go_wp2_with fail
  refine (total1_any p t _ h1 h2 (by omega) h4).mono ?_
  rintro e w2 ⟨rfl, hb2⟩
  go_wp2_with fail
  go_ret
  exact ⟨rfl, (by (have q_hb2 := Below.size hb2; (try simp at q_hb2); have q_hb1 := Below.size hb1; (try simp at q_hb1); repeat (first | exact Below.refl _ _ | (refine Below.trans ?_ (Below.mono hb2 (by first | omega | (simp; omega) | simp))) | (refine Below.trans ?_ (Below.mono hb1 (by first | omega | (simp; omega) | simp))) | (refine Below.setCell ?_ (by first | omega | (simp; omega) | simp) _) | (refine Below.alloc ?_ (by first | omega | (simp; omega) | simp) _) | apply Below.drew | apply below_drewN)))⟩

set_option maxHeartbeats 400000 in
theorem asked_total_no (p t : Int) (w : World) (h : gmay p t = false) :
    Calls Try.prog 56 #[.agg #[.int .i64 p, .int .i64 t], .func (Fn.func 63) #[] #[]] w fun e w' => e = .returned (.int .i64 0) ∧ Below w.heap.size w w' := by
  go_enter Try.func56, Try.ntmps56
  go_wp2_with fail
  refine (check_no p t _ h).mono ?_
  rintro e w1 ⟨rfl, hb1⟩
  go_wp2_with fail
  go_ret
  exact ⟨rfl, (by (have q_hb1 := Below.size hb1; (try simp at q_hb1); repeat (first | exact Below.refl _ _ | (refine Below.trans ?_ (Below.mono hb1 (by first | omega | (simp; omega) | simp))) | (refine Below.setCell ?_ (by first | omega | (simp; omega) | simp) _) | (refine Below.alloc ?_ (by first | omega | (simp; omega) | simp) _) | apply Below.drew | apply below_drewN)))⟩

set_option maxHeartbeats 400000 in
theorem asked_logs (p t : Int) (w : World) (h : gmay p t = true) :
    Calls Try.prog 56 #[.agg #[.int .i64 p, .int .i64 t], .func (Fn.func 64) #[] #[]] w fun e w' => e = .returned (.int .i64 (1 + t)) ∧ Below w.heap.size w w' := by
  obtain ⟨h1, h2, h3, h4⟩ := gmay_true h
  go_enter Try.func56, Try.ntmps56
  go_wp2_with fail
  refine (check_yes p t _ h).mono ?_
  rintro e w1 ⟨rfl, hb1⟩
  have B1 := (Blk.new w _ _).on hb1
  have c1 := B1.cell
  go_wp2_with fail
  refine (logs1_any p t _ (by omega) h4).mono ?_
  rintro e w2 ⟨rfl, hb2⟩
  go_wp2_with fail
  go_ret
  exact ⟨rfl, (by (have q_hb2 := Below.size hb2; (try simp at q_hb2); have q_hb1 := Below.size hb1; (try simp at q_hb1); repeat (first | exact Below.refl _ _ | (refine Below.trans ?_ (Below.mono hb2 (by first | omega | (simp; omega) | simp))) | (refine Below.trans ?_ (Below.mono hb1 (by first | omega | (simp; omega) | simp))) | (refine Below.setCell ?_ (by first | omega | (simp; omega) | simp) _) | (refine Below.alloc ?_ (by first | omega | (simp; omega) | simp) _) | apply Below.drew | apply below_drewN)))⟩

set_option maxHeartbeats 400000 in
theorem asked_logs_no (p t : Int) (w : World) (h : gmay p t = false) :
    Calls Try.prog 56 #[.agg #[.int .i64 p, .int .i64 t], .func (Fn.func 64) #[] #[]] w fun e w' => e = .returned (.int .i64 0) ∧ Below w.heap.size w w' := by
  go_enter Try.func56, Try.ntmps56
  go_wp2_with fail
  refine (check_no p t _ h).mono ?_
  rintro e w1 ⟨rfl, hb1⟩
  go_wp2_with fail
  go_ret
  exact ⟨rfl, (by (have q_hb1 := Below.size hb1; (try simp at q_hb1); repeat (first | exact Below.refl _ _ | (refine Below.trans ?_ (Below.mono hb1 (by first | omega | (simp; omega) | simp))) | (refine Below.setCell ?_ (by first | omega | (simp; omega) | simp) _) | (refine Below.alloc ?_ (by first | omega | (simp; omega) | simp) _) | apply Below.drew | apply below_drewN)))⟩

set_option maxHeartbeats 400000 in
theorem gmaps (p t : Int) (w : World) (h : gmay p t = true) :
    Calls Try.prog 18 #[.agg #[.int .i64 p, .int .i64 t]] w fun e w' => e = .returned (.int .i64 (mapsI p)) ∧ Below w.heap.size w w' := by
  go_enter Try.func18, Try.ntmps18
  go_wp2_with fail
  refine (asked_maps p t _ h).mono ?_
  rintro e w1 ⟨rfl, hb1⟩
  go_wp2_with fail
  go_ret
  exact ⟨rfl, (by (have q_hb1 := Below.size hb1; (try simp at q_hb1); repeat (first | exact Below.refl _ _ | (refine Below.trans ?_ (Below.mono hb1 (by first | omega | (simp; omega) | simp))) | (refine Below.setCell ?_ (by first | omega | (simp; omega) | simp) _) | (refine Below.alloc ?_ (by first | omega | (simp; omega) | simp) _) | apply Below.drew | apply below_drewN)))⟩

set_option maxHeartbeats 400000 in
theorem gmaps_no (p t : Int) (w : World) (h : gmay p t = false) :
    Calls Try.prog 18 #[.agg #[.int .i64 p, .int .i64 t]] w fun e w' => e = .returned (.int .i64 0) ∧ Below w.heap.size w w' := by
  go_enter Try.func18, Try.ntmps18
  go_wp2_with fail
  refine (asked_maps_no p t _ h).mono ?_
  rintro e w1 ⟨rfl, hb1⟩
  go_wp2_with fail
  go_ret
  exact ⟨rfl, (by (have q_hb1 := Below.size hb1; (try simp at q_hb1); repeat (first | exact Below.refl _ _ | (refine Below.trans ?_ (Below.mono hb1 (by first | omega | (simp; omega) | simp))) | (refine Below.setCell ?_ (by first | omega | (simp; omega) | simp) _) | (refine Below.alloc ?_ (by first | omega | (simp; omega) | simp) _) | apply Below.drew | apply below_drewN)))⟩

set_option maxHeartbeats 400000 in
theorem gsealed (p t : Int) (w : World) (h : gmay p t = true) :
    Calls Try.prog 19 #[.agg #[.int .i64 p, .int .i64 t]] w fun e w' => e = .returned (.int .i64 (sealedI p)) ∧ Below w.heap.size w w' := by
  go_enter Try.func19, Try.ntmps19
  go_wp2_with fail
  refine (asked_sealed p t _ h).mono ?_
  rintro e w1 ⟨rfl, hb1⟩
  go_wp2_with fail
  go_ret
  exact ⟨rfl, (by (have q_hb1 := Below.size hb1; (try simp at q_hb1); repeat (first | exact Below.refl _ _ | (refine Below.trans ?_ (Below.mono hb1 (by first | omega | (simp; omega) | simp))) | (refine Below.setCell ?_ (by first | omega | (simp; omega) | simp) _) | (refine Below.alloc ?_ (by first | omega | (simp; omega) | simp) _) | apply Below.drew | apply below_drewN)))⟩

set_option maxHeartbeats 400000 in
theorem gsealed_no (p t : Int) (w : World) (h : gmay p t = false) :
    Calls Try.prog 19 #[.agg #[.int .i64 p, .int .i64 t]] w fun e w' => e = .returned (.int .i64 0) ∧ Below w.heap.size w w' := by
  go_enter Try.func19, Try.ntmps19
  go_wp2_with fail
  refine (asked_sealed_no p t _ h).mono ?_
  rintro e w1 ⟨rfl, hb1⟩
  go_wp2_with fail
  go_ret
  exact ⟨rfl, (by (have q_hb1 := Below.size hb1; (try simp at q_hb1); repeat (first | exact Below.refl _ _ | (refine Below.trans ?_ (Below.mono hb1 (by first | omega | (simp; omega) | simp))) | (refine Below.setCell ?_ (by first | omega | (simp; omega) | simp) _) | (refine Below.alloc ?_ (by first | omega | (simp; omega) | simp) _) | apply Below.drew | apply below_drewN)))⟩

set_option maxHeartbeats 400000 in
theorem gepochs (p t : Int) (w : World) (h : gmay p t = true) :
    Calls Try.prog 21 #[.agg #[.int .i64 p, .int .i64 t]] w fun e w' => e = .returned (.int .i64 (epochsI p)) ∧ Below w.heap.size w w' := by
  go_enter Try.func21, Try.ntmps21
  go_wp2_with fail
  refine (asked_epochs p t _ h).mono ?_
  rintro e w1 ⟨rfl, hb1⟩
  go_wp2_with fail
  go_ret
  exact ⟨rfl, (by (have q_hb1 := Below.size hb1; (try simp at q_hb1); repeat (first | exact Below.refl _ _ | (refine Below.trans ?_ (Below.mono hb1 (by first | omega | (simp; omega) | simp))) | (refine Below.setCell ?_ (by first | omega | (simp; omega) | simp) _) | (refine Below.alloc ?_ (by first | omega | (simp; omega) | simp) _) | apply Below.drew | apply below_drewN)))⟩

set_option maxHeartbeats 400000 in
theorem gepochs_no (p t : Int) (w : World) (h : gmay p t = false) :
    Calls Try.prog 21 #[.agg #[.int .i64 p, .int .i64 t]] w fun e w' => e = .returned (.int .i64 0) ∧ Below w.heap.size w w' := by
  go_enter Try.func21, Try.ntmps21
  go_wp2_with fail
  refine (asked_epochs_no p t _ h).mono ?_
  rintro e w1 ⟨rfl, hb1⟩
  go_wp2_with fail
  go_ret
  exact ⟨rfl, (by (have q_hb1 := Below.size hb1; (try simp at q_hb1); repeat (first | exact Below.refl _ _ | (refine Below.trans ?_ (Below.mono hb1 (by first | omega | (simp; omega) | simp))) | (refine Below.setCell ?_ (by first | omega | (simp; omega) | simp) _) | (refine Below.alloc ?_ (by first | omega | (simp; omega) | simp) _) | apply Below.drew | apply below_drewN)))⟩

set_option maxHeartbeats 400000 in
theorem gleaves (p t : Int) (w : World) (h : gmay p t = true) :
    Calls Try.prog 22 #[.agg #[.int .i64 p, .int .i64 t]] w fun e w' => e = .returned (.int .i64 (aheadI p 3)) ∧ Below w.heap.size w w' := by
  go_enter Try.func22, Try.ntmps22
  go_wp2_with fail
  refine (asked_leaves p t _ h).mono ?_
  rintro e w1 ⟨rfl, hb1⟩
  go_wp2_with fail
  go_ret
  exact ⟨rfl, (by (have q_hb1 := Below.size hb1; (try simp at q_hb1); repeat (first | exact Below.refl _ _ | (refine Below.trans ?_ (Below.mono hb1 (by first | omega | (simp; omega) | simp))) | (refine Below.setCell ?_ (by first | omega | (simp; omega) | simp) _) | (refine Below.alloc ?_ (by first | omega | (simp; omega) | simp) _) | apply Below.drew | apply below_drewN)))⟩

set_option maxHeartbeats 400000 in
theorem gleaves_no (p t : Int) (w : World) (h : gmay p t = false) :
    Calls Try.prog 22 #[.agg #[.int .i64 p, .int .i64 t]] w fun e w' => e = .returned (.int .i64 0) ∧ Below w.heap.size w w' := by
  go_enter Try.func22, Try.ntmps22
  go_wp2_with fail
  refine (asked_leaves_no p t _ h).mono ?_
  rintro e w1 ⟨rfl, hb1⟩
  go_wp2_with fail
  go_ret
  exact ⟨rfl, (by (have q_hb1 := Below.size hb1; (try simp at q_hb1); repeat (first | exact Below.refl _ _ | (refine Below.trans ?_ (Below.mono hb1 (by first | omega | (simp; omega) | simp))) | (refine Below.setCell ?_ (by first | omega | (simp; omega) | simp) _) | (refine Below.alloc ?_ (by first | omega | (simp; omega) | simp) _) | apply Below.drew | apply below_drewN)))⟩

set_option maxHeartbeats 400000 in
theorem gtotal (p t : Int) (w : World) (h : gmay p t = true) :
    Calls Try.prog 23 #[.agg #[.int .i64 p, .int .i64 t]] w fun e w' => e = .returned (.int .i64 (totalI p t)) ∧ Below w.heap.size w w' := by
  go_enter Try.func23, Try.ntmps23
  go_wp2_with fail
  refine (asked_total p t _ h).mono ?_
  rintro e w1 ⟨rfl, hb1⟩
  go_wp2_with fail
  go_ret
  exact ⟨rfl, (by (have q_hb1 := Below.size hb1; (try simp at q_hb1); repeat (first | exact Below.refl _ _ | (refine Below.trans ?_ (Below.mono hb1 (by first | omega | (simp; omega) | simp))) | (refine Below.setCell ?_ (by first | omega | (simp; omega) | simp) _) | (refine Below.alloc ?_ (by first | omega | (simp; omega) | simp) _) | apply Below.drew | apply below_drewN)))⟩

set_option maxHeartbeats 400000 in
theorem gtotal_no (p t : Int) (w : World) (h : gmay p t = false) :
    Calls Try.prog 23 #[.agg #[.int .i64 p, .int .i64 t]] w fun e w' => e = .returned (.int .i64 0) ∧ Below w.heap.size w w' := by
  go_enter Try.func23, Try.ntmps23
  go_wp2_with fail
  refine (asked_total_no p t _ h).mono ?_
  rintro e w1 ⟨rfl, hb1⟩
  go_wp2_with fail
  go_ret
  exact ⟨rfl, (by (have q_hb1 := Below.size hb1; (try simp at q_hb1); repeat (first | exact Below.refl _ _ | (refine Below.trans ?_ (Below.mono hb1 (by first | omega | (simp; omega) | simp))) | (refine Below.setCell ?_ (by first | omega | (simp; omega) | simp) _) | (refine Below.alloc ?_ (by first | omega | (simp; omega) | simp) _) | apply Below.drew | apply below_drewN)))⟩

end Go.Proofs.Ythepgnankelmeaa
