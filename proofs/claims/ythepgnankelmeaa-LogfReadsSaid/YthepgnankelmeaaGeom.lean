/- Contracts of the functions on geometries. -/
import Derived.Test.YthepgnankelmeaaProg
import Derived.Test.YthepgnankelmeaaFlow
import Derived.Laws.EntriesVeiled
namespace Go.Proofs.Ythepgnankelmeaa
open Go.RowKit

def gmay (p t : Int) : Bool := decide (1 ≤ p ∧ p ≤ 64 ∧ 4 ≤ t ∧ t ≤ 24)
theorem gmay_true {p t : Int} (h : gmay p t = true) : 1 ≤ p ∧ p ≤ 64 ∧ 4 ≤ t ∧ t ≤ 24 := by simpa [gmay] using h
theorem gmay_false {p t : Int} (h : gmay p t = false) : p < 1 ∨ (1 ≤ p ∧ 64 < p) ∨ (1 ≤ p ∧ p ≤ 64 ∧ t < 4) ∨ (1 ≤ p ∧ p ≤ 64 ∧ 4 ≤ t ∧ 24 < t) := by
  have h' : ¬ (1 ≤ p ∧ p ≤ 64 ∧ 4 ≤ t ∧ t ≤ 24) := by simpa only [gmay, decide_eq_false_iff_not] using h
  omega
def mapsI (p : Int) : Int := (p + 15) / 16
def sealedI (p : Int) : Int := 1 + mapsI p + p
def epochsI (p : Int) : Int := (sealedI p + 31) / 32
def totalI (p t : Int) : Int := 1 + epochsI p + sealedI p + (1 + t)
theorem geo_range {p : Int} (h0 : 1 ≤ p) (h1 : p ≤ 64) : 1 ≤ mapsI p ∧ mapsI p ≤ 4 ∧ 3 ≤ sealedI p ∧ sealedI p ≤ 69 ∧ 1 ≤ epochsI p ∧ epochsI p ≤ 3 := by
  unfold epochsI sealedI mapsI
  omega

set_option maxHeartbeats 400000 in
theorem check_yes (p t : Int) (w : World) (h : gmay p t = true) :
    Calls Try.prog 17 #[.agg #[.int .i64 p, .int .i64 t]] w fun e w' => e = .returned (.int .i64 0) ∧ Below w.heap.size w w' := by
  obtain ⟨h1, h2, h3, h4⟩ := gmay_true h
  clear h
  go_enter Try.func17, Try.ntmps17
  go_wp2_with fail
  go_ret
  exact ⟨rfl, (by (repeat (first | exact Below.refl _ _ | (refine Below.setCell ?_ (by first | omega | (simp; omega) | simp) _) | (refine Below.alloc ?_ (by first | omega | (simp; omega) | simp) _) | apply Below.drew | apply below_drewN)))⟩

set_option maxHeartbeats 400000 in
theorem check_no (p t : Int) (w : World) (h : gmay p t = false) :
    Calls Try.prog 17 #[.agg #[.int .i64 p, .int .i64 t]] w fun e w' => e = .returned (.int .i64 1) ∧ Below w.heap.size w w' := by
  rcases gmay_false h with h1 | ⟨h1, h2⟩ | ⟨h1, h2, h3⟩ | ⟨h1, h2, h3, h4⟩
  all_goals
    clear h
    go_enter Try.func17, Try.ntmps17
    go_wp2_with fail
    go_ret
    exact ⟨rfl, (by (repeat (first | exact Below.refl _ _ | (refine Below.setCell ?_ (by first | omega | (simp; omega) | simp) _) | (refine Below.alloc ?_ (by first | omega | (simp; omega) | simp) _) | apply Below.drew | apply below_drewN)))⟩

set_option maxHeartbeats 400000 in
theorem grmay_any (p t : Int) (w : World) :
    Calls Try.prog 14 #[.agg #[.int .i64 p, .int .i64 t]] w fun e w' => e = .returned (.bool (gmay p t)) ∧ Below w.heap.size w w' := by
  go_enter Try.func14, Try.ntmps14
  go_wp2
  all_goals
    go_ret
    refine ⟨ret_bool ?_, (by (repeat (first | exact Below.refl _ _ | (refine Below.setCell ?_ (by first | omega | (simp; omega) | simp) _) | (refine Below.alloc ?_ (by first | omega | (simp; omega) | simp) _) | apply Below.drew | apply below_drewN)))⟩
    rw [Bool.eq_iff_iff]; simp [gmay]; omega

set_option maxHeartbeats 400000 in
theorem up_geo (n k : Int) (w : World) (n0 : 0 ≤ n) (n1 : n ≤ 1000) (k0 : 1 ≤ k) (k1 : k ≤ 100) :
    Calls Try.prog 58 #[.int .i64 n, .int .i64 k] w fun e w' => e = .returned (.int .i64 ((n + k - 1) / k)) ∧ w = w' := by
  go_enter Try.func58, Try.ntmps58
  go_wp2_with fail
  go_ret
  exact ⟨rfl, rfl⟩

set_option maxHeartbeats 400000 in
theorem maps1_any (p t : Int) (w : World) (h0 : 1 ≤ p) (h1 : p ≤ 64) :
    Calls Try.prog 57 #[.agg #[.int .i64 p, .int .i64 t]] w fun e w' => e = .returned (.int .i64 (mapsI p)) ∧ Below w.heap.size w w' := by
  go_enter Try.func57, Try.ntmps57
  go_wp2_with fail
  refine (up_geo _ _ _ (by omega) (by omega) (by omega) (by omega)).mono ?_
  rintro e w1 ⟨rfl, rfl⟩
  go_wp2_with fail
  go_ret
  exact ⟨ret1 (int_eq (by unfold mapsI; omega)), (by (repeat (first | exact Below.refl _ _ | (refine Below.setCell ?_ (by first | omega | (simp; omega) | simp) _) | (refine Below.alloc ?_ (by first | omega | (simp; omega) | simp) _) | apply Below.drew | apply below_drewN)))⟩

set_option maxRecDepth 100000 in
set_option maxHeartbeats 400000 in
theorem sealed1_any (p t : Int) (w : World) (h0 : 1 ≤ p) (h1 : p ≤ 64) :
    Calls Try.prog 59 #[.agg #[.int .i64 p, .int .i64 t]] w fun e w' => e = .returned (.int .i64 (sealedI p)) ∧ Below w.heap.size w w' := by
  obtain ⟨m0, m1, s0, s1, e0, e1⟩ := geo_range h0 h1
  have hm := Lib.hid (show (p + 16 - 1) / 16 = mapsI p by unfold mapsI; omega)
  have hs := Lib.hid (show sealedI p = 1 + mapsI p + p from rfl)
  obtain ⟨m, hmm⟩ : ∃ m, m = mapsI p := ⟨_, rfl⟩
  rw [← hmm] at hm hs m0 m1
  clear hmm
  go_enter Try.func59, Try.ntmps59
  go_wp2_with fail
  refine wp_flows [(fun y_ _ => y_ = .pointer (some ⟨w.heap.size, 0, none⟩)), (fun y_ _ => y_ = .int .i64 p), (fun y_ _ => y_ = .int .i64 m), (fun y_ _ => y_ = .int .i64 (1 + m)), (fun y_ _ => y_ = .pointer (some ⟨w.heap.size, 0, none⟩)), (fun y_ _ => y_ = .int .i64 p), (fun y_ _ => y_ = .int .i64 (1 + m + p)), (fun y_ _ => y_ = .int .i64 (1 + m + p))] (by kernel_rfl) ⟨Stab.eq _, Stab.eq _, Stab.eq _, Stab.eq _, Stab.eq _, Stab.eq _, Stab.eq _, Stab.eq _, trivial⟩ (by kernel_rfl) (by rfl) ?_ ?_
  · intro kq hkq
    match kq, hkq with
    | 0, _ =>
      refine StepOk.plain _ 3 rfl rfl rfl [(1, none)] (by kernel_rfl) (fun af wf hbw hf Kf hKf => ?_)
      obtain ⟨g1, _⟩ := hf
      have h1 : af.tmps[1]?.getD undef = .pointer (some ⟨w.heap.size, 0, none⟩) := g1
      clear g1
      go_simp
      exact hKf _ _ (Below.refl _ _) rfl
    | 1, _ =>
      refine StepOk.plain _ 4 rfl rfl rfl [(3, some 0)] (by kernel_rfl) (fun af wf hbw hf Kf hKf => ?_)
      obtain ⟨g3, _⟩ := hf
      have h3 : af.tmps[3]?.getD undef = .pointer (some ⟨w.heap.size, 0, none⟩) := g3
      clear g3
      have cB0 := (Blk.on (Blk.drew (Blk.new w _ _)) hbw).cell
      go_simp
      exact hKf _ _ (Below.refl _ _) rfl
    | 2, _ =>
      refine StepOk.plain _ 5 rfl rfl rfl [(4, some 1)] (by kernel_rfl) (fun af wf hbw hf Kf hKf => ?_)
      obtain ⟨g4, _⟩ := hf
      have h4 : af.tmps[4]?.getD undef = .int .i64 p := g4
      clear g4
      go_simp
      refine (up_geo _ _ _ (by omega) (by omega) (by omega) (by omega)).mono ?_
      rintro e wN ⟨rfl, rfl⟩
      exact hKf _ _ (Below.refl _ _) (int_eq hm.out)
    | 3, _ =>
      refine StepOk.plain _ 6 rfl rfl rfl [(5, some 2)] (by kernel_rfl) (fun af wf hbw hf Kf hKf => ?_)
      obtain ⟨g5, _⟩ := hf
      have h5 : af.tmps[5]?.getD undef = .int .i64 m := g5
      clear g5
      have hwr : IntKind.i64.wrap (1 + m) = 1 + m := IntWalk.i64_in _ (by omega)
      go_simp
      exact hKf _ _ (Below.refl _ _) rfl
    | 4, _ =>
      refine StepOk.plain _ 7 rfl rfl rfl [(1, none)] (by kernel_rfl) (fun af wf hbw hf Kf hKf => ?_)
      obtain ⟨g1, _⟩ := hf
      have h1 : af.tmps[1]?.getD undef = .pointer (some ⟨w.heap.size, 0, none⟩) := g1
      clear g1
      go_simp
      exact hKf _ _ (Below.refl _ _) rfl
    | 5, _ =>
      refine StepOk.plain _ 8 rfl rfl rfl [(7, some 4)] (by kernel_rfl) (fun af wf hbw hf Kf hKf => ?_)
      obtain ⟨g7, _⟩ := hf
      have h7 : af.tmps[7]?.getD undef = .pointer (some ⟨w.heap.size, 0, none⟩) := g7
      clear g7
      have cB0 := (Blk.on (Blk.drew (Blk.new w _ _)) hbw).cell
      go_simp
      exact hKf _ _ (Below.refl _ _) rfl
    | 6, _ =>
      refine StepOk.plain _ 9 rfl rfl rfl [(6, some 3), (8, some 5)] (by kernel_rfl) (fun af wf hbw hf Kf hKf => ?_)
      obtain ⟨g6, g8, _⟩ := hf
      have h6 : af.tmps[6]?.getD undef = .int .i64 (1 + m) := g6
      have h8 : af.tmps[8]?.getD undef = .int .i64 p := g8
      clear g6 g8
      have hwr : IntKind.i64.wrap ((1 + m) + p) = (1 + m) + p := IntWalk.i64_in _ (by omega)
      go_simp
      exact hKf _ _ (Below.refl _ _) rfl
    | 7, _ =>
      refine StepOk.plain _ 2 rfl rfl rfl [(9, some 6)] (by kernel_rfl) (fun af wf hbw hf Kf hKf => ?_)
      obtain ⟨g9, _⟩ := hf
      have h9 : af.tmps[9]?.getD undef = .int .i64 (1 + m + p) := g9
      clear g9
      go_simp
      exact hKf _ _ (Below.refl _ _) rfl
    | i + 8, h => exact absurd h (by show ¬ (i + 8 < 8); omega)
  · intro af wF hbF hdF hsF hbaseF hfactF
    obtain ⟨T, dsF⟩ := af
    obtain rfl : dsF = _ := hdF
    have e0 := hbaseF 0 (not_dst (by kernel_rfl))
    simp only [List.getElem?_toArray, List.getElem?_cons_zero, Option.getD_some] at e0
    have e1 := hbaseF 1 (not_dst (by kernel_rfl))
    simp only [List.getElem?_toArray, List.getElem?_cons_zero, List.getElem?_cons_succ, Option.getD_some] at e1
    have e2 := hfactF 7 2 (by decide) rfl
    replace e2 : T[2]?.getD undef = .int .i64 (1 + m + p) := e2
    clear hbaseF hfactF
    have hT : T = #[T[0]?.getD undef, T[1]?.getD undef, T[2]?.getD undef, T[3]?.getD undef, T[4]?.getD undef, T[5]?.getD undef, T[6]?.getD undef, T[7]?.getD undef, T[8]?.getD undef, T[9]?.getD undef] := arr_eq T 10 hsF
    clear hsF
    rw [e0] at hT; clear e0
    rw [e1] at hT; clear e1
    rw [e2] at hT; clear e2
    generalize T[3]?.getD undef = u3 at hT
    generalize T[4]?.getD undef = u4 at hT
    generalize T[5]?.getD undef = u5 at hT
    generalize T[6]?.getD undef = u6 at hT
    generalize T[7]?.getD undef = u7 at hT
    generalize T[8]?.getD undef = u8 at hT
    generalize T[9]?.getD undef = u9 at hT
    subst hT
    go_wp2_with fail
    go_ret
    exact ⟨ret1 (int_eq hs.out.symm), (by (have q_hbF := Below.size hbF; (try simp at q_hbF); repeat (first | exact Below.refl _ _ | (refine Below.trans ?_ (Below.mono hbF (by first | omega | (simp; omega) | simp))) | (refine Below.setCell ?_ (by first | omega | (simp; omega) | simp) _) | (refine Below.alloc ?_ (by first | omega | (simp; omega) | simp) _) | apply Below.drew | apply below_drewN)))⟩

set_option maxHeartbeats 400000 in
theorem epochs1_any (p t : Int) (w : World) (h0 : 1 ≤ p) (h1 : p ≤ 64) :
    Calls Try.prog 60 #[.agg #[.int .i64 p, .int .i64 t]] w fun e w' => e = .returned (.int .i64 (epochsI p)) ∧ Below w.heap.size w w' := by
  obtain ⟨m0, m1, s0, s1, e0, e1⟩ := geo_range h0 h1
  go_enter Try.func60, Try.ntmps60
  go_wp2_with fail
  refine (sealed1_any p t _ h0 h1).mono ?_
  rintro e w1 ⟨rfl, hb1⟩
  go_wp2_with fail
  refine (up_geo _ _ _ (by omega) (by omega) (by omega) (by omega)).mono ?_
  rintro e w2 ⟨rfl, rfl⟩
  go_wp2_with fail
  go_ret
  exact ⟨ret1 (int_eq (by unfold epochsI; omega)), (by (have q_hb1 := Below.size hb1; (try simp at q_hb1); repeat (first | exact Below.refl _ _ | (refine Below.trans ?_ (Below.mono hb1 (by first | omega | (simp; omega) | simp))) | (refine Below.setCell ?_ (by first | omega | (simp; omega) | simp) _) | (refine Below.alloc ?_ (by first | omega | (simp; omega) | simp) _) | apply Below.drew | apply below_drewN)))⟩

set_option maxHeartbeats 400000 in
theorem logs1_any (p t : Int) (w : World) (h0 : 0 ≤ t) (h1 : t ≤ 24) :
    Calls Try.prog 64 #[.agg #[.int .i64 p, .int .i64 t]] w fun e w' => e = .returned (.int .i64 (1 + t)) ∧ Below w.heap.size w w' := by
  go_enter Try.func64, Try.ntmps64
  go_wp2_with fail
  go_ret
  exact ⟨rfl, (by (repeat (first | exact Below.refl _ _ | (refine Below.setCell ?_ (by first | omega | (simp; omega) | simp) _) | (refine Below.alloc ?_ (by first | omega | (simp; omega) | simp) _) | apply Below.drew | apply below_drewN)))⟩

set_option maxHeartbeats 400000 in
theorem supers1_any (p t : Int) (w : World) :
    Calls Try.prog 85 #[.agg #[.int .i64 p, .int .i64 t]] w fun e w' => e = .returned (.int .i64 1) ∧ Below w.heap.size w w' := by
  go_enter Try.func85, Try.ntmps85
  go_wp2_with fail
  go_ret
  exact ⟨rfl, (by (repeat (first | exact Below.refl _ _ | (refine Below.setCell ?_ (by first | omega | (simp; omega) | simp) _) | (refine Below.alloc ?_ (by first | omega | (simp; omega) | simp) _) | apply Below.drew | apply below_drewN)))⟩

/-- The four counts, as functions. -/
def kindsV : Value := .agg #[.func (Fn.func 85) #[] #[], .func (Fn.func 60) #[] #[], .func (Fn.func 59) #[] #[], .func (Fn.func 64) #[] #[]]
theorem kx0 : ∀ w : World, (Instr.index 88 kindsV (.int .i64 0)).run Try.prog w = .ok (.func (Fn.func 85) #[] #[]) w := fun _ => by kernel_rfl
theorem kx1 : ∀ w : World, (Instr.index 88 kindsV (.int .i64 1)).run Try.prog w = .ok (.func (Fn.func 60) #[] #[]) w := fun _ => by kernel_rfl
theorem kx2 : ∀ w : World, (Instr.index 88 kindsV (.int .i64 2)).run Try.prog w = .ok (.func (Fn.func 59) #[] #[]) w := fun _ => by kernel_rfl
theorem kx3 : ∀ w : World, (Instr.index 88 kindsV (.int .i64 3)).run Try.prog w = .ok (.func (Fn.func 64) #[] #[]) w := fun _ => by kernel_rfl

set_option maxHeartbeats 400000 in
theorem kinds_any (w : World) :
    Calls Try.prog 66 #[] w fun e w' => e = .returned kindsV ∧ Below w.heap.size w w' := by
  go_enter Try.func66, Try.ntmps66
  go_wp2_with fail

  refine bodyPost_ret (v := kindsV) (by simp [results, Try.results66, go_sem, kindsV]) rfl ⟨rfl, (by (repeat (first | exact Below.refl _ _ | (refine Below.setCell ?_ (by first | omega | (simp; omega) | simp) _) | (refine Below.alloc ?_ (by first | omega | (simp; omega) | simp) _) | apply Below.drew | apply below_drewN)))⟩
end Go.Proofs.Ythepgnankelmeaa
