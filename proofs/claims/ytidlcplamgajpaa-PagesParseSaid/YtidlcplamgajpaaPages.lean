/- Pages: one page, and what it may be. -/
import Derived.Test.YtidlcplamgajpaaClassP
import Derived.Test.YtidlcplamgajpaaSlices
import Derived.Test.YtidlcplamgajpaaFlow
import Derived.Laws.EntriesVeiled

namespace Go.Proofs.Ytidlcplamgajpaa
open Go.RowKit

/-- A page: kind, class, run, size, serial. -/
abbrev Pg := Int × Int × Int × Int × Int
def pgV (p : Pg) : Value := .agg #[.int .i64 p.1, .int .i64 p.2.1, .int .i64 p.2.2.1, .int .i64 p.2.2.2.1, .int .u64 p.2.2.2.2]
def pgE : Enc Pg where
  sz := 5
  f p := [.int .i64 p.1, .int .i64 p.2.1, .int .i64 p.2.2.1, .int .i64 p.2.2.2.1, .int .u64 p.2.2.2.2]
  len _ := rfl
  pos := by decide
  one p u hu := by simp at hu; rcases hu with rfl | rfl | rfl | rfl | rfl <;> rfl
/-- Are two pages the same? -/
def eqPg (p q : Pg) : Bool := decide (p = q)
theorem run_eql_pg (a1 a2 a3 a4 a5 b1 b2 b3 b4 b5 : Int) : ∀ w : World, (binOp .eql 65 (.agg #[.int .i64 a1, .int .i64 a2, .int .i64 a3, .int .i64 a4, .int .u64 a5]) (.agg #[.int .i64 b1, .int .i64 b2, .int .i64 b3, .int .i64 b4, .int .u64 b5])).run Try.prog w =
    .ok (.bool (eqPg (a1, a2, a3, a4, a5) (b1, b2, b3, b4, b5))) w := by
  intro w
  unfold eqPg
  have u3 := Try.underlying3
  have u4 := Try.underlying31
  have ag3 := Try.isAgg3
  have z3 := Try.sizeOf3
  have ag4 := Try.isAgg31
  have z4 := Try.sizeOf31
  have hS : Try.prog.underlying 65 = some (.struct (Try.prog.fieldsOf 65)) := by kernel_rfl
  have hp : Try.prog.stoodInHeld 65 = false := by kernel_rfl
  rw [run_eql_struct, show (10000 : Nat) = 9999 + 1 from rfl, run_equalIn_agg w 9999 65 _ _ hS hp]
  simp only [Program.fieldsOf, Try.underlying65]
  go_simp
  by_cases h1 : a1 = b1 <;> by_cases h2 : a2 = b2 <;> by_cases h3 : a3 = b3 <;> by_cases h4 : a4 = b4 <;> by_cases h5 : a5 = b5 <;> simp_all
theorem plain_any (k : Int) (w : World) :
    Calls Try.prog 40 #[.int .i64 k] w fun e w' => e = .returned (.agg #[.int .i64 k, .int .i64 0, .int .i64 0, .int .i64 0, .int .u64 0]) ∧ Below w.heap.size w w' := by
  go_enter Try.func40, Try.ntmps40
  go_wp2_with fail
  have R1 := Blk.new w 65 #[.int .i64 k, .int .i64 0, .int .i64 0, .int .i64 0, .int .u64 0]
  have e0 := R1.cell 0
  have e1 := R1.cell 1
  have e2 := R1.cell 2
  have e3 := R1.cell 3
  have e4 := R1.cell 4
  exact bodyPost_ret (v := .agg #[.int .i64 k, .int .i64 0, .int .i64 0, .int .i64 0, .int .u64 0]) (by simp [results, Try.results40, go_sem, e0, e1, e2, e3, e4]) rfl ⟨rfl, (by (repeat (first | exact Below.refl _ _ | (refine Below.setCell ?_ (by first | omega | (simp; omega) | simp) _) | (refine Below.alloc ?_ (by first | omega | (simp; omega) | simp) _) | apply Below.drew | apply below_drewN)))⟩

def freeB (p : Pg) : Bool := eqPg p (0, 0, 0, 0, 0)
def tailB (p : Pg) : Bool := eqPg p (3, 0, 0, 0, 0)
def slotsB (p : Pg) : Bool := eqPg p (1, p.2.1, 0, 0, 0) && decide (sizeI p.2.1 > 0)
def longB (n : Int) : Bool := decide (121 ≤ n ∧ n ≤ 4096)
def headB (p : Pg) : Bool := longB p.2.2.2.1 && (eqPg p (2, 0, pagesC p.2.2.2.1, p.2.2.2.1, p.2.2.2.2) && decide (0 < p.2.2.2.2 ∧ p.2.2.2.2 ≤ 281474976710655))
def mayB (p : Pg) : Bool := freeB p || (slotsB p || (headB p || tailB p))

theorem free_any (a b c d s : Int) (w : World) :
    Calls Try.prog 28 #[.agg #[.int .i64 a, .int .i64 b, .int .i64 c, .int .i64 d, .int .u64 s]] w fun e w' => e = .returned (.bool (freeB (a, b, c, d, s))) ∧ Below w.heap.size w w' := by
  have B1 := Blk.new w 65 #[.int .i64 a, .int .i64 b, .int .i64 c, .int .i64 d, .int .u64 s]
  go_enter Try.func28, Try.ntmps28
  go_wp2_with fail
  refine wp_flows [(fun y_ _ => y_ = .agg #[.int .i64 a, .int .i64 b, .int .i64 c, .int .i64 d, .int .u64 s]), (fun y_ _ => y_ = .agg #[.int .i64 0, .int .i64 0, .int .i64 0, .int .i64 0, .int .u64 0]), (fun y_ _ => y_ = .bool (eqPg (a, b, c, d, s) (0, 0, 0, 0, 0))), (fun y_ _ => y_ = .bool (eqPg (a, b, c, d, s) (0, 0, 0, 0, 0)))] (by kernel_rfl) ⟨Stab.eq _, Stab.eq _, Stab.eq _, Stab.eq _, trivial⟩ (by kernel_rfl) (by rfl) ?_ ?_
  · intro kq hkq
    match kq, hkq with
    | 0, _ =>
      refine StepOk.plain _ 3 rfl rfl rfl [(1, none)] (by kernel_rfl) (fun af wf hbw hf Kf hKf => ?_)
      obtain ⟨g1, _⟩ := hf
      have h1 : af.tmps[1]?.getD undef = .pointer (some ⟨w.heap.size, 0, none⟩) := g1
      clear g1
      have cB0 := (Blk.on (Blk.drew (B1)) hbw).cell
      go_simp
      exact hKf _ _ (Below.refl _ _) rfl
    | 1, _ =>
      refine StepOk.plain _ 4 rfl rfl rfl [] (by kernel_rfl) (fun af wf hbw hf Kf hKf => ?_)
      go_simp
      refine (plain_any 0 _).mono ?_
      rintro e wN ⟨rfl, hb⟩
      exact hKf _ _ (hb) (rfl)
    | 2, _ =>
      refine StepOk.plain _ 5 rfl rfl rfl [(3, some 0), (4, some 1)] (by kernel_rfl) (fun af wf hbw hf Kf hKf => ?_)
      obtain ⟨g3, g4, _⟩ := hf
      have h3 : af.tmps[3]?.getD undef = .agg #[.int .i64 a, .int .i64 b, .int .i64 c, .int .i64 d, .int .u64 s] := g3
      have h4 : af.tmps[4]?.getD undef = .agg #[.int .i64 0, .int .i64 0, .int .i64 0, .int .i64 0, .int .u64 0] := g4
      clear g3 g4
      have hq := run_eql_pg a b c d s 0 0 0 0 0
      go_simp
      exact hKf _ _ (Below.refl _ _) rfl
    | 3, _ =>
      refine StepOk.plain _ 2 rfl rfl rfl [(5, some 2)] (by kernel_rfl) (fun af wf hbw hf Kf hKf => ?_)
      obtain ⟨g5, _⟩ := hf
      have h5 : af.tmps[5]?.getD undef = .bool (eqPg (a, b, c, d, s) (0, 0, 0, 0, 0)) := g5
      clear g5
      go_simp
      exact hKf _ _ (Below.refl _ _) rfl
    | i + 4, h => exact absurd h (by show ¬ (i + 4 < 4); omega)
  · intro af wF hbF hdF hsF hbaseF hfactF
    obtain ⟨T, dsF⟩ := af
    obtain rfl : dsF = _ := hdF
    have e2 := hfactF 3 2 (by decide) rfl
    replace e2 : T[2]?.getD undef = .bool (eqPg (a, b, c, d, s) (0, 0, 0, 0, 0)) := e2
    have hT := frame_back T [2, 3, 4, 5] hbaseF hsF (by kernel_rfl)
    simp only [List.foldl_cons, List.foldl_nil, List.setIfInBounds_toArray, List.set_cons_zero, List.set_cons_succ] at hT
    clear hbaseF hfactF hsF
    rw [e2] at hT; clear e2
    generalize T[3]?.getD undef = u3 at hT
    generalize T[4]?.getD undef = u4 at hT
    generalize T[5]?.getD undef = u5 at hT
    subst hT
    go_wp2_with fail
    go_ret
    exact ⟨rfl, (by (have q_hbF := Below.size hbF; (try simp at q_hbF); repeat (first | exact Below.refl _ _ | (refine Below.trans ?_ (Below.mono hbF (by first | omega | (simp; omega) | simp))) | (refine Below.setCell ?_ (by first | omega | (simp; omega) | simp) _) | (refine Below.alloc ?_ (by first | omega | (simp; omega) | simp) _) | apply Below.drew | apply below_drewN)))⟩
theorem tail_any (a b c d s : Int) (w : World) :
    Calls Try.prog 36 #[.agg #[.int .i64 a, .int .i64 b, .int .i64 c, .int .i64 d, .int .u64 s]] w fun e w' => e = .returned (.bool (tailB (a, b, c, d, s))) ∧ Below w.heap.size w w' := by
  have B1 := Blk.new w 65 #[.int .i64 a, .int .i64 b, .int .i64 c, .int .i64 d, .int .u64 s]
  go_enter Try.func36, Try.ntmps36
  go_wp2_with fail
  refine wp_flows [(fun y_ _ => y_ = .agg #[.int .i64 a, .int .i64 b, .int .i64 c, .int .i64 d, .int .u64 s]), (fun y_ _ => y_ = .agg #[.int .i64 3, .int .i64 0, .int .i64 0, .int .i64 0, .int .u64 0]), (fun y_ _ => y_ = .bool (eqPg (a, b, c, d, s) (3, 0, 0, 0, 0))), (fun y_ _ => y_ = .bool (eqPg (a, b, c, d, s) (3, 0, 0, 0, 0)))] (by kernel_rfl) ⟨Stab.eq _, Stab.eq _, Stab.eq _, Stab.eq _, trivial⟩ (by kernel_rfl) (by rfl) ?_ ?_
  · intro kq hkq
    match kq, hkq with
    | 0, _ =>
      refine StepOk.plain _ 3 rfl rfl rfl [(1, none)] (by kernel_rfl) (fun af wf hbw hf Kf hKf => ?_)
      obtain ⟨g1, _⟩ := hf
      have h1 : af.tmps[1]?.getD undef = .pointer (some ⟨w.heap.size, 0, none⟩) := g1
      clear g1
      have cB0 := (Blk.on (Blk.drew (B1)) hbw).cell
      go_simp
      exact hKf _ _ (Below.refl _ _) rfl
    | 1, _ =>
      refine StepOk.plain _ 4 rfl rfl rfl [] (by kernel_rfl) (fun af wf hbw hf Kf hKf => ?_)
      go_simp
      refine (plain_any 3 _).mono ?_
      rintro e wN ⟨rfl, hb⟩
      exact hKf _ _ (hb) (rfl)
    | 2, _ =>
      refine StepOk.plain _ 5 rfl rfl rfl [(3, some 0), (4, some 1)] (by kernel_rfl) (fun af wf hbw hf Kf hKf => ?_)
      obtain ⟨g3, g4, _⟩ := hf
      have h3 : af.tmps[3]?.getD undef = .agg #[.int .i64 a, .int .i64 b, .int .i64 c, .int .i64 d, .int .u64 s] := g3
      have h4 : af.tmps[4]?.getD undef = .agg #[.int .i64 3, .int .i64 0, .int .i64 0, .int .i64 0, .int .u64 0] := g4
      clear g3 g4
      have hq := run_eql_pg a b c d s 3 0 0 0 0
      go_simp
      exact hKf _ _ (Below.refl _ _) rfl
    | 3, _ =>
      refine StepOk.plain _ 2 rfl rfl rfl [(5, some 2)] (by kernel_rfl) (fun af wf hbw hf Kf hKf => ?_)
      obtain ⟨g5, _⟩ := hf
      have h5 : af.tmps[5]?.getD undef = .bool (eqPg (a, b, c, d, s) (3, 0, 0, 0, 0)) := g5
      clear g5
      go_simp
      exact hKf _ _ (Below.refl _ _) rfl
    | i + 4, h => exact absurd h (by show ¬ (i + 4 < 4); omega)
  · intro af wF hbF hdF hsF hbaseF hfactF
    obtain ⟨T, dsF⟩ := af
    obtain rfl : dsF = _ := hdF
    have e2 := hfactF 3 2 (by decide) rfl
    replace e2 : T[2]?.getD undef = .bool (eqPg (a, b, c, d, s) (3, 0, 0, 0, 0)) := e2
    have hT := frame_back T [2, 3, 4, 5] hbaseF hsF (by kernel_rfl)
    simp only [List.foldl_cons, List.foldl_nil, List.setIfInBounds_toArray, List.set_cons_zero, List.set_cons_succ] at hT
    clear hbaseF hfactF hsF
    rw [e2] at hT; clear e2
    generalize T[3]?.getD undef = u3 at hT
    generalize T[4]?.getD undef = u4 at hT
    generalize T[5]?.getD undef = u5 at hT
    subst hT
    go_wp2_with fail
    go_ret
    exact ⟨rfl, (by (have q_hbF := Below.size hbF; (try simp at q_hbF); repeat (first | exact Below.refl _ _ | (refine Below.trans ?_ (Below.mono hbF (by first | omega | (simp; omega) | simp))) | (refine Below.setCell ?_ (by first | omega | (simp; omega) | simp) _) | (refine Below.alloc ?_ (by first | omega | (simp; omega) | simp) _) | apply Below.drew | apply below_drewN)))⟩
theorem taken_any (a b c d s : Int) (w : World) :
    Calls Try.prog 38 #[.agg #[.int .i64 a, .int .i64 b, .int .i64 c, .int .i64 d, .int .u64 s]] w fun e w' => e = .returned (.bool (!freeB (a, b, c, d, s))) ∧ Below w.heap.size w w' := by
  go_enter Try.func38, Try.ntmps38
  go_wp2_with fail
  refine (free_any a b c d s _).mono ?_
  rintro e w1 ⟨rfl, hb1⟩
  go_wp2_with fail
  go_ret
  exact ⟨rfl, (by (have q_hb1 := Below.size hb1; (try simp at q_hb1); repeat (first | exact Below.refl _ _ | (refine Below.trans ?_ (Below.mono hb1 (by first | omega | (simp; omega) | simp))) | (refine Below.setCell ?_ (by first | omega | (simp; omega) | simp) _) | (refine Below.alloc ?_ (by first | omega | (simp; omega) | simp) _) | apply Below.drew | apply below_drewN)))⟩

set_option maxHeartbeats 1000000 in
theorem slotsP_any (a b c d s : Int) (w : World) :
    Calls Try.prog 62 #[.agg #[.int .i64 a, .int .i64 b, .int .i64 c, .int .i64 d, .int .u64 s]] w fun e w' => e = .returned (.bool (slotsB (a, b, c, d, s))) ∧ Below w.heap.size w w' := by
  have hq := run_eql_pg a b c d s 1 b 0 0 0
  cases hb : eqPg (a, b, c, d, s) (1, b, 0, 0, 0)
  · have hr := Lib.hid (show slotsB (a, b, c, d, s) = false by unfold slotsB; rw [hb]; rfl)
    go_enter Try.func62, Try.ntmps62
    go_wp2_with fail
    go_ret
    exact ⟨by rw [hr.out]; rfl, (by (repeat (first | exact Below.refl _ _ | (refine Below.setCell ?_ (by first | omega | (simp; omega) | simp) _) | (refine Below.alloc ?_ (by first | omega | (simp; omega) | simp) _) | apply Below.drew | apply below_drewN)))⟩
  · have hr := Lib.hid (show slotsB (a, b, c, d, s) = decide (sizeI b > 0) by unfold slotsB; rw [hb]; rfl)
    go_enter Try.func62, Try.ntmps62
    go_wp2_with fail
    refine (size_any b _).mono ?_
    rintro e w1 ⟨rfl, rfl⟩
    go_wp2_with fail
    go_ret
    exact ⟨by rw [hr.out]; rfl, (by (repeat (first | exact Below.refl _ _ | (refine Below.setCell ?_ (by first | omega | (simp; omega) | simp) _) | (refine Below.alloc ?_ (by first | omega | (simp; omega) | simp) _) | apply Below.drew | apply below_drewN)))⟩

set_option maxHeartbeats 1000000 in
theorem headP_any (a b c d s : Int) (w : World) :
    Calls Try.prog 63 #[.agg #[.int .i64 a, .int .i64 b, .int .i64 c, .int .i64 d, .int .u64 s]] w fun e w' => e = .returned (.bool (headB (a, b, c, d, s))) ∧ Below w.heap.size w w' := by
  by_cases hl : 121 ≤ d ∧ d ≤ 4096
  · have hq := run_eql_pg a b c d s 2 0 (pagesC d) d s
    cases hb : eqPg (a, b, c, d, s) (2, 0, pagesC d, d, s)
    · have hr := Lib.hid (show headB (a, b, c, d, s) = false by unfold headB; simp only []; rw [hb]; simp)
      go_enter Try.func63, Try.ntmps63
      go_wp2_with fail
      refine (pages_yes d _ hl.1 hl.2).mono ?_
      rintro e w1 ⟨rfl, rfl⟩
      go_wp2_with fail
      go_ret
      exact ⟨by rw [hr.out]; rfl, (by (repeat (first | exact Below.refl _ _ | (refine Below.setCell ?_ (by first | omega | (simp; omega) | simp) _) | (refine Below.alloc ?_ (by first | omega | (simp; omega) | simp) _) | apply Below.drew | apply below_drewN)))⟩
    · have hr := Lib.hid (show headB (a, b, c, d, s) = decide (0 < s ∧ s ≤ 281474976710655) by unfold headB longB; simp only []; rw [hb, decide_eq_true hl]; simp)
      have hcase : s ≤ 0 ∨ (0 < s ∧ s ≤ 281474976710655) ∨ (0 < s ∧ 281474976710655 < s) := by omega
      rcases hcase with h | ⟨h, h'⟩ | ⟨h, h'⟩
      all_goals
        go_enter Try.func63, Try.ntmps63
        go_wp2_with fail
        refine (pages_yes d _ hl.1 hl.2).mono ?_
        rintro e w1 ⟨rfl, rfl⟩
        go_wp2_with fail
        go_ret
        refine ⟨?_, (by (repeat (first | exact Below.refl _ _ | (refine Below.setCell ?_ (by first | omega | (simp; omega) | simp) _) | (refine Below.alloc ?_ (by first | omega | (simp; omega) | simp) _) | apply Below.drew | apply below_drewN)))⟩
        rw [hr.out]
        refine ret_bool ?_
        symm
        simp
        omega
  · have hr := Lib.hid (show headB (a, b, c, d, s) = false by unfold headB longB; simp only []; rw [decide_eq_false hl]; rfl)
    have hd : d < 121 ∨ 4096 < d := by omega
    clear hl
    go_enter Try.func63, Try.ntmps63
    go_wp2_with fail
    refine (pages_no d _ hd).mono ?_
    rintro e w1 ⟨rfl, rfl⟩
    go_wp2_with fail
    go_ret
    exact ⟨by rw [hr.out]; rfl, (by (repeat (first | exact Below.refl _ _ | (refine Below.setCell ?_ (by first | omega | (simp; omega) | simp) _) | (refine Below.alloc ?_ (by first | omega | (simp; omega) | simp) _) | apply Below.drew | apply below_drewN)))⟩
end Go.Proofs.Ytidlcplamgajpaa
