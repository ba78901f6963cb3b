/- Logs: are two the same? -/
import Derived.Test.YthepgnankelmeaaLog2
import Derived.Test.YthepgnankelmeaaConcat
import Derived.Test.YthepgnankelmeaaSuper9
import Derived.Test.YthepgnankelmeaaSuper
namespace Go.Proofs.Ythepgnankelmeaa
open Go.RowKit

theorem entsame_any (K1 K2 : Int) (A1 A2 : Option Addr) (n1 c1 n2 c2 : Nat) (L1 L2 : List UInt8) (w : World) (h1 : Rd w A1 n1 L1) (h2 : Rd w A2 n2 L2) :
    Calls Try.prog 82 #[.agg #[.int .i64 K1, .slice A1 n1 c1], .agg #[.int .i64 K2, .slice A2 n2 c2]] w fun e w' => e = .returned (.bool (decide (((K1, L1) : Ent) = (K2, L2)))) ∧ Below w.heap.size w w' := by
  by_cases hK : K1 = K2
  · subst hK
    have hr := Lib.hid (show decide (((K1, L1) : Ent) = (K1, L2)) = decide (L1 = L2) by simp)
    go_enter Try.func82, Try.ntmps82
    go_wp2_with fail
    refine (equal_any A1 A2 n1 n2 c1 c2 L1 L2 _ ((h1.alloc _).alloc _) ((h2.alloc _).alloc _)).mono ?_
    rintro e w1 ⟨rfl, rfl⟩
    go_wp2_with fail
    go_ret
    exact ⟨by rw [hr.out]; rfl, (by (repeat (first | exact Below.refl _ _ | (refine Below.setCell ?_ (by first | omega | (simp; omega) | simp) _) | (refine Below.alloc ?_ (by first | omega | (simp; omega) | simp) _) | apply Below.drew | apply below_drewN)))⟩
  · have hr := Lib.hid (show decide (((K1, L1) : Ent) = (K2, L2)) = false by simp [hK])
    have hb : (K1 == K2) = false := by simp [hK]
    clear hK
    go_enter Try.func82, Try.ntmps82
    go_wp2_with fail
    go_ret
    exact ⟨by rw [hr.out]; rfl, (by (repeat (first | exact Below.refl _ _ | (refine Below.setCell ?_ (by first | omega | (simp; omega) | simp) _) | (refine Below.alloc ?_ (by first | omega | (simp; omega) | simp) _) | apply Below.drew | apply below_drewN)))⟩

theorem ents_step {a b : List Ent} {k : Nat} {x : Ent} (h : a.take k = b.take k) (ha : a[k]? = some x) (hb : b[k]? = some x) : a.take (k + 1) = b.take (k + 1) := by rw [take_step ha, take_step hb, h]
theorem ents_ne {a b : List Ent} {k : Nat} {x y : Ent} (ha : a[k]? = some x) (hb : b[k]? = some y) (h : x ≠ y) : a ≠ b := by
  intro e
  rw [e, hb] at ha
  injection ha with ha
  exact h ha.symm
theorem ents_len {a b : List Ent} {n m : Nat} (ha : a.length = n) (hb : b.length = m) (h : n ≠ m) : a ≠ b := fun e => h (by rw [← ha, ← hb, e])

set_option maxRecDepth 100000 in
set_option maxHeartbeats 4000000 in
theorem eqfunc_any (A1 A2 : Option Addr) (n m c1 c2 B1 B2 : Nat) (T1 T2 : TypeId) (a b : List Ent) (w : World) (h1 : RdR entK B1 T1 w A1 n a) (h2 : RdR entK B2 T2 w A2 m b) (hn : n ≤ 1000000) :
    Calls Try.prog 81 #[.slice A1 n c1, .slice A2 m c2, .func (Fn.func 82) #[] #[]] w fun e w' => e = .returned (.bool (decide (a = b))) ∧ Below w.heap.size w w' := by
  by_cases hnm : n = m
  · subst hnm
    go_enter Try.func81, Try.ntmps81
    go_wp2_with fail
    go_loopw [17] (fun i wr => ∃ k : Nat, k ≤ n ∧ i = .int .i64 k ∧ a.take k = b.take k ∧ Below w.heap.size w wr) (fun i _ => n - (intOf i).toNat)
    case atStart => exact ⟨0, by omega, rfl, rfl, Below.refl _ _⟩
    case round =>
      obtain ⟨k, hk, rfl, heq, hbel⟩ := hrel
      have HEQ := Lib.hid heq
      clear heq
      by_cases hlt : k < n
      · obtain ⟨b1, off1, K1, Ad1, nd1, cd1, L1, rfl, hb1, he1, c0, c1', hX1, hnd1, hcd1⟩ := (h1.below hbel).ent hlt
        obtain ⟨b2, off2, K2, Ad2, nd2, cd2, L2, rfl, hb2, he2, d0, d1, hX2, hnd2, hcd2⟩ := (h2.below hbel).ent hlt
        have HE1 := Lib.hid he1
        have HE2 := Lib.hid he2
        have q1 : (k : Int) < n := by omega
        clear he1 he2
        go_wp2_with fail
        refine (entsame_any K1 K2 Ad1 Ad2 nd1 cd1 nd2 cd2 L1 L2 _ ((hX1.1.alloc _).alloc _) ((hX2.1.alloc _).alloc _)).mono ?_
        rintro e w1 ⟨rfl, hb3⟩
        by_cases hx : ((K1, L1) : Ent) = (K2, L2)
        · have hst := Lib.hid (ents_step HEQ.out HE1.out (by rw [hx]; exact HE2.out))
          have hd : decide (((K1, L1) : Ent) = (K2, L2)) = true := decide_eq_true hx
          rw [hd]
          clear hx hd
          go_wp2_with fail
          go_roundw
          case rel => exact ⟨k + 1, by omega, by go_num, hst.out, (by (have q_hb3 := Below.size hb3; (try simp at q_hb3); have q_hbel := Below.size hbel; (try simp at q_hbel); repeat (first | exact Below.refl _ _ | (refine Below.trans ?_ (Below.mono hb3 (by first | omega | (simp; omega) | simp))) | (refine Below.trans ?_ (Below.mono hbel (by first | omega | (simp; omega) | simp))) | (refine Below.setCell ?_ (by first | omega | (simp; omega) | simp) _) | (refine Below.alloc ?_ (by first | omega | (simp; omega) | simp) _) | apply Below.drew | apply below_drewN)))⟩
          case measure => simp [intOf] <;> omega
        · have hst := Lib.hid (show decide (a = b) = false from decide_eq_false (ents_ne HE1.out HE2.out hx))
          have hd : decide (((K1, L1) : Ent) = (K2, L2)) = false := decide_eq_false hx
          rw [hd]
          clear hx hd
          go_wp2_with fail
          go_ret
          exact ⟨by rw [hst.out]; rfl, (by (have q_hb3 := Below.size hb3; (try simp at q_hb3); have q_hbel := Below.size hbel; (try simp at q_hbel); repeat (first | exact Below.refl _ _ | (refine Below.trans ?_ (Below.mono hb3 (by first | omega | (simp; omega) | simp))) | (refine Below.trans ?_ (Below.mono hbel (by first | omega | (simp; omega) | simp))) | (refine Below.setCell ?_ (by first | omega | (simp; omega) | simp) _) | (refine Below.alloc ?_ (by first | omega | (simp; omega) | simp) _) | apply Below.drew | apply below_drewN)))⟩
      · obtain rfl : k = n := by omega
        have hst := Lib.hid (show decide (a = b) = true from decide_eq_true (by have := HEQ.out; rw [List.take_of_length_le (by rw [h1.len]; omega), List.take_of_length_le (by rw [h2.len]; omega)] at this; exact this))
        go_wp2_with fail
        go_ret
        exact ⟨by rw [hst.out]; rfl, hbel⟩
  · have hst := Lib.hid (show decide (a = b) = false from decide_eq_false (ents_len h1.len h2.len hnm))
    have hb : ((n : Int) != (m : Int)) = true := by simp; omega
    clear hnm
    go_enter Try.func81, Try.ntmps81
    go_wp2_with fail
    go_ret
    exact ⟨by rw [hst.out]; rfl, Below.refl _ _⟩

def sameLog (x y : Int) (a b : List Ent) : Bool := decide (x = y) && decide (a = b)
set_option maxHeartbeats 1000000 in
theorem logsame_any (x y : Int) (A1 A2 : Option Addr) (n m c1 c2 B1 B2 : Nat) (T1 T2 : TypeId) (a b : List Ent) (w : World) (h1 : RdR entK B1 T1 w A1 n a) (h2 : RdR entK B2 T2 w A2 m b) (hn : n ≤ 1000000) :
    Calls Try.prog 46 #[.agg #[.int .u64 x, .slice A1 n c1], .agg #[.int .u64 y, .slice A2 m c2]] w fun e w' => e = .returned (.bool (sameLog x y a b)) ∧ Below w.heap.size w w' := by
  by_cases hx : x = y
  · subst hx
    have hr := Lib.hid (show sameLog x x a b = decide (a = b) by simp [sameLog])
    go_enter Try.func46, Try.ntmps46
    go_wp2_with fail
    refine (eqfunc_any A1 A2 n m c1 c2 B1 B2 T1 T2 a b _ ((h1.alloc _).alloc _) ((h2.alloc _).alloc _) hn).mono ?_
    rintro e w1 ⟨rfl, hb1⟩
    go_wp2_with fail
    go_ret
    exact ⟨by rw [hr.out]; rfl, (by (have q_hb1 := Below.size hb1; (try simp at q_hb1); repeat (first | exact Below.refl _ _ | (refine Below.trans ?_ (Below.mono hb1 (by first | omega | (simp; omega) | simp))) | (refine Below.setCell ?_ (by first | omega | (simp; omega) | simp) _) | (refine Below.alloc ?_ (by first | omega | (simp; omega) | simp) _) | apply Below.drew | apply below_drewN)))⟩
  · have hr := Lib.hid (show sameLog x y a b = false by simp [sameLog, hx])
    have hb : (x == y) = false := by simp [hx]
    clear hx
    go_enter Try.func46, Try.ntmps46
    go_wp2_with fail
    go_ret
    exact ⟨by rw [hr.out]; rfl, (by (repeat (first | exact Below.refl _ _ | (refine Below.setCell ?_ (by first | omega | (simp; omega) | simp) _) | (refine Below.alloc ?_ (by first | omega | (simp; omega) | simp) _) | apply Below.drew | apply below_drewN)))⟩

set_option maxRecDepth 100000 in
set_option maxHeartbeats 8000000 in
theorem rlogsame_any (x y : Int) (A1 A2 : Option Addr) (n m c1 c2 B1 B2 : Nat) (T1 T2 : TypeId) (a b : List Ent) (w : World) (h1 : RdR entK B1 T1 w A1 n a) (h2 : RdR entK B2 T2 w A2 m b) (hn : n ≤ 1000000) :
    Calls Try.prog 41 #[.agg #[.int .u64 x, .slice A1 n c1], .agg #[.int .u64 y, .slice A2 m c2]] w fun e w' => e = .returned (.bool (sameLog x y a b)) ∧ Below w.heap.size w w' := by
  by_cases hx : x = y
  · subst hx
    have hr := Lib.hid (show sameLog x x a b = decide (a = b) by simp [sameLog])
    by_cases hnm : n = m
    · subst hnm
      have P0 : Blk ((w.alloc (.cells #[.int .u64 x, .slice A1 n c1] 49)).alloc (.cells #[.int .u64 x, .slice A2 n c2] 49)) w.heap.size 49 #[.int .u64 x, .slice A1 n c1] := (Blk.new _ _ _).alloc _
      have Q0 : Blk ((w.alloc (.cells #[.int .u64 x, .slice A1 n c1] 49)).alloc (.cells #[.int .u64 x, .slice A2 n c2] 49)) (w.heap.size + 1) 49 #[.int .u64 x, .slice A2 n c2] := by
        simpa using Blk.new (w.alloc (.cells #[.int .u64 x, .slice A1 n c1] 49)) 49 #[.int .u64 x, .slice A2 n c2]
      go_enter Try.func41, Try.ntmps41
      go_wp2_with fail
      go_loopw [23] (fun i wr => ∃ k : Nat, k ≤ n ∧ i = .int .i64 k ∧ a.take k = b.take k ∧ Blk wr w.heap.size 49 #[.int .u64 x, .slice A1 n c1] ∧ Blk wr (w.heap.size + 1) 49 #[.int .u64 x, .slice A2 n c2] ∧ Below w.heap.size w wr) (fun i _ => n - (intOf i).toNat)
      case atStart => exact ⟨0, by omega, rfl, rfl, P0, Q0, (by (repeat (first | exact Below.refl _ _ | (refine Below.setCell ?_ (by first | omega | (simp; omega) | simp) _) | (refine Below.alloc ?_ (by first | omega | (simp; omega) | simp) _) | apply Below.drew | apply below_drewN)))⟩
      case round =>
        clear P0 Q0
        obtain ⟨k, hk, rfl, heq, P0, Q0, hbel⟩ := hrel
        have HEQ := Lib.hid heq
        clear heq
        by_cases hlt : k < n
        · obtain ⟨b1, off1, K1, Ad1, nd1, cd1, L1, rfl, hb1, he1, c0, c1', hX1, hnd1, hcd1⟩ := (h1.below hbel).ent hlt
          obtain ⟨b2, off2, K2, Ad2, nd2, cd2, L2, rfl, hb2, he2, d0, d1, hX2, hnd2, hcd2⟩ := (h2.below hbel).ent hlt
          have HE1 := Lib.hid he1
          have HE2 := Lib.hid he2
          have q1 : (k : Int) < n := by omega
          clear he1 he2
          by_cases hK : K1 = K2
          · have hKb : (K1 != K2) = false := by simp [hK]
            by_cases hL : L1 = L2
            · have hst := Lib.hid (ents_step HEQ.out HE1.out (by rw [hK, hL]; exact HE2.out))
              have hq : ((str L1).toList == (str L2).toList) = true := by rw [str_toL, str_toL, hL]; simp
              clear hL hK
              go_wp2_with fail
              refine wp_flows [(fun y_ _ => y_ = .pointer (some ⟨w.heap.size, 1, none⟩)), (fun y_ _ => y_ = .slice (some ⟨b1, off1, none⟩) n c1), (fun y_ _ => y_ = .int .i64 (k : Int)), (fun y_ _ => y_ = .pointer (some ⟨b1, off1 + k * 2, none⟩)), (fun y_ _ => y_ = .pointer (some ⟨b1, off1 + k * 2, none⟩)), (fun y_ _ => y_ = .int .i64 K1), (fun y_ _ => y_ = .pointer (some ⟨w.heap.size + 1, 1, none⟩)), (fun y_ _ => y_ = .slice (some ⟨b2, off2, none⟩) n c2), (fun y_ _ => y_ = .int .i64 (k : Int)), (fun y_ _ => y_ = .pointer (some ⟨b2, off2 + k * 2, none⟩)), (fun y_ _ => y_ = .pointer (some ⟨b2, off2 + k * 2, none⟩)), (fun y_ _ => y_ = .int .i64 K2), (fun y_ _ => y_ = .bool false), (fun y_ _ => y_ = .bool false), (fun y_ _ => y_ = .pointer (some ⟨w.heap.size, 1, none⟩)), (fun y_ _ => y_ = .slice (some ⟨b1, off1, none⟩) n c1), (fun y_ _ => y_ = .int .i64 (k : Int)), (fun y_ _ => y_ = .pointer (some ⟨b1, off1 + k * 2, none⟩)), (fun y_ _ => y_ = .pointer (some ⟨b1, off1 + k * 2 + 1, none⟩)), (fun y_ _ => y_ = .slice Ad1 nd1 cd1), (fun y_ _ => y_ = .string (str L1)), (fun y_ _ => y_ = .pointer (some ⟨w.heap.size + 1, 1, none⟩)), (fun y_ _ => y_ = .slice (some ⟨b2, off2, none⟩) n c2), (fun y_ _ => y_ = .int .i64 (k : Int)), (fun y_ _ => y_ = .pointer (some ⟨b2, off2 + k * 2, none⟩)), (fun y_ _ => y_ = .pointer (some ⟨b2, off2 + k * 2 + 1, none⟩)), (fun y_ _ => y_ = .slice Ad2 nd2 cd2), (fun y_ _ => y_ = .string (str L2)), (fun y_ _ => y_ = .bool false), (fun y_ _ => y_ = .bool false)] (by kernel_rfl) ⟨Stab.eq _, Stab.eq _, Stab.eq _, Stab.eq _, Stab.eq _, Stab.eq _, Stab.eq _, Stab.eq _, Stab.eq _, Stab.eq _, Stab.eq _, Stab.eq _, Stab.eq _, Stab.eq _, Stab.eq _, Stab.eq _, Stab.eq _, Stab.eq _, Stab.eq _, Stab.eq _, Stab.eq _, Stab.eq _, Stab.eq _, Stab.eq _, Stab.eq _, Stab.eq _, Stab.eq _, Stab.eq _, Stab.eq _, Stab.eq _, trivial⟩ (by kernel_rfl) (by rfl) ?_ ?_
              · intro kq hkq
                match kq, hkq with
                | 0, _ =>
                  refine StepOk.plain _ 26 rfl rfl rfl [(2, none)] (by kernel_rfl) (fun af wf hbw hf Kf hKf => ?_)
                  obtain ⟨g2, _⟩ := hf
                  have h2 : af.tmps[2]?.getD undef = .pointer (some ⟨w.heap.size, 0, none⟩) := g2
                  clear g2
                  go_simp
                  exact hKf _ _ (Below.refl _ _) rfl
                | 1, _ =>
                  refine StepOk.plain _ 27 rfl rfl rfl [(26, some 0)] (by kernel_rfl) (fun af wf hbw hf Kf hKf => ?_)
                  obtain ⟨g26, _⟩ := hf
                  have h26 : af.tmps[26]?.getD undef = .pointer (some ⟨w.heap.size, 1, none⟩) := g26
                  clear g26
                  have cB0 := (Blk.on (Blk.drew (P0)) hbw).cell
                  have cB1 := (Blk.on (Blk.drew (Q0)) hbw).cell
                  go_simp
                  exact hKf _ _ (Below.refl _ _) rfl
                | 2, _ =>
                  refine StepOk.plain _ 28 rfl rfl rfl [(5, none)] (by kernel_rfl) (fun af wf hbw hf Kf hKf => ?_)
                  obtain ⟨g5, _⟩ := hf
                  have h5 : af.tmps[5]?.getD undef = .int .i64 (k : Int) := g5
                  clear g5
                  go_simp
                  exact hKf _ _ (Below.refl _ _) rfl
                | 3, _ =>
                  refine StepOk.plain _ 29 rfl rfl rfl [(27, some 1), (28, some 2)] (by kernel_rfl) (fun af wf hbw hf Kf hKf => ?_)
                  obtain ⟨g27, g28, _⟩ := hf
                  have h27 : af.tmps[27]?.getD undef = .slice (some ⟨b1, off1, none⟩) n c1 := g27
                  have h28 : af.tmps[28]?.getD undef = .int .i64 (k : Int) := g28
                  clear g27 g28
                  go_simp
                  exact hKf _ _ (Below.refl _ _) rfl
                | 4, _ =>
                  refine StepOk.plain _ 30 rfl rfl rfl [(29, some 3)] (by kernel_rfl) (fun af wf hbw hf Kf hKf => ?_)
                  obtain ⟨g29, _⟩ := hf
                  have h29 : af.tmps[29]?.getD undef = .pointer (some ⟨b1, off1 + k * 2, none⟩) := g29
                  clear g29
                  go_simp
                  exact hKf _ _ (Below.refl _ _) rfl
                | 5, _ =>
                  refine StepOk.plain _ 31 rfl rfl rfl [(30, some 4)] (by kernel_rfl) (fun af wf hbw hf Kf hKf => ?_)
                  obtain ⟨g30, _⟩ := hf
                  have h30 : af.tmps[30]?.getD undef = .pointer (some ⟨b1, off1 + k * 2, none⟩) := g30
                  clear g30
                  have cB0 := (Blk.on (Blk.drew (P0)) hbw).cell
                  have cB1 := (Blk.on (Blk.drew (Q0)) hbw).cell
                  have hcx := (Below.cell (p := ⟨b1, off1 + k * 2, none⟩) hbw hb1).trans c0
                  go_simp
                  exact hKf _ _ (Below.refl _ _) rfl
                | 6, _ =>
                  refine StepOk.plain _ 32 rfl rfl rfl [(3, none)] (by kernel_rfl) (fun af wf hbw hf Kf hKf => ?_)
                  obtain ⟨g3, _⟩ := hf
                  have h3 : af.tmps[3]?.getD undef = .pointer (some ⟨w.heap.size + 1, 0, none⟩) := g3
                  clear g3
                  go_simp
                  exact hKf _ _ (Below.refl _ _) rfl
                | 7, _ =>
                  refine StepOk.plain _ 33 rfl rfl rfl [(32, some 6)] (by kernel_rfl) (fun af wf hbw hf Kf hKf => ?_)
                  obtain ⟨g32, _⟩ := hf
                  have h32 : af.tmps[32]?.getD undef = .pointer (some ⟨w.heap.size + 1, 1, none⟩) := g32
                  clear g32
                  have cB0 := (Blk.on (Blk.drew (P0)) hbw).cell
                  have cB1 := (Blk.on (Blk.drew (Q0)) hbw).cell
                  go_simp
                  exact hKf _ _ (Below.refl _ _) rfl
                | 8, _ =>
                  refine StepOk.plain _ 34 rfl rfl rfl [(5, none)] (by kernel_rfl) (fun af wf hbw hf Kf hKf => ?_)
                  obtain ⟨g5, _⟩ := hf
                  have h5 : af.tmps[5]?.getD undef = .int .i64 (k : Int) := g5
                  clear g5
                  go_simp
                  exact hKf _ _ (Below.refl _ _) rfl
                | 9, _ =>
                  refine StepOk.plain _ 35 rfl rfl rfl [(33, some 7), (34, some 8)] (by kernel_rfl) (fun af wf hbw hf Kf hKf => ?_)
                  obtain ⟨g33, g34, _⟩ := hf
                  have h33 : af.tmps[33]?.getD undef = .slice (some ⟨b2, off2, none⟩) n c2 := g33
                  have h34 : af.tmps[34]?.getD undef = .int .i64 (k : Int) := g34
                  clear g33 g34
                  go_simp
                  exact hKf _ _ (Below.refl _ _) rfl
                | 10, _ =>
                  refine StepOk.plain _ 36 rfl rfl rfl [(35, some 9)] (by kernel_rfl) (fun af wf hbw hf Kf hKf => ?_)
                  obtain ⟨g35, _⟩ := hf
                  have h35 : af.tmps[35]?.getD undef = .pointer (some ⟨b2, off2 + k * 2, none⟩) := g35
                  clear g35
                  go_simp
                  exact hKf _ _ (Below.refl _ _) rfl
                | 11, _ =>
                  refine StepOk.plain _ 37 rfl rfl rfl [(36, some 10)] (by kernel_rfl) (fun af wf hbw hf Kf hKf => ?_)
                  obtain ⟨g36, _⟩ := hf
                  have h36 : af.tmps[36]?.getD undef = .pointer (some ⟨b2, off2 + k * 2, none⟩) := g36
                  clear g36
                  have cB0 := (Blk.on (Blk.drew (P0)) hbw).cell
                  have cB1 := (Blk.on (Blk.drew (Q0)) hbw).cell
                  have hcx := (Below.cell (p := ⟨b2, off2 + k * 2, none⟩) hbw hb2).trans d0
                  go_simp
                  exact hKf _ _ (Below.refl _ _) rfl
                | 12, _ =>
                  refine StepOk.plain _ 38 rfl rfl rfl [(31, some 5), (37, some 11)] (by kernel_rfl) (fun af wf hbw hf Kf hKf => ?_)
                  obtain ⟨g31, g37, _⟩ := hf
                  have h31 : af.tmps[31]?.getD undef = .int .i64 K1 := g31
                  have h37 : af.tmps[37]?.getD undef = .int .i64 K2 := g37
                  clear g31 g37
                  have hqk := hKb
                  go_simp
                  exact hKf _ _ (Below.refl _ _) rfl
                | 13, _ =>
                  refine StepOk.plain _ 39 rfl rfl rfl [(38, some 12)] (by kernel_rfl) (fun af wf hbw hf Kf hKf => ?_)
                  obtain ⟨g38, _⟩ := hf
                  have h38 : af.tmps[38]?.getD undef = .bool false := g38
                  clear g38
                  go_simp
                  exact hKf _ _ (Below.refl _ _) rfl
                | 14, _ =>
                  refine StepOk.yes _ 40 rfl rfl rfl rfl (fun _ _ h => h) [(2, none)] (by kernel_rfl) (fun af wf hbw hf Kf hKf => ?_)
                  obtain ⟨g2, _⟩ := hf
                  have h2 : af.tmps[2]?.getD undef = .pointer (some ⟨w.heap.size, 0, none⟩) := g2
                  clear g2
                  go_simp
                  exact hKf _ _ (Below.refl _ _) rfl
                | 15, _ =>
                  refine StepOk.yes _ 41 rfl rfl rfl rfl (fun _ _ h => h) [(40, some 14)] (by kernel_rfl) (fun af wf hbw hf Kf hKf => ?_)
                  obtain ⟨g40, _⟩ := hf
                  have h40 : af.tmps[40]?.getD undef = .pointer (some ⟨w.heap.size, 1, none⟩) := g40
                  clear g40
                  have cB0 := (Blk.on (Blk.drew (P0)) hbw).cell
                  have cB1 := (Blk.on (Blk.drew (Q0)) hbw).cell
                  go_simp
                  exact hKf _ _ (Below.refl _ _) rfl
                | 16, _ =>
                  refine StepOk.yes _ 42 rfl rfl rfl rfl (fun _ _ h => h) [(5, none)] (by kernel_rfl) (fun af wf hbw hf Kf hKf => ?_)
                  obtain ⟨g5, _⟩ := hf
                  have h5 : af.tmps[5]?.getD undef = .int .i64 (k : Int) := g5
                  clear g5
                  go_simp
                  exact hKf _ _ (Below.refl _ _) rfl
                | 17, _ =>
                  refine StepOk.yes _ 43 rfl rfl rfl rfl (fun _ _ h => h) [(41, some 15), (42, some 16)] (by kernel_rfl) (fun af wf hbw hf Kf hKf => ?_)
                  obtain ⟨g41, g42, _⟩ := hf
                  have h41 : af.tmps[41]?.getD undef = .slice (some ⟨b1, off1, none⟩) n c1 := g41
                  have h42 : af.tmps[42]?.getD undef = .int .i64 (k : Int) := g42
                  clear g41 g42
                  go_simp
                  exact hKf _ _ (Below.refl _ _) rfl
                | 18, _ =>
                  refine StepOk.yes _ 44 rfl rfl rfl rfl (fun _ _ h => h) [(43, some 17)] (by kernel_rfl) (fun af wf hbw hf Kf hKf => ?_)
                  obtain ⟨g43, _⟩ := hf
                  have h43 : af.tmps[43]?.getD undef = .pointer (some ⟨b1, off1 + k * 2, none⟩) := g43
                  clear g43
                  go_simp
                  exact hKf _ _ (Below.refl _ _) rfl
                | 19, _ =>
                  refine StepOk.yes _ 45 rfl rfl rfl rfl (fun _ _ h => h) [(44, some 18)] (by kernel_rfl) (fun af wf hbw hf Kf hKf => ?_)
                  obtain ⟨g44, _⟩ := hf
                  have h44 : af.tmps[44]?.getD undef = .pointer (some ⟨b1, off1 + k * 2 + 1, none⟩) := g44
                  clear g44
                  have cB0 := (Blk.on (Blk.drew (P0)) hbw).cell
                  have cB1 := (Blk.on (Blk.drew (Q0)) hbw).cell
                  have hcx := (Below.cell (p := ⟨b1, off1 + k * 2 + 1, none⟩) hbw hb1).trans c1'
                  go_simp
                  exact hKf _ _ (Below.refl _ _) rfl
                | 20, _ =>
                  refine StepOk.yes _ 46 rfl rfl rfl rfl (fun _ _ h => h) [(45, some 19)] (by kernel_rfl) (fun af wf hbw hf Kf hKf => ?_)
                  obtain ⟨g45, _⟩ := hf
                  have h45 : af.tmps[45]?.getD undef = .slice Ad1 nd1 cd1 := g45
                  clear g45
                  have hcv := conv cd1 _ (Rd.below (Rd.drew hX1.1) hbw)
                  go_simp
                  exact hKf _ _ (Below.refl _ _) rfl
                | 21, _ =>
                  refine StepOk.yes _ 47 rfl rfl rfl rfl (fun _ _ h => h) [(3, none)] (by kernel_rfl) (fun af wf hbw hf Kf hKf => ?_)
                  obtain ⟨g3, _⟩ := hf
                  have h3 : af.tmps[3]?.getD undef = .pointer (some ⟨w.heap.size + 1, 0, none⟩) := g3
                  clear g3
                  go_simp
                  exact hKf _ _ (Below.refl _ _) rfl
                | 22, _ =>
                  refine StepOk.yes _ 48 rfl rfl rfl rfl (fun _ _ h => h) [(47, some 21)] (by kernel_rfl) (fun af wf hbw hf Kf hKf => ?_)
                  obtain ⟨g47, _⟩ := hf
                  have h47 : af.tmps[47]?.getD undef = .pointer (some ⟨w.heap.size + 1, 1, none⟩) := g47
                  clear g47
                  have cB0 := (Blk.on (Blk.drew (P0)) hbw).cell
                  have cB1 := (Blk.on (Blk.drew (Q0)) hbw).cell
                  go_simp
                  exact hKf _ _ (Below.refl _ _) rfl
                | 23, _ =>
                  refine StepOk.yes _ 49 rfl rfl rfl rfl (fun _ _ h => h) [(5, none)] (by kernel_rfl) (fun af wf hbw hf Kf hKf => ?_)
                  obtain ⟨g5, _⟩ := hf
                  have h5 : af.tmps[5]?.getD undef = .int .i64 (k : Int) := g5
                  clear g5
                  go_simp
                  exact hKf _ _ (Below.refl _ _) rfl
                | 24, _ =>
                  refine StepOk.yes _ 50 rfl rfl rfl rfl (fun _ _ h => h) [(48, some 22), (49, some 23)] (by kernel_rfl) (fun af wf hbw hf Kf hKf => ?_)
                  obtain ⟨g48, g49, _⟩ := hf
                  have h48 : af.tmps[48]?.getD undef = .slice (some ⟨b2, off2, none⟩) n c2 := g48
                  have h49 : af.tmps[49]?.getD undef = .int .i64 (k : Int) := g49
                  clear g48 g49
                  go_simp
                  exact hKf _ _ (Below.refl _ _) rfl
                | 25, _ =>
                  refine StepOk.yes _ 51 rfl rfl rfl rfl (fun _ _ h => h) [(50, some 24)] (by kernel_rfl) (fun af wf hbw hf Kf hKf => ?_)
                  obtain ⟨g50, _⟩ := hf
                  have h50 : af.tmps[50]?.getD undef = .pointer (some ⟨b2, off2 + k * 2, none⟩) := g50
                  clear g50
                  go_simp
                  exact hKf _ _ (Below.refl _ _) rfl
                | 26, _ =>
                  refine StepOk.yes _ 52 rfl rfl rfl rfl (fun _ _ h => h) [(51, some 25)] (by kernel_rfl) (fun af wf hbw hf Kf hKf => ?_)
                  obtain ⟨g51, _⟩ := hf
                  have h51 : af.tmps[51]?.getD undef = .pointer (some ⟨b2, off2 + k * 2 + 1, none⟩) := g51
                  clear g51
                  have cB0 := (Blk.on (Blk.drew (P0)) hbw).cell
                  have cB1 := (Blk.on (Blk.drew (Q0)) hbw).cell
                  have hcx := (Below.cell (p := ⟨b2, off2 + k * 2 + 1, none⟩) hbw hb2).trans d1
                  go_simp
                  exact hKf _ _ (Below.refl _ _) rfl
                | 27, _ =>
                  refine StepOk.yes _ 53 rfl rfl rfl rfl (fun _ _ h => h) [(52, some 26)] (by kernel_rfl) (fun af wf hbw hf Kf hKf => ?_)
                  obtain ⟨g52, _⟩ := hf
                  have h52 : af.tmps[52]?.getD undef = .slice Ad2 nd2 cd2 := g52
                  clear g52
                  have hcv := conv cd2 _ (Rd.below (Rd.drew hX2.1) hbw)
                  go_simp
                  exact hKf _ _ (Below.refl _ _) rfl
                | 28, _ =>
                  refine StepOk.yes _ 54 rfl rfl rfl rfl (fun _ _ h => h) [(46, some 20), (53, some 27)] (by kernel_rfl) (fun af wf hbw hf Kf hKf => ?_)
                  obtain ⟨g46, g53, _⟩ := hf
                  have h46 : af.tmps[46]?.getD undef = .string (str L1) := g46
                  have h53 : af.tmps[53]?.getD undef = .string (str L2) := g53
                  clear g46 g53
                  have hqs := hq
                  go_simp
                  exact hKf _ _ (Below.refl _ _) rfl
                | 29, _ =>
                  refine StepOk.plain _ 55 rfl rfl rfl [(39, some 13), (54, some 28)] (by kernel_rfl) (fun af wf hbw hf Kf hKf => ?_)
                  obtain ⟨g39, g54, _⟩ := hf
                  have h39 : af.tmps[39]?.getD undef = .bool false := g39
                  have h54 : af.tmps[54]?.getD undef = .bool false := g54
                  clear g39 g54
                  go_simp
                  exact hKf _ _ (Below.refl _ _) rfl
                | i + 30, h => exact absurd h (by show ¬ (i + 30 < 30); omega)
              · intro af wF hbF hdF hsF hbaseF hfactF
                obtain ⟨T, dsF⟩ := af
                obtain rfl : dsF = _ := hdF
                have e0 := hbaseF 0 (not_dst (by kernel_rfl))
                simp only [List.getElem?_toArray, List.getElem?_cons_zero, Option.getD_some] at e0
                have e1 := hbaseF 1 (not_dst (by kernel_rfl))
                simp only [List.getElem?_toArray, List.getElem?_cons_zero, List.getElem?_cons_succ, Option.getD_some] at e1
                have e2 := hbaseF 2 (not_dst (by kernel_rfl))
                simp only [List.getElem?_toArray, List.getElem?_cons_zero, List.getElem?_cons_succ, Option.getD_some] at e2
                have e3 := hbaseF 3 (not_dst (by kernel_rfl))
                simp only [List.getElem?_toArray, List.getElem?_cons_zero, List.getElem?_cons_succ, Option.getD_some] at e3
                have e4 := hbaseF 4 (not_dst (by kernel_rfl))
                simp only [List.getElem?_toArray, List.getElem?_cons_zero, List.getElem?_cons_succ, Option.getD_some] at e4
                have e5 := hbaseF 5 (not_dst (by kernel_rfl))
                simp only [List.getElem?_toArray, List.getElem?_cons_zero, List.getElem?_cons_succ, Option.getD_some] at e5
                have e6 := hbaseF 6 (not_dst (by kernel_rfl))
                simp only [List.getElem?_toArray, List.getElem?_cons_zero, List.getElem?_cons_succ, Option.getD_some] at e6
                have e7 := hbaseF 7 (not_dst (by kernel_rfl))
                simp only [List.getElem?_toArray, List.getElem?_cons_zero, List.getElem?_cons_succ, Option.getD_some] at e7
                have e8 := hbaseF 8 (not_dst (by kernel_rfl))
                simp only [List.getElem?_toArray, List.getElem?_cons_zero, List.getElem?_cons_succ, Option.getD_some] at e8
                have e9 := hbaseF 9 (not_dst (by kernel_rfl))
                simp only [List.getElem?_toArray, List.getElem?_cons_zero, List.getElem?_cons_succ, Option.getD_some] at e9
                have e10 := hbaseF 10 (not_dst (by kernel_rfl))
                simp only [List.getElem?_toArray, List.getElem?_cons_zero, List.getElem?_cons_succ, Option.getD_some] at e10
                have e11 := hbaseF 11 (not_dst (by kernel_rfl))
                simp only [List.getElem?_toArray, List.getElem?_cons_zero, List.getElem?_cons_succ, Option.getD_some] at e11
                have e12 := hbaseF 12 (not_dst (by kernel_rfl))
                simp only [List.getElem?_toArray, List.getElem?_cons_zero, List.getElem?_cons_succ, Option.getD_some] at e12
                have e13 := hbaseF 13 (not_dst (by kernel_rfl))
                simp only [List.getElem?_toArray, List.getElem?_cons_zero, List.getElem?_cons_succ, Option.getD_some] at e13
                have e14 := hbaseF 14 (not_dst (by kernel_rfl))
                simp only [List.getElem?_toArray, List.getElem?_cons_zero, List.getElem?_cons_succ, Option.getD_some] at e14
                have e15 := hbaseF 15 (not_dst (by kernel_rfl))
                simp only [List.getElem?_toArray, List.getElem?_cons_zero, List.getElem?_cons_succ, Option.getD_some] at e15
                have e16 := hbaseF 16 (not_dst (by kernel_rfl))
                simp only [List.getElem?_toArray, List.getElem?_cons_zero, List.getElem?_cons_succ, Option.getD_some] at e16
                have e17 := hbaseF 17 (not_dst (by kernel_rfl))
                simp only [List.getElem?_toArray, List.getElem?_cons_zero, List.getElem?_cons_succ, Option.getD_some] at e17
                have e18 := hbaseF 18 (not_dst (by kernel_rfl))
                simp only [List.getElem?_toArray, List.getElem?_cons_zero, List.getElem?_cons_succ, Option.getD_some] at e18
                have e19 := hbaseF 19 (not_dst (by kernel_rfl))
                simp only [List.getElem?_toArray, List.getElem?_cons_zero, List.getElem?_cons_succ, Option.getD_some] at e19
                have e20 := hbaseF 20 (not_dst (by kernel_rfl))
                simp only [List.getElem?_toArray, List.getElem?_cons_zero, List.getElem?_cons_succ, Option.getD_some] at e20
                have e21 := hbaseF 21 (not_dst (by kernel_rfl))
                simp only [List.getElem?_toArray, List.getElem?_cons_zero, List.getElem?_cons_succ, Option.getD_some] at e21
                have e22 := hbaseF 22 (not_dst (by kernel_rfl))
                simp only [List.getElem?_toArray, List.getElem?_cons_zero, List.getElem?_cons_succ, Option.getD_some] at e22
                have e23 := hbaseF 23 (not_dst (by kernel_rfl))
                simp only [List.getElem?_toArray, List.getElem?_cons_zero, List.getElem?_cons_succ, Option.getD_some] at e23
                have e24 := hbaseF 24 (not_dst (by kernel_rfl))
                simp only [List.getElem?_toArray, List.getElem?_cons_zero, List.getElem?_cons_succ, Option.getD_some] at e24
                have e25 := hbaseF 25 (not_dst (by kernel_rfl))
                simp only [List.getElem?_toArray, List.getElem?_cons_zero, List.getElem?_cons_succ, Option.getD_some] at e25
                have e56 := hbaseF 56 (not_dst (by kernel_rfl))
                simp only [List.getElem?_toArray, List.getElem?_cons_zero, List.getElem?_cons_succ, Option.getD_some] at e56
                have e55 := hfactF 29 55 (by decide) rfl
                replace e55 : T[55]?.getD undef = .bool false := e55
                clear hbaseF hfactF
                have hT : T = #[T[0]?.getD undef, T[1]?.getD undef, T[2]?.getD undef, T[3]?.getD undef, T[4]?.getD undef, T[5]?.getD undef, T[6]?.getD undef, T[7]?.getD undef, T[8]?.getD undef, T[9]?.getD undef, T[10]?.getD undef, T[11]?.getD undef, T[12]?.getD undef, T[13]?.getD undef, T[14]?.getD undef, T[15]?.getD undef, T[16]?.getD undef, T[17]?.getD undef, T[18]?.getD undef, T[19]?.getD undef, T[20]?.getD undef, T[21]?.getD undef, T[22]?.getD undef, T[23]?.getD undef, T[24]?.getD undef, T[25]?.getD undef, T[26]?.getD undef, T[27]?.getD undef, T[28]?.getD undef, T[29]?.getD undef, T[30]?.getD undef, T[31]?.getD undef, T[32]?.getD undef, T[33]?.getD undef, T[34]?.getD undef, T[35]?.getD undef, T[36]?.getD undef, T[37]?.getD undef, T[38]?.getD undef, T[39]?.getD undef, T[40]?.getD undef, T[41]?.getD undef, T[42]?.getD undef, T[43]?.getD undef, T[44]?.getD undef, T[45]?.getD undef, T[46]?.getD undef, T[47]?.getD undef, T[48]?.getD undef, T[49]?.getD undef, T[50]?.getD undef, T[51]?.getD undef, T[52]?.getD undef, T[53]?.getD undef, T[54]?.getD undef, T[55]?.getD undef, T[56]?.getD undef] := arr_eq T 57 hsF
                clear hsF
                rw [e0] at hT; clear e0
                rw [e1] at hT; clear e1
                rw [e2] at hT; clear e2
                rw [e3] at hT; clear e3
                rw [e4] at hT; clear e4
                rw [e5] at hT; clear e5
                rw [e6] at hT; clear e6
                rw [e7] at hT; clear e7
                rw [e8] at hT; clear e8
                rw [e9] at hT; clear e9
                rw [e10] at hT; clear e10
                rw [e11] at hT; clear e11
                rw [e12] at hT; clear e12
                rw [e13] at hT; clear e13
                rw [e14] at hT; clear e14
                rw [e15] at hT; clear e15
                rw [e16] at hT; clear e16
                rw [e17] at hT; clear e17
                rw [e18] at hT; clear e18
                rw [e19] at hT; clear e19
                rw [e20] at hT; clear e20
                rw [e21] at hT; clear e21
                rw [e22] at hT; clear e22
                rw [e23] at hT; clear e23
                rw [e24] at hT; clear e24
                rw [e25] at hT; clear e25
                generalize T[26]?.getD undef = u26 at hT
                generalize T[27]?.getD undef = u27 at hT
                generalize T[28]?.getD undef = u28 at hT
                generalize T[29]?.getD undef = u29 at hT
                generalize T[30]?.getD undef = u30 at hT
                generalize T[31]?.getD undef = u31 at hT
                generalize T[32]?.getD undef = u32 at hT
                generalize T[33]?.getD undef = u33 at hT
                generalize T[34]?.getD undef = u34 at hT
                generalize T[35]?.getD undef = u35 at hT
                generalize T[36]?.getD undef = u36 at hT
                generalize T[37]?.getD undef = u37 at hT
                generalize T[38]?.getD undef = u38 at hT
                generalize T[39]?.getD undef = u39 at hT
                generalize T[40]?.getD undef = u40 at hT
                generalize T[41]?.getD undef = u41 at hT
                generalize T[42]?.getD undef = u42 at hT
                generalize T[43]?.getD undef = u43 at hT
                generalize T[44]?.getD undef = u44 at hT
                generalize T[45]?.getD undef = u45 at hT
                generalize T[46]?.getD undef = u46 at hT
                generalize T[47]?.getD undef = u47 at hT
                generalize T[48]?.getD undef = u48 at hT
                generalize T[49]?.getD undef = u49 at hT
                generalize T[50]?.getD undef = u50 at hT
                generalize T[51]?.getD undef = u51 at hT
                generalize T[52]?.getD undef = u52 at hT
                generalize T[53]?.getD undef = u53 at hT
                generalize T[54]?.getD undef = u54 at hT
                rw [e55] at hT; clear e55
                rw [e56] at hT; clear e56
                subst hT
                go_wp2_with fail
                go_roundw
                case rel => exact ⟨k + 1, by omega, by go_num, hst.out, P0.on hbF, Q0.on hbF, (by (have q_hbF := Below.size hbF; (try simp at q_hbF); have q_hbel := Below.size hbel; (try simp at q_hbel); repeat (first | exact Below.refl _ _ | (refine Below.trans ?_ (Below.mono hbF (by first | omega | (simp; omega) | simp))) | (refine Below.trans ?_ (Below.mono hbel (by first | omega | (simp; omega) | simp))) | (refine Below.setCell ?_ (by first | omega | (simp; omega) | simp) _) | (refine Below.alloc ?_ (by first | omega | (simp; omega) | simp) _) | apply Below.drew | apply below_drewN)))⟩
                case measure => simp [intOf] <;> omega
            · have hst := Lib.hid (show decide (a = b) = false from decide_eq_false (ents_ne HE1.out HE2.out (by intro h; injection h with _ h; exact hL h)))
              have hq : ((str L1).toList == (str L2).toList) = false := by rw [str_toL, str_toL]; simp [hL]
              clear hL hK
              go_wp2_with fail
              refine wp_flows [(fun y_ _ => y_ = .pointer (some ⟨w.heap.size, 1, none⟩)), (fun y_ _ => y_ = .slice (some ⟨b1, off1, none⟩) n c1), (fun y_ _ => y_ = .int .i64 (k : Int)), (fun y_ _ => y_ = .pointer (some ⟨b1, off1 + k * 2, none⟩)), (fun y_ _ => y_ = .pointer (some ⟨b1, off1 + k * 2, none⟩)), (fun y_ _ => y_ = .int .i64 K1), (fun y_ _ => y_ = .pointer (some ⟨w.heap.size + 1, 1, none⟩)), (fun y_ _ => y_ = .slice (some ⟨b2, off2, none⟩) n c2), (fun y_ _ => y_ = .int .i64 (k : Int)), (fun y_ _ => y_ = .pointer (some ⟨b2, off2 + k * 2, none⟩)), (fun y_ _ => y_ = .pointer (some ⟨b2, off2 + k * 2, none⟩)), (fun y_ _ => y_ = .int .i64 K2), (fun y_ _ => y_ = .bool false), (fun y_ _ => y_ = .bool false), (fun y_ _ => y_ = .pointer (some ⟨w.heap.size, 1, none⟩)), (fun y_ _ => y_ = .slice (some ⟨b1, off1, none⟩) n c1), (fun y_ _ => y_ = .int .i64 (k : Int)), (fun y_ _ => y_ = .pointer (some ⟨b1, off1 + k * 2, none⟩)), (fun y_ _ => y_ = .pointer (some ⟨b1, off1 + k * 2 + 1, none⟩)), (fun y_ _ => y_ = .slice Ad1 nd1 cd1), (fun y_ _ => y_ = .string (str L1)), (fun y_ _ => y_ = .pointer (some ⟨w.heap.size + 1, 1, none⟩)), (fun y_ _ => y_ = .slice (some ⟨b2, off2, none⟩) n c2), (fun y_ _ => y_ = .int .i64 (k : Int)), (fun y_ _ => y_ = .pointer (some ⟨b2, off2 + k * 2, none⟩)), (fun y_ _ => y_ = .pointer (some ⟨b2, off2 + k * 2 + 1, none⟩)), (fun y_ _ => y_ = .slice Ad2 nd2 cd2), (fun y_ _ => y_ = .string (str L2)), (fun y_ _ => y_ = .bool true), (fun y_ _ => y_ = .bool true)] (by kernel_rfl) ⟨Stab.eq _, Stab.eq _, Stab.eq _, Stab.eq _, Stab.eq _, Stab.eq _, Stab.eq _, Stab.eq _, Stab.eq _, Stab.eq _, Stab.eq _, Stab.eq _, Stab.eq _, Stab.eq _, Stab.eq _, Stab.eq _, Stab.eq _, Stab.eq _, Stab.eq _, Stab.eq _, Stab.eq _, Stab.eq _, Stab.eq _, Stab.eq _, Stab.eq _, Stab.eq _, Stab.eq _, Stab.eq _, Stab.eq _, Stab.eq _, trivial⟩ (by kernel_rfl) (by rfl) ?_ ?_
              · intro kq hkq
                match kq, hkq with
                | 0, _ =>
                  refine StepOk.plain _ 26 rfl rfl rfl [(2, none)] (by kernel_rfl) (fun af wf hbw hf Kf hKf => ?_)
                  obtain ⟨g2, _⟩ := hf
                  have h2 : af.tmps[2]?.getD undef = .pointer (some ⟨w.heap.size, 0, none⟩) := g2
                  clear g2
                  go_simp
                  exact hKf _ _ (Below.refl _ _) rfl
                | 1, _ =>
                  refine StepOk.plain _ 27 rfl rfl rfl [(26, some 0)] (by kernel_rfl) (fun af wf hbw hf Kf hKf => ?_)
                  obtain ⟨g26, _⟩ := hf
                  have h26 : af.tmps[26]?.getD undef = .pointer (some ⟨w.heap.size, 1, none⟩) := g26
                  clear g26
                  have cB0 := (Blk.on (Blk.drew (P0)) hbw).cell
                  have cB1 := (Blk.on (Blk.drew (Q0)) hbw).cell
                  go_simp
                  exact hKf _ _ (Below.refl _ _) rfl
                | 2, _ =>
                  refine StepOk.plain _ 28 rfl rfl rfl [(5, none)] (by kernel_rfl) (fun af wf hbw hf Kf hKf => ?_)
                  obtain ⟨g5, _⟩ := hf
                  have h5 : af.tmps[5]?.getD undef = .int .i64 (k : Int) := g5
                  clear g5
                  go_simp
                  exact hKf _ _ (Below.refl _ _) rfl
                | 3, _ =>
                  refine StepOk.plain _ 29 rfl rfl rfl [(27, some 1), (28, some 2)] (by kernel_rfl) (fun af wf hbw hf Kf hKf => ?_)
                  obtain ⟨g27, g28, _⟩ := hf
                  have h27 : af.tmps[27]?.getD undef = .slice (some ⟨b1, off1, none⟩) n c1 := g27
                  have h28 : af.tmps[28]?.getD undef = .int .i64 (k : Int) := g28
                  clear g27 g28
                  go_simp
                  exact hKf _ _ (Below.refl _ _) rfl
                | 4, _ =>
                  refine StepOk.plain _ 30 rfl rfl rfl [(29, some 3)] (by kernel_rfl) (fun af wf hbw hf Kf hKf => ?_)
                  obtain ⟨g29, _⟩ := hf
                  have h29 : af.tmps[29]?.getD undef = .pointer (some ⟨b1, off1 + k * 2, none⟩) := g29
                  clear g29
                  go_simp
                  exact hKf _ _ (Below.refl _ _) rfl
                | 5, _ =>
                  refine StepOk.plain _ 31 rfl rfl rfl [(30, some 4)] (by kernel_rfl) (fun af wf hbw hf Kf hKf => ?_)
                  obtain ⟨g30, _⟩ := hf
                  have h30 : af.tmps[30]?.getD undef = .pointer (some ⟨b1, off1 + k * 2, none⟩) := g30
                  clear g30
                  have cB0 := (Blk.on (Blk.drew (P0)) hbw).cell
                  have cB1 := (Blk.on (Blk.drew (Q0)) hbw).cell
                  have hcx := (Below.cell (p := ⟨b1, off1 + k * 2, none⟩) hbw hb1).trans c0
                  go_simp
                  exact hKf _ _ (Below.refl _ _) rfl
                | 6, _ =>
                  refine StepOk.plain _ 32 rfl rfl rfl [(3, none)] (by kernel_rfl) (fun af wf hbw hf Kf hKf => ?_)
                  obtain ⟨g3, _⟩ := hf
                  have h3 : af.tmps[3]?.getD undef = .pointer (some ⟨w.heap.size + 1, 0, none⟩) := g3
                  clear g3
                  go_simp
                  exact hKf _ _ (Below.refl _ _) rfl
                | 7, _ =>
                  refine StepOk.plain _ 33 rfl rfl rfl [(32, some 6)] (by kernel_rfl) (fun af wf hbw hf Kf hKf => ?_)
                  obtain ⟨g32, _⟩ := hf
                  have h32 : af.tmps[32]?.getD undef = .pointer (some ⟨w.heap.size + 1, 1, none⟩) := g32
                  clear g32
                  have cB0 := (Blk.on (Blk.drew (P0)) hbw).cell
                  have cB1 := (Blk.on (Blk.drew (Q0)) hbw).cell
                  go_simp
                  exact hKf _ _ (Below.refl _ _) rfl
                | 8, _ =>
                  refine StepOk.plain _ 34 rfl rfl rfl [(5, none)] (by kernel_rfl) (fun af wf hbw hf Kf hKf => ?_)
                  obtain ⟨g5, _⟩ := hf
                  have h5 : af.tmps[5]?.getD undef = .int .i64 (k : Int) := g5
                  clear g5
                  go_simp
                  exact hKf _ _ (Below.refl _ _) rfl
                | 9, _ =>
                  refine StepOk.plain _ 35 rfl rfl rfl [(33, some 7), (34, some 8)] (by kernel_rfl) (fun af wf hbw hf Kf hKf => ?_)
                  obtain ⟨g33, g34, _⟩ := hf
                  have h33 : af.tmps[33]?.getD undef = .slice (some ⟨b2, off2, none⟩) n c2 := g33
                  have h34 : af.tmps[34]?.getD undef = .int .i64 (k : Int) := g34
                  clear g33 g34
                  go_simp
                  exact hKf _ _ (Below.refl _ _) rfl
                | 10, _ =>
                  refine StepOk.plain _ 36 rfl rfl rfl [(35, some 9)] (by kernel_rfl) (fun af wf hbw hf Kf hKf => ?_)
                  obtain ⟨g35, _⟩ := hf
                  have h35 : af.tmps[35]?.getD undef = .pointer (some ⟨b2, off2 + k * 2, none⟩) := g35
                  clear g35
                  go_simp
                  exact hKf _ _ (Below.refl _ _) rfl
                | 11, _ =>
                  refine StepOk.plain _ 37 rfl rfl rfl [(36, some 10)] (by kernel_rfl) (fun af wf hbw hf Kf hKf => ?_)
                  obtain ⟨g36, _⟩ := hf
                  have h36 : af.tmps[36]?.getD undef = .pointer (some ⟨b2, off2 + k * 2, none⟩) := g36
                  clear g36
                  have cB0 := (Blk.on (Blk.drew (P0)) hbw).cell
                  have cB1 := (Blk.on (Blk.drew (Q0)) hbw).cell
                  have hcx := (Below.cell (p := ⟨b2, off2 + k * 2, none⟩) hbw hb2).trans d0
                  go_simp
                  exact hKf _ _ (Below.refl _ _) rfl
                | 12, _ =>
                  refine StepOk.plain _ 38 rfl rfl rfl [(31, some 5), (37, some 11)] (by kernel_rfl) (fun af wf hbw hf Kf hKf => ?_)
                  obtain ⟨g31, g37, _⟩ := hf
                  have h31 : af.tmps[31]?.getD undef = .int .i64 K1 := g31
                  have h37 : af.tmps[37]?.getD undef = .int .i64 K2 := g37
                  clear g31 g37
                  have hqk := hKb
                  go_simp
                  exact hKf _ _ (Below.refl _ _) rfl
                | 13, _ =>
                  refine StepOk.plain _ 39 rfl rfl rfl [(38, some 12)] (by kernel_rfl) (fun af wf hbw hf Kf hKf => ?_)
                  obtain ⟨g38, _⟩ := hf
                  have h38 : af.tmps[38]?.getD undef = .bool false := g38
                  clear g38
                  go_simp
                  exact hKf _ _ (Below.refl _ _) rfl
                | 14, _ =>
                  refine StepOk.yes _ 40 rfl rfl rfl rfl (fun _ _ h => h) [(2, none)] (by kernel_rfl) (fun af wf hbw hf Kf hKf => ?_)
                  obtain ⟨g2, _⟩ := hf
                  have h2 : af.tmps[2]?.getD undef = .pointer (some ⟨w.heap.size, 0, none⟩) := g2
                  clear g2
                  go_simp
                  exact hKf _ _ (Below.refl _ _) rfl
                | 15, _ =>
                  refine StepOk.yes _ 41 rfl rfl rfl rfl (fun _ _ h => h) [(40, some 14)] (by kernel_rfl) (fun af wf hbw hf Kf hKf => ?_)
                  obtain ⟨g40, _⟩ := hf
                  have h40 : af.tmps[40]?.getD undef = .pointer (some ⟨w.heap.size, 1, none⟩) := g40
                  clear g40
                  have cB0 := (Blk.on (Blk.drew (P0)) hbw).cell
                  have cB1 := (Blk.on (Blk.drew (Q0)) hbw).cell
                  go_simp
                  exact hKf _ _ (Below.refl _ _) rfl
                | 16, _ =>
                  refine StepOk.yes _ 42 rfl rfl rfl rfl (fun _ _ h => h) [(5, none)] (by kernel_rfl) (fun af wf hbw hf Kf hKf => ?_)
                  obtain ⟨g5, _⟩ := hf
                  have h5 : af.tmps[5]?.getD undef = .int .i64 (k : Int) := g5
                  clear g5
                  go_simp
                  exact hKf _ _ (Below.refl _ _) rfl
                | 17, _ =>
                  refine StepOk.yes _ 43 rfl rfl rfl rfl (fun _ _ h => h) [(41, some 15), (42, some 16)] (by kernel_rfl) (fun af wf hbw hf Kf hKf => ?_)
                  obtain ⟨g41, g42, _⟩ := hf
                  have h41 : af.tmps[41]?.getD undef = .slice (some ⟨b1, off1, none⟩) n c1 := g41
                  have h42 : af.tmps[42]?.getD undef = .int .i64 (k : Int) := g42
                  clear g41 g42
                  go_simp
                  exact hKf _ _ (Below.refl _ _) rfl
                | 18, _ =>
                  refine StepOk.yes _ 44 rfl rfl rfl rfl (fun _ _ h => h) [(43, some 17)] (by kernel_rfl) (fun af wf hbw hf Kf hKf => ?_)
                  obtain ⟨g43, _⟩ := hf
                  have h43 : af.tmps[43]?.getD undef = .pointer (some ⟨b1, off1 + k * 2, none⟩) := g43
                  clear g43
                  go_simp
                  exact hKf _ _ (Below.refl _ _) rfl
                | 19, _ =>
                  refine StepOk.yes _ 45 rfl rfl rfl rfl (fun _ _ h => h) [(44, some 18)] (by kernel_rfl) (fun af wf hbw hf Kf hKf => ?_)
                  obtain ⟨g44, _⟩ := hf
                  have h44 : af.tmps[44]?.getD undef = .pointer (some ⟨b1, off1 + k * 2 + 1, none⟩) := g44
                  clear g44
                  have cB0 := (Blk.on (Blk.drew (P0)) hbw).cell
                  have cB1 := (Blk.on (Blk.drew (Q0)) hbw).cell
                  have hcx := (Below.cell (p := ⟨b1, off1 + k * 2 + 1, none⟩) hbw hb1).trans c1'
                  go_simp
                  exact hKf _ _ (Below.refl _ _) rfl
                | 20, _ =>
                  refine StepOk.yes _ 46 rfl rfl rfl rfl (fun _ _ h => h) [(45, some 19)] (by kernel_rfl) (fun af wf hbw hf Kf hKf => ?_)
                  obtain ⟨g45, _⟩ := hf
                  have h45 : af.tmps[45]?.getD undef = .slice Ad1 nd1 cd1 := g45
                  clear g45
                  have hcv := conv cd1 _ (Rd.below (Rd.drew hX1.1) hbw)
                  go_simp
                  exact hKf _ _ (Below.refl _ _) rfl
                | 21, _ =>
                  refine StepOk.yes _ 47 rfl rfl rfl rfl (fun _ _ h => h) [(3, none)] (by kernel_rfl) (fun af wf hbw hf Kf hKf => ?_)
                  obtain ⟨g3, _⟩ := hf
                  have h3 : af.tmps[3]?.getD undef = .pointer (some ⟨w.heap.size + 1, 0, none⟩) := g3
                  clear g3
                  go_simp
                  exact hKf _ _ (Below.refl _ _) rfl
                | 22, _ =>
                  refine StepOk.yes _ 48 rfl rfl rfl rfl (fun _ _ h => h) [(47, some 21)] (by kernel_rfl) (fun af wf hbw hf Kf hKf => ?_)
                  obtain ⟨g47, _⟩ := hf
                  have h47 : af.tmps[47]?.getD undef = .pointer (some ⟨w.heap.size + 1, 1, none⟩) := g47
                  clear g47
                  have cB0 := (Blk.on (Blk.drew (P0)) hbw).cell
                  have cB1 := (Blk.on (Blk.drew (Q0)) hbw).cell
                  go_simp
                  exact hKf _ _ (Below.refl _ _) rfl
                | 23, _ =>
                  refine StepOk.yes _ 49 rfl rfl rfl rfl (fun _ _ h => h) [(5, none)] (by kernel_rfl) (fun af wf hbw hf Kf hKf => ?_)
                  obtain ⟨g5, _⟩ := hf
                  have h5 : af.tmps[5]?.getD undef = .int .i64 (k : Int) := g5
                  clear g5
                  go_simp
                  exact hKf _ _ (Below.refl _ _) rfl
                | 24, _ =>
                  refine StepOk.yes _ 50 rfl rfl rfl rfl (fun _ _ h => h) [(48, some 22), (49, some 23)] (by kernel_rfl) (fun af wf hbw hf Kf hKf => ?_)
                  obtain ⟨g48, g49, _⟩ := hf
                  have h48 : af.tmps[48]?.getD undef = .slice (some ⟨b2, off2, none⟩) n c2 := g48
                  have h49 : af.tmps[49]?.getD undef = .int .i64 (k : Int) := g49
                  clear g48 g49
                  go_simp
                  exact hKf _ _ (Below.refl _ _) rfl
                | 25, _ =>
                  refine StepOk.yes _ 51 rfl rfl rfl rfl (fun _ _ h => h) [(50, some 24)] (by kernel_rfl) (fun af wf hbw hf Kf hKf => ?_)
                  obtain ⟨g50, _⟩ := hf
                  have h50 : af.tmps[50]?.getD undef = .pointer (some ⟨b2, off2 + k * 2, none⟩) := g50
                  clear g50
                  go_simp
                  exact hKf _ _ (Below.refl _ _) rfl
                | 26, _ =>
                  refine StepOk.yes _ 52 rfl rfl rfl rfl (fun _ _ h => h) [(51, some 25)] (by kernel_rfl) (fun af wf hbw hf Kf hKf => ?_)
                  obtain ⟨g51, _⟩ := hf
                  have h51 : af.tmps[51]?.getD undef = .pointer (some ⟨b2, off2 + k * 2 + 1, none⟩) := g51
                  clear g51
                  have cB0 := (Blk.on (Blk.drew (P0)) hbw).cell
                  have cB1 := (Blk.on (Blk.drew (Q0)) hbw).cell
                  have hcx := (Below.cell (p := ⟨b2, off2 + k * 2 + 1, none⟩) hbw hb2).trans d1
                  go_simp
                  exact hKf _ _ (Below.refl _ _) rfl
                | 27, _ =>
                  refine StepOk.yes _ 53 rfl rfl rfl rfl (fun _ _ h => h) [(52, some 26)] (by kernel_rfl) (fun af wf hbw hf Kf hKf => ?_)
                  obtain ⟨g52, _⟩ := hf
                  have h52 : af.tmps[52]?.getD undef = .slice Ad2 nd2 cd2 := g52
                  clear g52
                  have hcv := conv cd2 _ (Rd.below (Rd.drew hX2.1) hbw)
                  go_simp
                  exact hKf _ _ (Below.refl _ _) rfl
                | 28, _ =>
                  refine StepOk.yes _ 54 rfl rfl rfl rfl (fun _ _ h => h) [(46, some 20), (53, some 27)] (by kernel_rfl) (fun af wf hbw hf Kf hKf => ?_)
                  obtain ⟨g46, g53, _⟩ := hf
                  have h46 : af.tmps[46]?.getD undef = .string (str L1) := g46
                  have h53 : af.tmps[53]?.getD undef = .string (str L2) := g53
                  clear g46 g53
                  have hqs := hq
                  go_simp
                  exact hKf _ _ (Below.refl _ _) rfl
                | 29, _ =>
                  refine StepOk.plain _ 55 rfl rfl rfl [(39, some 13), (54, some 28)] (by kernel_rfl) (fun af wf hbw hf Kf hKf => ?_)
                  obtain ⟨g39, g54, _⟩ := hf
                  have h39 : af.tmps[39]?.getD undef = .bool false := g39
                  have h54 : af.tmps[54]?.getD undef = .bool true := g54
                  clear g39 g54
                  go_simp
                  exact hKf _ _ (Below.refl _ _) rfl
                | i + 30, h => exact absurd h (by show ¬ (i + 30 < 30); omega)
              · intro af wF hbF hdF hsF hbaseF hfactF
                obtain ⟨T, dsF⟩ := af
                obtain rfl : dsF = _ := hdF
                have e0 := hbaseF 0 (not_dst (by kernel_rfl))
                simp only [List.getElem?_toArray, List.getElem?_cons_zero, Option.getD_some] at e0
                have e1 := hbaseF 1 (not_dst (by kernel_rfl))
                simp only [List.getElem?_toArray, List.getElem?_cons_zero, List.getElem?_cons_succ, Option.getD_some] at e1
                have e2 := hbaseF 2 (not_dst (by kernel_rfl))
                simp only [List.getElem?_toArray, List.getElem?_cons_zero, List.getElem?_cons_succ, Option.getD_some] at e2
                have e3 := hbaseF 3 (not_dst (by kernel_rfl))
                simp only [List.getElem?_toArray, List.getElem?_cons_zero, List.getElem?_cons_succ, Option.getD_some] at e3
                have e4 := hbaseF 4 (not_dst (by kernel_rfl))
                simp only [List.getElem?_toArray, List.getElem?_cons_zero, List.getElem?_cons_succ, Option.getD_some] at e4
                have e5 := hbaseF 5 (not_dst (by kernel_rfl))
                simp only [List.getElem?_toArray, List.getElem?_cons_zero, List.getElem?_cons_succ, Option.getD_some] at e5
                have e6 := hbaseF 6 (not_dst (by kernel_rfl))
                simp only [List.getElem?_toArray, List.getElem?_cons_zero, List.getElem?_cons_succ, Option.getD_some] at e6
                have e7 := hbaseF 7 (not_dst (by kernel_rfl))
                simp only [List.getElem?_toArray, List.getElem?_cons_zero, List.getElem?_cons_succ, Option.getD_some] at e7
                have e8 := hbaseF 8 (not_dst (by kernel_rfl))
                simp only [List.getElem?_toArray, List.getElem?_cons_zero, List.getElem?_cons_succ, Option.getD_some] at e8
                have e9 := hbaseF 9 (not_dst (by kernel_rfl))
                simp only [List.getElem?_toArray, List.getElem?_cons_zero, List.getElem?_cons_succ, Option.getD_some] at e9
                have e10 := hbaseF 10 (not_dst (by kernel_rfl))
                simp only [List.getElem?_toArray, List.getElem?_cons_zero, List.getElem?_cons_succ, Option.getD_some] at e10
                have e11 := hbaseF 11 (not_dst (by kernel_rfl))
                simp only [List.getElem?_toArray, List.getElem?_cons_zero, List.getElem?_cons_succ, Option.getD_some] at e11
                have e12 := hbaseF 12 (not_dst (by kernel_rfl))
                simp only [List.getElem?_toArray, List.getElem?_cons_zero, List.getElem?_cons_succ, Option.getD_some] at e12
                have e13 := hbaseF 13 (not_dst (by kernel_rfl))
                simp only [List.getElem?_toArray, List.getElem?_cons_zero, List.getElem?_cons_succ, Option.getD_some] at e13
                have e14 := hbaseF 14 (not_dst (by kernel_rfl))
                simp only [List.getElem?_toArray, List.getElem?_cons_zero, List.getElem?_cons_succ, Option.getD_some] at e14
                have e15 := hbaseF 15 (not_dst (by kernel_rfl))
                simp only [List.getElem?_toArray, List.getElem?_cons_zero, List.getElem?_cons_succ, Option.getD_some] at e15
                have e16 := hbaseF 16 (not_dst (by kernel_rfl))
                simp only [List.getElem?_toArray, List.getElem?_cons_zero, List.getElem?_cons_succ, Option.getD_some] at e16
                have e17 := hbaseF 17 (not_dst (by kernel_rfl))
                simp only [List.getElem?_toArray, List.getElem?_cons_zero, List.getElem?_cons_succ, Option.getD_some] at e17
                have e18 := hbaseF 18 (not_dst (by kernel_rfl))
                simp only [List.getElem?_toArray, List.getElem?_cons_zero, List.getElem?_cons_succ, Option.getD_some] at e18
                have e19 := hbaseF 19 (not_dst (by kernel_rfl))
                simp only [List.getElem?_toArray, List.getElem?_cons_zero, List.getElem?_cons_succ, Option.getD_some] at e19
                have e20 := hbaseF 20 (not_dst (by kernel_rfl))
                simp only [List.getElem?_toArray, List.getElem?_cons_zero, List.getElem?_cons_succ, Option.getD_some] at e20
                have e21 := hbaseF 21 (not_dst (by kernel_rfl))
                simp only [List.getElem?_toArray, List.getElem?_cons_zero, List.getElem?_cons_succ, Option.getD_some] at e21
                have e22 := hbaseF 22 (not_dst (by kernel_rfl))
                simp only [List.getElem?_toArray, List.getElem?_cons_zero, List.getElem?_cons_succ, Option.getD_some] at e22
                have e23 := hbaseF 23 (not_dst (by kernel_rfl))
                simp only [List.getElem?_toArray, List.getElem?_cons_zero, List.getElem?_cons_succ, Option.getD_some] at e23
                have e24 := hbaseF 24 (not_dst (by kernel_rfl))
                simp only [List.getElem?_toArray, List.getElem?_cons_zero, List.getElem?_cons_succ, Option.getD_some] at e24
                have e25 := hbaseF 25 (not_dst (by kernel_rfl))
                simp only [List.getElem?_toArray, List.getElem?_cons_zero, List.getElem?_cons_succ, Option.getD_some] at e25
                have e56 := hbaseF 56 (not_dst (by kernel_rfl))
                simp only [List.getElem?_toArray, List.getElem?_cons_zero, List.getElem?_cons_succ, Option.getD_some] at e56
                have e55 := hfactF 29 55 (by decide) rfl
                replace e55 : T[55]?.getD undef = .bool true := e55
                clear hbaseF hfactF
                have hT : T = #[T[0]?.getD undef, T[1]?.getD undef, T[2]?.getD undef, T[3]?.getD undef, T[4]?.getD undef, T[5]?.getD undef, T[6]?.getD undef, T[7]?.getD undef, T[8]?.getD undef, T[9]?.getD undef, T[10]?.getD undef, T[11]?.getD undef, T[12]?.getD undef, T[13]?.getD undef, T[14]?.getD undef, T[15]?.getD undef, T[16]?.getD undef, T[17]?.getD undef, T[18]?.getD undef, T[19]?.getD undef, T[20]?.getD undef, T[21]?.getD undef, T[22]?.getD undef, T[23]?.getD undef, T[24]?.getD undef, T[25]?.getD undef, T[26]?.getD undef, T[27]?.getD undef, T[28]?.getD undef, T[29]?.getD undef, T[30]?.getD undef, T[31]?.getD undef, T[32]?.getD undef, T[33]?.getD undef, T[34]?.getD undef, T[35]?.getD undef, T[36]?.getD undef, T[37]?.getD undef, T[38]?.getD undef, T[39]?.getD undef, T[40]?.getD undef, T[41]?.getD undef, T[42]?.getD undef, T[43]?.getD undef, T[44]?.getD undef, T[45]?.getD undef, T[46]?.getD undef, T[47]?.getD undef, T[48]?.getD undef, T[49]?.getD undef, T[50]?.getD undef, T[51]?.getD undef, T[52]?.getD undef, T[53]?.getD undef, T[54]?.getD undef, T[55]?.getD undef, T[56]?.getD undef] := arr_eq T 57 hsF
                clear hsF
                rw [e0] at hT; clear e0
                rw [e1] at hT; clear e1
                rw [e2] at hT; clear e2
                rw [e3] at hT; clear e3
                rw [e4] at hT; clear e4
                rw [e5] at hT; clear e5
                rw [e6] at hT; clear e6
                rw [e7] at hT; clear e7
                rw [e8] at hT; clear e8
                rw [e9] at hT; clear e9
                rw [e10] at hT; clear e10
                rw [e11] at hT; clear e11
                rw [e12] at hT; clear e12
                rw [e13] at hT; clear e13
                rw [e14] at hT; clear e14
                rw [e15] at hT; clear e15
                rw [e16] at hT; clear e16
                rw [e17] at hT; clear e17
                rw [e18] at hT; clear e18
                rw [e19] at hT; clear e19
                rw [e20] at hT; clear e20
                rw [e21] at hT; clear e21
                rw [e22] at hT; clear e22
                rw [e23] at hT; clear e23
                rw [e24] at hT; clear e24
                rw [e25] at hT; clear e25
                generalize T[26]?.getD undef = u26 at hT
                generalize T[27]?.getD undef = u27 at hT
                generalize T[28]?.getD undef = u28 at hT
                generalize T[29]?.getD undef = u29 at hT
                generalize T[30]?.getD undef = u30 at hT
                generalize T[31]?.getD undef = u31 at hT
                generalize T[32]?.getD undef = u32 at hT
                generalize T[33]?.getD undef = u33 at hT
                generalize T[34]?.getD undef = u34 at hT
                generalize T[35]?.getD undef = u35 at hT
                generalize T[36]?.getD undef = u36 at hT
                generalize T[37]?.getD undef = u37 at hT
                generalize T[38]?.getD undef = u38 at hT
                generalize T[39]?.getD undef = u39 at hT
                generalize T[40]?.getD undef = u40 at hT
                generalize T[41]?.getD undef = u41 at hT
                generalize T[42]?.getD undef = u42 at hT
                generalize T[43]?.getD undef = u43 at hT
                generalize T[44]?.getD undef = u44 at hT
                generalize T[45]?.getD undef = u45 at hT
                generalize T[46]?.getD undef = u46 at hT
                generalize T[47]?.getD undef = u47 at hT
                generalize T[48]?.getD undef = u48 at hT
                generalize T[49]?.getD undef = u49 at hT
                generalize T[50]?.getD undef = u50 at hT
                generalize T[51]?.getD undef = u51 at hT
                generalize T[52]?.getD undef = u52 at hT
                generalize T[53]?.getD undef = u53 at hT
                generalize T[54]?.getD undef = u54 at hT
                rw [e55] at hT; clear e55
                rw [e56] at hT; clear e56
                subst hT
                go_wp2_with fail
                go_ret
                exact ⟨by rw [hr.out, hst.out]; rfl, (by (have q_hbF := Below.size hbF; (try simp at q_hbF); have q_hbel := Below.size hbel; (try simp at q_hbel); repeat (first | exact Below.refl _ _ | (refine Below.trans ?_ (Below.mono hbF (by first | omega | (simp; omega) | simp))) | (refine Below.trans ?_ (Below.mono hbel (by first | omega | (simp; omega) | simp))) | (refine Below.setCell ?_ (by first | omega | (simp; omega) | simp) _) | (refine Below.alloc ?_ (by first | omega | (simp; omega) | simp) _) | apply Below.drew | apply below_drewN)))⟩
          · have hst := Lib.hid (show decide (a = b) = false from decide_eq_false (ents_ne HE1.out HE2.out (by intro h; injection h with h _; exact hK h)))
            have hKb : (K1 != K2) = true := by simp [hK]
            clear hK
            go_wp2_with fail
            refine wp_flows [(fun y_ _ => y_ = .pointer (some ⟨w.heap.size, 1, none⟩)), (fun y_ _ => y_ = .slice (some ⟨b1, off1, none⟩) n c1), (fun y_ _ => y_ = .int .i64 (k : Int)), (fun y_ _ => y_ = .pointer (some ⟨b1, off1 + k * 2, none⟩)), (fun y_ _ => y_ = .pointer (some ⟨b1, off1 + k * 2, none⟩)), (fun y_ _ => y_ = .int .i64 K1), (fun y_ _ => y_ = .pointer (some ⟨w.heap.size + 1, 1, none⟩)), (fun y_ _ => y_ = .slice (some ⟨b2, off2, none⟩) n c2), (fun y_ _ => y_ = .int .i64 (k : Int)), (fun y_ _ => y_ = .pointer (some ⟨b2, off2 + k * 2, none⟩)), (fun y_ _ => y_ = .pointer (some ⟨b2, off2 + k * 2, none⟩)), (fun y_ _ => y_ = .int .i64 K2), (fun y_ _ => y_ = .bool true), (fun y_ _ => y_ = .bool true), (fun y_ _ => y_ = undef), (fun y_ _ => y_ = undef), (fun y_ _ => y_ = undef), (fun y_ _ => y_ = undef), (fun y_ _ => y_ = undef), (fun y_ _ => y_ = undef), (fun y_ _ => y_ = undef), (fun y_ _ => y_ = undef), (fun y_ _ => y_ = undef), (fun y_ _ => y_ = undef), (fun y_ _ => y_ = undef), (fun y_ _ => y_ = undef), (fun y_ _ => y_ = undef), (fun y_ _ => y_ = undef), (fun y_ _ => y_ = undef), (fun y_ _ => y_ = .bool true)] (by kernel_rfl) ⟨Stab.eq _, Stab.eq _, Stab.eq _, Stab.eq _, Stab.eq _, Stab.eq _, Stab.eq _, Stab.eq _, Stab.eq _, Stab.eq _, Stab.eq _, Stab.eq _, Stab.eq _, Stab.eq _, Stab.eq _, Stab.eq _, Stab.eq _, Stab.eq _, Stab.eq _, Stab.eq _, Stab.eq _, Stab.eq _, Stab.eq _, Stab.eq _, Stab.eq _, Stab.eq _, Stab.eq _, Stab.eq _, Stab.eq _, Stab.eq _, trivial⟩ (by kernel_rfl) (by rfl) ?_ ?_
            · intro kq hkq
              match kq, hkq with
              | 0, _ =>
                refine StepOk.plain _ 26 rfl rfl rfl [(2, none)] (by kernel_rfl) (fun af wf hbw hf Kf hKf => ?_)
                obtain ⟨g2, _⟩ := hf
                have h2 : af.tmps[2]?.getD undef = .pointer (some ⟨w.heap.size, 0, none⟩) := g2
                clear g2
                go_simp
                exact hKf _ _ (Below.refl _ _) rfl
              | 1, _ =>
                refine StepOk.plain _ 27 rfl rfl rfl [(26, some 0)] (by kernel_rfl) (fun af wf hbw hf Kf hKf => ?_)
                obtain ⟨g26, _⟩ := hf
                have h26 : af.tmps[26]?.getD undef = .pointer (some ⟨w.heap.size, 1, none⟩) := g26
                clear g26
                have cB0 := (Blk.on (Blk.drew (P0)) hbw).cell
                have cB1 := (Blk.on (Blk.drew (Q0)) hbw).cell
                go_simp
                exact hKf _ _ (Below.refl _ _) rfl
              | 2, _ =>
                refine StepOk.plain _ 28 rfl rfl rfl [(5, none)] (by kernel_rfl) (fun af wf hbw hf Kf hKf => ?_)
                obtain ⟨g5, _⟩ := hf
                have h5 : af.tmps[5]?.getD undef = .int .i64 (k : Int) := g5
                clear g5
                go_simp
                exact hKf _ _ (Below.refl _ _) rfl
              | 3, _ =>
                refine StepOk.plain _ 29 rfl rfl rfl [(27, some 1), (28, some 2)] (by kernel_rfl) (fun af wf hbw hf Kf hKf => ?_)
                obtain ⟨g27, g28, _⟩ := hf
                have h27 : af.tmps[27]?.getD undef = .slice (some ⟨b1, off1, none⟩) n c1 := g27
                have h28 : af.tmps[28]?.getD undef = .int .i64 (k : Int) := g28
                clear g27 g28
                go_simp
                exact hKf _ _ (Below.refl _ _) rfl
              | 4, _ =>
                refine StepOk.plain _ 30 rfl rfl rfl [(29, some 3)] (by kernel_rfl) (fun af wf hbw hf Kf hKf => ?_)
                obtain ⟨g29, _⟩ := hf
                have h29 : af.tmps[29]?.getD undef = .pointer (some ⟨b1, off1 + k * 2, none⟩) := g29
                clear g29
                go_simp
                exact hKf _ _ (Below.refl _ _) rfl
              | 5, _ =>
                refine StepOk.plain _ 31 rfl rfl rfl [(30, some 4)] (by kernel_rfl) (fun af wf hbw hf Kf hKf => ?_)
                obtain ⟨g30, _⟩ := hf
                have h30 : af.tmps[30]?.getD undef = .pointer (some ⟨b1, off1 + k * 2, none⟩) := g30
                clear g30
                have cB0 := (Blk.on (Blk.drew (P0)) hbw).cell
                have cB1 := (Blk.on (Blk.drew (Q0)) hbw).cell
                have hcx := (Below.cell (p := ⟨b1, off1 + k * 2, none⟩) hbw hb1).trans c0
                go_simp
                exact hKf _ _ (Below.refl _ _) rfl
              | 6, _ =>
                refine StepOk.plain _ 32 rfl rfl rfl [(3, none)] (by kernel_rfl) (fun af wf hbw hf Kf hKf => ?_)
                obtain ⟨g3, _⟩ := hf
                have h3 : af.tmps[3]?.getD undef = .pointer (some ⟨w.heap.size + 1, 0, none⟩) := g3
                clear g3
                go_simp
                exact hKf _ _ (Below.refl _ _) rfl
              | 7, _ =>
                refine StepOk.plain _ 33 rfl rfl rfl [(32, some 6)] (by kernel_rfl) (fun af wf hbw hf Kf hKf => ?_)
                obtain ⟨g32, _⟩ := hf
                have h32 : af.tmps[32]?.getD undef = .pointer (some ⟨w.heap.size + 1, 1, none⟩) := g32
                clear g32
                have cB0 := (Blk.on (Blk.drew (P0)) hbw).cell
                have cB1 := (Blk.on (Blk.drew (Q0)) hbw).cell
                go_simp
                exact hKf _ _ (Below.refl _ _) rfl
              | 8, _ =>
                refine StepOk.plain _ 34 rfl rfl rfl [(5, none)] (by kernel_rfl) (fun af wf hbw hf Kf hKf => ?_)
                obtain ⟨g5, _⟩ := hf
                have h5 : af.tmps[5]?.getD undef = .int .i64 (k : Int) := g5
                clear g5
                go_simp
                exact hKf _ _ (Below.refl _ _) rfl
              | 9, _ =>
                refine StepOk.plain _ 35 rfl rfl rfl [(33, some 7), (34, some 8)] (by kernel_rfl) (fun af wf hbw hf Kf hKf => ?_)
                obtain ⟨g33, g34, _⟩ := hf
                have h33 : af.tmps[33]?.getD undef = .slice (some ⟨b2, off2, none⟩) n c2 := g33
                have h34 : af.tmps[34]?.getD undef = .int .i64 (k : Int) := g34
                clear g33 g34
                go_simp
                exact hKf _ _ (Below.refl _ _) rfl
              | 10, _ =>
                refine StepOk.plain _ 36 rfl rfl rfl [(35, some 9)] (by kernel_rfl) (fun af wf hbw hf Kf hKf => ?_)
                obtain ⟨g35, _⟩ := hf
                have h35 : af.tmps[35]?.getD undef = .pointer (some ⟨b2, off2 + k * 2, none⟩) := g35
                clear g35
                go_simp
                exact hKf _ _ (Below.refl _ _) rfl
              | 11, _ =>
                refine StepOk.plain _ 37 rfl rfl rfl [(36, some 10)] (by kernel_rfl) (fun af wf hbw hf Kf hKf => ?_)
                obtain ⟨g36, _⟩ := hf
                have h36 : af.tmps[36]?.getD undef = .pointer (some ⟨b2, off2 + k * 2, none⟩) := g36
                clear g36
                have cB0 := (Blk.on (Blk.drew (P0)) hbw).cell
                have cB1 := (Blk.on (Blk.drew (Q0)) hbw).cell
                have hcx := (Below.cell (p := ⟨b2, off2 + k * 2, none⟩) hbw hb2).trans d0
                go_simp
                exact hKf _ _ (Below.refl _ _) rfl
              | 12, _ =>
                refine StepOk.plain _ 38 rfl rfl rfl [(31, some 5), (37, some 11)] (by kernel_rfl) (fun af wf hbw hf Kf hKf => ?_)
                obtain ⟨g31, g37, _⟩ := hf
                have h31 : af.tmps[31]?.getD undef = .int .i64 K1 := g31
                have h37 : af.tmps[37]?.getD undef = .int .i64 K2 := g37
                clear g31 g37
                have hqk := hKb
                go_simp
                exact hKf _ _ (Below.refl _ _) rfl
              | 13, _ =>
                refine StepOk.plain _ 39 rfl rfl rfl [(38, some 12)] (by kernel_rfl) (fun af wf hbw hf Kf hKf => ?_)
                obtain ⟨g38, _⟩ := hf
                have h38 : af.tmps[38]?.getD undef = .bool true := g38
                clear g38
                go_simp
                exact hKf _ _ (Below.refl _ _) rfl
              | 14, _ => exact StepOk.no _ 40 rfl rfl rfl rfl (fun _ _ h => h) (by decide) (by kernel_rfl) (fun _ => rfl)
              | 15, _ => exact StepOk.no _ 41 rfl rfl rfl rfl (fun _ _ h => h) (by decide) (by kernel_rfl) (fun _ => rfl)
              | 16, _ => exact StepOk.no _ 42 rfl rfl rfl rfl (fun _ _ h => h) (by decide) (by kernel_rfl) (fun _ => rfl)
              | 17, _ => exact StepOk.no _ 43 rfl rfl rfl rfl (fun _ _ h => h) (by decide) (by kernel_rfl) (fun _ => rfl)
              | 18, _ => exact StepOk.no _ 44 rfl rfl rfl rfl (fun _ _ h => h) (by decide) (by kernel_rfl) (fun _ => rfl)
              | 19, _ => exact StepOk.no _ 45 rfl rfl rfl rfl (fun _ _ h => h) (by decide) (by kernel_rfl) (fun _ => rfl)
              | 20, _ => exact StepOk.no _ 46 rfl rfl rfl rfl (fun _ _ h => h) (by decide) (by kernel_rfl) (fun _ => rfl)
              | 21, _ => exact StepOk.no _ 47 rfl rfl rfl rfl (fun _ _ h => h) (by decide) (by kernel_rfl) (fun _ => rfl)
              | 22, _ => exact StepOk.no _ 48 rfl rfl rfl rfl (fun _ _ h => h) (by decide) (by kernel_rfl) (fun _ => rfl)
              | 23, _ => exact StepOk.no _ 49 rfl rfl rfl rfl (fun _ _ h => h) (by decide) (by kernel_rfl) (fun _ => rfl)
              | 24, _ => exact StepOk.no _ 50 rfl rfl rfl rfl (fun _ _ h => h) (by decide) (by kernel_rfl) (fun _ => rfl)
              | 25, _ => exact StepOk.no _ 51 rfl rfl rfl rfl (fun _ _ h => h) (by decide) (by kernel_rfl) (fun _ => rfl)
              | 26, _ => exact StepOk.no _ 52 rfl rfl rfl rfl (fun _ _ h => h) (by decide) (by kernel_rfl) (fun _ => rfl)
              | 27, _ => exact StepOk.no _ 53 rfl rfl rfl rfl (fun _ _ h => h) (by decide) (by kernel_rfl) (fun _ => rfl)
              | 28, _ => exact StepOk.no _ 54 rfl rfl rfl rfl (fun _ _ h => h) (by decide) (by kernel_rfl) (fun _ => rfl)
              | 29, _ =>
                refine StepOk.plain _ 55 rfl rfl rfl [(39, some 13), (54, some 28)] (by kernel_rfl) (fun af wf hbw hf Kf hKf => ?_)
                obtain ⟨g39, g54, _⟩ := hf
                have h39 : af.tmps[39]?.getD undef = .bool true := g39
                have h54 : af.tmps[54]?.getD undef = undef := g54
                clear g39 g54
                go_simp
                exact hKf _ _ (Below.refl _ _) rfl
              | i + 30, h => exact absurd h (by show ¬ (i + 30 < 30); omega)
            · intro af wF hbF hdF hsF hbaseF hfactF
              obtain ⟨T, dsF⟩ := af
              obtain rfl : dsF = _ := hdF
              have e0 := hbaseF 0 (not_dst (by kernel_rfl))
              simp only [List.getElem?_toArray, List.getElem?_cons_zero, Option.getD_some] at e0
              have e1 := hbaseF 1 (not_dst (by kernel_rfl))
              simp only [List.getElem?_toArray, List.getElem?_cons_zero, List.getElem?_cons_succ, Option.getD_some] at e1
              have e2 := hbaseF 2 (not_dst (by kernel_rfl))
              simp only [List.getElem?_toArray, List.getElem?_cons_zero, List.getElem?_cons_succ, Option.getD_some] at e2
              have e3 := hbaseF 3 (not_dst (by kernel_rfl))
              simp only [List.getElem?_toArray, List.getElem?_cons_zero, List.getElem?_cons_succ, Option.getD_some] at e3
              have e4 := hbaseF 4 (not_dst (by kernel_rfl))
              simp only [List.getElem?_toArray, List.getElem?_cons_zero, List.getElem?_cons_succ, Option.getD_some] at e4
              have e5 := hbaseF 5 (not_dst (by kernel_rfl))
              simp only [List.getElem?_toArray, List.getElem?_cons_zero, List.getElem?_cons_succ, Option.getD_some] at e5
              have e6 := hbaseF 6 (not_dst (by kernel_rfl))
              simp only [List.getElem?_toArray, List.getElem?_cons_zero, List.getElem?_cons_succ, Option.getD_some] at e6
              have e7 := hbaseF 7 (not_dst (by kernel_rfl))
              simp only [List.getElem?_toArray, List.getElem?_cons_zero, List.getElem?_cons_succ, Option.getD_some] at e7
              have e8 := hbaseF 8 (not_dst (by kernel_rfl))
              simp only [List.getElem?_toArray, List.getElem?_cons_zero, List.getElem?_cons_succ, Option.getD_some] at e8
              have e9 := hbaseF 9 (not_dst (by kernel_rfl))
              simp only [List.getElem?_toArray, List.getElem?_cons_zero, List.getElem?_cons_succ, Option.getD_some] at e9
              have e10 := hbaseF 10 (not_dst (by kernel_rfl))
              simp only [List.getElem?_toArray, List.getElem?_cons_zero, List.getElem?_cons_succ, Option.getD_some] at e10
              have e11 := hbaseF 11 (not_dst (by kernel_rfl))
              simp only [List.getElem?_toArray, List.getElem?_cons_zero, List.getElem?_cons_succ, Option.getD_some] at e11
              have e12 := hbaseF 12 (not_dst (by kernel_rfl))
              simp only [List.getElem?_toArray, List.getElem?_cons_zero, List.getElem?_cons_succ, Option.getD_some] at e12
              have e13 := hbaseF 13 (not_dst (by kernel_rfl))
              simp only [List.getElem?_toArray, List.getElem?_cons_zero, List.getElem?_cons_succ, Option.getD_some] at e13
              have e14 := hbaseF 14 (not_dst (by kernel_rfl))
              simp only [List.getElem?_toArray, List.getElem?_cons_zero, List.getElem?_cons_succ, Option.getD_some] at e14
              have e15 := hbaseF 15 (not_dst (by kernel_rfl))
              simp only [List.getElem?_toArray, List.getElem?_cons_zero, List.getElem?_cons_succ, Option.getD_some] at e15
              have e16 := hbaseF 16 (not_dst (by kernel_rfl))
              simp only [List.getElem?_toArray, List.getElem?_cons_zero, List.getElem?_cons_succ, Option.getD_some] at e16
              have e17 := hbaseF 17 (not_dst (by kernel_rfl))
              simp only [List.getElem?_toArray, List.getElem?_cons_zero, List.getElem?_cons_succ, Option.getD_some] at e17
              have e18 := hbaseF 18 (not_dst (by kernel_rfl))
              simp only [List.getElem?_toArray, List.getElem?_cons_zero, List.getElem?_cons_succ, Option.getD_some] at e18
              have e19 := hbaseF 19 (not_dst (by kernel_rfl))
              simp only [List.getElem?_toArray, List.getElem?_cons_zero, List.getElem?_cons_succ, Option.getD_some] at e19
              have e20 := hbaseF 20 (not_dst (by kernel_rfl))
              simp only [List.getElem?_toArray, List.getElem?_cons_zero, List.getElem?_cons_succ, Option.getD_some] at e20
              have e21 := hbaseF 21 (not_dst (by kernel_rfl))
              simp only [List.getElem?_toArray, List.getElem?_cons_zero, List.getElem?_cons_succ, Option.getD_some] at e21
              have e22 := hbaseF 22 (not_dst (by kernel_rfl))
              simp only [List.getElem?_toArray, List.getElem?_cons_zero, List.getElem?_cons_succ, Option.getD_some] at e22
              have e23 := hbaseF 23 (not_dst (by kernel_rfl))
              simp only [List.getElem?_toArray, List.getElem?_cons_zero, List.getElem?_cons_succ, Option.getD_some] at e23
              have e24 := hbaseF 24 (not_dst (by kernel_rfl))
              simp only [List.getElem?_toArray, List.getElem?_cons_zero, List.getElem?_cons_succ, Option.getD_some] at e24
              have e25 := hbaseF 25 (not_dst (by kernel_rfl))
              simp only [List.getElem?_toArray, List.getElem?_cons_zero, List.getElem?_cons_succ, Option.getD_some] at e25
              have e56 := hbaseF 56 (not_dst (by kernel_rfl))
              simp only [List.getElem?_toArray, List.getElem?_cons_zero, List.getElem?_cons_succ, Option.getD_some] at e56
              have e55 := hfactF 29 55 (by decide) rfl
              replace e55 : T[55]?.getD undef = .bool true := e55
              clear hbaseF hfactF
              have hT : T = #[T[0]?.getD undef, T[1]?.getD undef, T[2]?.getD undef, T[3]?.getD undef, T[4]?.getD undef, T[5]?.getD undef, T[6]?.getD undef, T[7]?.getD undef, T[8]?.getD undef, T[9]?.getD undef, T[10]?.getD undef, T[11]?.getD undef, T[12]?.getD undef, T[13]?.getD undef, T[14]?.getD undef, T[15]?.getD undef, T[16]?.getD undef, T[17]?.getD undef, T[18]?.getD undef, T[19]?.getD undef, T[20]?.getD undef, T[21]?.getD undef, T[22]?.getD undef, T[23]?.getD undef, T[24]?.getD undef, T[25]?.getD undef, T[26]?.getD undef, T[27]?.getD undef, T[28]?.getD undef, T[29]?.getD undef, T[30]?.getD undef, T[31]?.getD undef, T[32]?.getD undef, T[33]?.getD undef, T[34]?.getD undef, T[35]?.getD undef, T[36]?.getD undef, T[37]?.getD undef, T[38]?.getD undef, T[39]?.getD undef, T[40]?.getD undef, T[41]?.getD undef, T[42]?.getD undef, T[43]?.getD undef, T[44]?.getD undef, T[45]?.getD undef, T[46]?.getD undef, T[47]?.getD undef, T[48]?.getD undef, T[49]?.getD undef, T[50]?.getD undef, T[51]?.getD undef, T[52]?.getD undef, T[53]?.getD undef, T[54]?.getD undef, T[55]?.getD undef, T[56]?.getD undef] := arr_eq T 57 hsF
              clear hsF
              rw [e0] at hT; clear e0
              rw [e1] at hT; clear e1
              rw [e2] at hT; clear e2
              rw [e3] at hT; clear e3
              rw [e4] at hT; clear e4
              rw [e5] at hT; clear e5
              rw [e6] at hT; clear e6
              rw [e7] at hT; clear e7
              rw [e8] at hT; clear e8
              rw [e9] at hT; clear e9
              rw [e10] at hT; clear e10
              rw [e11] at hT; clear e11
              rw [e12] at hT; clear e12
              rw [e13] at hT; clear e13
              rw [e14] at hT; clear e14
              rw [e15] at hT; clear e15
              rw [e16] at hT; clear e16
              rw [e17] at hT; clear e17
              rw [e18] at hT; clear e18
              rw [e19] at hT; clear e19
              rw [e20] at hT; clear e20
              rw [e21] at hT; clear e21
              rw [e22] at hT; clear e22
              rw [e23] at hT; clear e23
              rw [e24] at hT; clear e24
              rw [e25] at hT; clear e25
              generalize T[26]?.getD undef = u26 at hT
              generalize T[27]?.getD undef = u27 at hT
              generalize T[28]?.getD undef = u28 at hT
              generalize T[29]?.getD undef = u29 at hT
              generalize T[30]?.getD undef = u30 at hT
              generalize T[31]?.getD undef = u31 at hT
              generalize T[32]?.getD undef = u32 at hT
              generalize T[33]?.getD undef = u33 at hT
              generalize T[34]?.getD undef = u34 at hT
              generalize T[35]?.getD undef = u35 at hT
              generalize T[36]?.getD undef = u36 at hT
              generalize T[37]?.getD undef = u37 at hT
              generalize T[38]?.getD undef = u38 at hT
              generalize T[39]?.getD undef = u39 at hT
              generalize T[40]?.getD undef = u40 at hT
              generalize T[41]?.getD undef = u41 at hT
              generalize T[42]?.getD undef = u42 at hT
              generalize T[43]?.getD undef = u43 at hT
              generalize T[44]?.getD undef = u44 at hT
              generalize T[45]?.getD undef = u45 at hT
              generalize T[46]?.getD undef = u46 at hT
              generalize T[47]?.getD undef = u47 at hT
              generalize T[48]?.getD undef = u48 at hT
              generalize T[49]?.getD undef = u49 at hT
              generalize T[50]?.getD undef = u50 at hT
              generalize T[51]?.getD undef = u51 at hT
              generalize T[52]?.getD undef = u52 at hT
              generalize T[53]?.getD undef = u53 at hT
              generalize T[54]?.getD undef = u54 at hT
              rw [e55] at hT; clear e55
              rw [e56] at hT; clear e56
              subst hT
              go_wp2_with fail
              go_ret
              exact ⟨by rw [hr.out, hst.out]; rfl, (by (have q_hbF := Below.size hbF; (try simp at q_hbF); have q_hbel := Below.size hbel; (try simp at q_hbel); repeat (first | exact Below.refl _ _ | (refine Below.trans ?_ (Below.mono hbF (by first | omega | (simp; omega) | simp))) | (refine Below.trans ?_ (Below.mono hbel (by first | omega | (simp; omega) | simp))) | (refine Below.setCell ?_ (by first | omega | (simp; omega) | simp) _) | (refine Below.alloc ?_ (by first | omega | (simp; omega) | simp) _) | apply Below.drew | apply below_drewN)))⟩
        · obtain rfl : k = n := by omega
          have hst := Lib.hid (show decide (a = b) = true from decide_eq_true (by have := HEQ.out; rw [List.take_of_length_le (by rw [h1.len]; omega), List.take_of_length_le (by rw [h2.len]; omega)] at this; exact this))
          go_wp2_with fail
          go_ret
          exact ⟨by rw [hr.out, hst.out]; rfl, hbel⟩
    · have hst := Lib.hid (show decide (a = b) = false from decide_eq_false (ents_len h1.len h2.len hnm))
      have hb : ((n : Int) != (m : Int)) = true := by simp; omega
      clear hnm
      go_enter Try.func41, Try.ntmps41
      go_wp2_with fail
      go_ret
      exact ⟨by rw [hr.out, hst.out]; rfl, (by (repeat (first | exact Below.refl _ _ | (refine Below.setCell ?_ (by first | omega | (simp; omega) | simp) _) | (refine Below.alloc ?_ (by first | omega | (simp; omega) | simp) _) | apply Below.drew | apply below_drewN)))⟩
  · have hr := Lib.hid (show sameLog x y a b = false by simp [sameLog, hx])
    have hb : (x != y) = true := by simp [hx]
    clear hx
    go_enter Try.func41, Try.ntmps41
    go_wp2_with fail
    go_ret
    exact ⟨by rw [hr.out]; rfl, (by (repeat (first | exact Below.refl _ _ | (refine Below.setCell ?_ (by first | omega | (simp; omega) | simp) _) | (refine Below.alloc ?_ (by first | omega | (simp; omega) | simp) _) | apply Below.drew | apply below_drewN)))⟩
end Go.Proofs.Ythepgnankelmeaa
namespace Go.Proofs.Ythepgnankelmeaa
open Go.RowKit

/-- One more entry, behind the block's number last. -/
def stE (S : Int) (o : Option Int) (e : Ent) : Option Int := match o with | some last => if last < e.1 ∧ e.1 < S ∧ e.2.length = 256 then some e.1 else none | none => none
def foldE (S : Int) (es : List Ent) : Option Int := es.foldl (stE S) (some (-1))
theorem foldE_snoc (S : Int) (l : List Ent) (e : Ent) : foldE S (l ++ [e]) = stE S (foldE S l) e := by simp [foldE]
theorem foldE_none {S : Int} {es : List Ent} {k : Nat} (h : foldE S (es.take k) = none) : foldE S es = none := by
  have key : ∀ l : List Ent, l.foldl (stE S) none = none := by
    intro l
    induction l with
    | nil => rfl
    | cons e l ih => exact ih
  rw [← List.take_append_drop k es]
  unfold foldE at h ⊢
  rw [List.foldl_append, h, key]
theorem foldE_ge {S : Int} {es : List Ent} {x : Int} (h : foldE S es = some x) : -1 ≤ x := by
  have key : ∀ (l : List Ent) (o : Option Int), (∀ y, o = some y → -1 ≤ y) → ∀ x, l.foldl (stE S) o = some x → -1 ≤ x := by
    intro l
    induction l with
    | nil => intro o ho x hx; exact ho x hx
    | cons e l ih =>
      intro o ho x hx
      refine ih (stE S o e) (fun y hy => ?_) x hx
      unfold stE at hy
      cases o with
      | none => cases hy
      | some last =>
        simp only at hy
        split at hy
        · rename_i h1
          injection hy with hy
          have := ho last rfl
          omega
        · cases hy
  exact key es _ (fun y hy => by injection hy with hy; omega) x h
/-- What holds of each entry of those that may be. -/
theorem foldE_all {S : Int} {es : List Ent} {x : Int} (h : foldE S es = some x) : ∀ e ∈ es, 0 ≤ e.1 ∧ e.1 < S ∧ e.2.length = 256 := by
  intro e he
  obtain ⟨k, hk, hke⟩ := List.getElem_of_mem he
  have hke' : es[k]? = some e := by rw [List.getElem?_eq_getElem hk, hke]
  cases h1 : foldE S (es.take (k + 1)) with
  | none => rw [foldE_none h1] at h; cases h
  | some y =>
    rw [take_step hke', foldE_snoc] at h1
    cases h2 : foldE S (es.take k) with
    | none => rw [h2] at h1; cases h1
    | some last =>
      rw [h2] at h1
      have := foldE_ge h2
      unfold stE at h1
      simp only at h1
      split at h1
      · rename_i h3; exact ⟨by omega, h3.2.1, h3.2.2⟩
      · cases h1
/-- May a log be? -/
def mayLog (p t : Int) (es : List Ent) : Bool := gmay p t && (decide (1 ≤ es.length ∧ (es.length : Int) ≤ t) && (foldE (sealedI p) es).isSome)
theorem mayLog_true {p t : Int} {es : List Ent} (h : mayLog p t es = true) : gmay p t = true ∧ 1 ≤ es.length ∧ (es.length : Int) ≤ t ∧ ∀ e ∈ es, 0 ≤ e.1 ∧ e.1 < sealedI p ∧ e.2.length = 256 := by
  unfold mayLog at h
  simp only [Bool.and_eq_true, decide_eq_true_eq] at h
  obtain ⟨x, hx⟩ := Option.isSome_iff_exists.1 h.2.2
  exact ⟨h.1, h.2.1.1, h.2.1.2, foldE_all hx⟩

set_option maxRecDepth 100000 in
set_option maxHeartbeats 8000000 in
theorem lmay_any (p t cnt : Int) (A : Option Addr) (n c B : Nat) (T : TypeId) (es : List Ent) (w : World) (hr : RdR entK B T w A n es) (hn : n ≤ 1000000) :
    Calls Try.prog 49 #[.agg #[.int .i64 p, .int .i64 t], .agg #[.int .u64 cnt, .slice A n c]] w fun e w' => e = .returned (.bool (mayLog p t es)) ∧ Below w.heap.size w w' := by
  have hlen := hr.len
  have P0 : Blk ((w.alloc (.cells #[.int .i64 p, .int .i64 t] 23)).alloc (.cells #[.int .u64 cnt, .slice A n c] 56)) w.heap.size 23 #[.int .i64 p, .int .i64 t] := (Blk.new _ _ _).alloc _
  have Q0 : Blk ((w.alloc (.cells #[.int .i64 p, .int .i64 t] 23)).alloc (.cells #[.int .u64 cnt, .slice A n c] 56)) (w.heap.size + 1) 56 #[.int .u64 cnt, .slice A n c] := by
    simpa using Blk.new (w.alloc (.cells #[.int .i64 p, .int .i64 t] 23)) 56 #[.int .u64 cnt, .slice A n c]
  cases hm : gmay p t
  · have hres := Lib.hid (show mayLog p t es = false by unfold mayLog; rw [hm]; rfl)
    go_enter Try.func49, Try.ntmps49
    go_wp2_with fail
    refine (check_no p t _ hm).mono ?_
    rintro e w1 ⟨rfl, hb1⟩
    go_wp2_with fail
    go_ret
    exact ⟨by rw [hres.out]; rfl, (by (have q_hb1 := Below.size hb1; (try simp at q_hb1); repeat (first | exact Below.refl _ _ | (refine Below.trans ?_ (Below.mono hb1 (by first | omega | (simp; omega) | simp))) | (refine Below.setCell ?_ (by first | omega | (simp; omega) | simp) _) | (refine Below.alloc ?_ (by first | omega | (simp; omega) | simp) _) | apply Below.drew | apply below_drewN)))⟩
  · by_cases hlen1 : 1 ≤ es.length ∧ (es.length : Int) ≤ t
    · have hres := Lib.hid (show mayLog p t es = (foldE (sealedI p) es).isSome by unfold mayLog; rw [hm, decide_eq_true hlen1]; rfl)
      obtain ⟨l1, l2⟩ := hlen1
      have l1' : (1 : Int) ≤ n := by omega
      have l2' : (n : Int) ≤ t := by omega
      obtain ⟨S, hS⟩ : ∃ S, S = sealedI p := ⟨_, rfl⟩
      rw [← hS] at hres
      have HS := Lib.hid hS
      clear hS
      go_enter Try.func49, Try.ntmps49
      go_wp2_with fail
      refine (check_yes p t _ hm).mono ?_
      rintro e w1 ⟨rfl, hb1⟩
      have P1 := P0.on hb1
      have Q1 := Q0.on hb1
      have cQ := Q1.cell
      have cP := P1.cell
      have b1 : Below w.heap.size w w1 := (by (have q_hb1 := Below.size hb1; (try simp at q_hb1); repeat (first | exact Below.refl _ _ | (refine Below.trans ?_ (Below.mono hb1 (by first | omega | (simp; omega) | simp))) | (refine Below.setCell ?_ (by first | omega | (simp; omega) | simp) _) | (refine Below.alloc ?_ (by first | omega | (simp; omega) | simp) _) | apply Below.drew | apply below_drewN)))
      clear P0 Q0 hb1
      go_wp2_with fail
      go_loopw [5, 28] (fun la i wr => ∃ k : Nat, k ≤ n ∧ i = .int .i64 k ∧ (∃ x, la = .int .i64 x ∧ foldE S (es.take k) = some x) ∧ Blk wr w.heap.size 23 #[.int .i64 p, .int .i64 t] ∧ Below w.heap.size w wr) (fun _ i _ => n - (intOf i).toNat)
      case atStart => exact ⟨0, by omega, rfl, ⟨-1, rfl, rfl⟩, P1, b1⟩
      case round =>
        clear P1 Q1 cQ cP b1
        obtain ⟨k, hk, rfl, ⟨x, rfl, hx⟩, hP, hbel⟩ := hrel
        have hx1 := foldE_ge hx
        have HX := Lib.hid hx
        have cP := hP.cell
        clear hx
        by_cases hlt : k < n
        · obtain ⟨b, off, K, Ad, nd, cd, L, rfl, hb, he, c0, c1, hX, hnd, hcd⟩ := (hr.below hbel).ent hlt
          have hLl : L.length = nd := hX.1.len
          have hst := Lib.hid (show foldE S (es.take (k + 1)) = stE S (some x) (K, L) by rw [take_step he, foldE_snoc, HX.out])
          have hfa : stE S (some x) (K, L) = none → mayLog p t es = false := fun h => by
            rw [hres.out, foldE_none (show foldE S (es.take (k + 1)) = none by rw [hst.out, h])]; rfl
          have q1 : (k : Int) < n := by omega
          have hPa := hP.alloc (.cells #[.int .i64 K, .slice Ad nd cd] 102)
          have Bx := Blk.new wr 102 #[.int .i64 K, .slice Ad nd cd]
          have HFA := Lib.hid hfa
          clear he hfa
          by_cases hle : K ≤ x
          · have hno := Lib.hid (HFA.out (by unfold stE; simp only; rw [if_neg (by omega)]))
            go_wp2_with fail
            go_ret
            exact ⟨by rw [hno.out]; rfl, (by (have q_hbel := Below.size hbel; (try simp at q_hbel); repeat (first | exact Below.refl _ _ | (refine Below.trans ?_ (Below.mono hbel (by first | omega | (simp; omega) | simp))) | (refine Below.setCell ?_ (by first | omega | (simp; omega) | simp) _) | (refine Below.alloc ?_ (by first | omega | (simp; omega) | simp) _) | apply Below.drew | apply below_drewN)))⟩
          · have hK0 : 0 ≤ K := by omega
            have hle' : x < K := by omega
            have cPa := hPa.cell
            go_wp2_with fail
            refine (sAt_any p t K _).mono ?_
            rintro e w2 ⟨rfl, hb2⟩
            have cB := (Bx.on hb2).cell
            have hP2 := hPa.on hb2
            have b2 : Below w.heap.size w w2 := (by (have q_hb2 := Below.size hb2; (try simp at q_hb2); have q_hbel := Below.size hbel; (try simp at q_hbel); repeat (first | exact Below.refl _ _ | (refine Below.trans ?_ (Below.mono hb2 (by first | omega | (simp; omega) | simp))) | (refine Below.trans ?_ (Below.mono hbel (by first | omega | (simp; omega) | simp))) | (refine Below.setCell ?_ (by first | omega | (simp; omega) | simp) _) | (refine Below.alloc ?_ (by first | omega | (simp; omega) | simp) _) | apply Below.drew | apply below_drewN)))
            clear hPa
            by_cases hKS : K < S
            · obtain ⟨y, hy, hy0⟩ : ∃ y, sAt p t K = y ∧ 0 ≤ y := by
                refine ⟨_, rfl, ?_⟩
                unfold sAt
                rw [if_pos ⟨hm, hK0, by rw [← HS.out]; exact hKS⟩]
                unfold aheadI
                obtain ⟨g1, g2, _, _⟩ := gmay_true hm
                obtain ⟨_, _, _, _, _, _⟩ := geo_range g1 g2
                simp
                omega
              rw [hy]
              clear hy
              by_cases h256 : nd = 256
              · subst h256
                have hyes := Lib.hid (show foldE S (es.take (k + 1)) = some K by rw [hst.out]; unfold stE; simp only; rw [if_pos ⟨by omega, hKS, hLl⟩])
                go_wp2_with fail
                go_roundw
                case rel => exact ⟨k + 1, by omega, by go_num, ⟨K, rfl, hyes.out⟩, hP2, b2⟩
                case measure => simp [intOf] <;> omega
              · have hno := Lib.hid (HFA.out (by unfold stE; simp only; rw [if_neg (by rw [hLl]; omega)]))
                have hne : ((nd : Int) != 256) = true := by simp; omega
                clear h256
                go_wp2_with fail
                go_ret
                exact ⟨by rw [hno.out]; rfl, b2⟩
            · have hno := Lib.hid (HFA.out (by unfold stE; simp only; rw [if_neg (by omega)]))
              have hs : sAt p t K = -1 := by unfold sAt; rw [if_neg (by rw [← HS.out]; omega)]
              rw [hs]
              go_wp2_with fail
              go_ret
              exact ⟨by rw [hno.out]; rfl, b2⟩
        · obtain rfl : k = n := by omega
          have hyes := Lib.hid (show mayLog p t es = true by rw [hres.out]; have := HX.out; rw [List.take_of_length_le (by omega)] at this; rw [this]; rfl)
          go_wp2_with fail
          go_ret
          exact ⟨by rw [hyes.out]; rfl, hbel⟩
    · have hres := Lib.hid (show mayLog p t es = false by unfold mayLog; rw [decide_eq_false hlen1]; simp)
      have hcase : n = 0 ∨ (1 ≤ n ∧ t < n) := by omega
      clear hlen1
      rcases hcase with h0 | ⟨h1, h2⟩
      · subst h0
        go_enter Try.func49, Try.ntmps49
        go_wp2_with fail
        refine (check_yes p t _ hm).mono ?_
        rintro e w1 ⟨rfl, hb1⟩
        have cQ := (Q0.on hb1).cell
        go_wp2_with fail
        go_ret
        exact ⟨by rw [hres.out]; rfl, (by (have q_hb1 := Below.size hb1; (try simp at q_hb1); repeat (first | exact Below.refl _ _ | (refine Below.trans ?_ (Below.mono hb1 (by first | omega | (simp; omega) | simp))) | (refine Below.setCell ?_ (by first | omega | (simp; omega) | simp) _) | (refine Below.alloc ?_ (by first | omega | (simp; omega) | simp) _) | apply Below.drew | apply below_drewN)))⟩
      · have h1' : (1 : Int) ≤ n := by omega
        go_enter Try.func49, Try.ntmps49
        go_wp2_with fail
        refine (check_yes p t _ hm).mono ?_
        rintro e w1 ⟨rfl, hb1⟩
        have cQ := (Q0.on hb1).cell
        have cP := (P0.on hb1).cell
        go_wp2_with fail
        go_ret
        exact ⟨by rw [hres.out]; rfl, (by (have q_hb1 := Below.size hb1; (try simp at q_hb1); repeat (first | exact Below.refl _ _ | (refine Below.trans ?_ (Below.mono hb1 (by first | omega | (simp; omega) | simp))) | (refine Below.setCell ?_ (by first | omega | (simp; omega) | simp) _) | (refine Below.alloc ?_ (by first | omega | (simp; omega) | simp) _) | apply Below.drew | apply below_drewN)))⟩
end Go.Proofs.Ythepgnankelmeaa
