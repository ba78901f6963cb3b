/- Scripts: Same, Like, and the document's All. -/
import Derived.Test.YthlgagjnlnakkaaScript4
namespace Go.Proofs.Ythlgagjnlnakkaa
open Go.RowKit

def zipA (li : Bool) (a b : List ActD) : Bool := (List.zipWith (likeA li) a b).all id
def allA (li : Bool) (a b : List ActD) : Bool := decide (a.length = b.length) && zipA li a b
theorem zipA_nil {li : Bool} {a b : List ActD} : zipA li (a.take 0) (b.take 0) = true := rfl
theorem zipA_step {li : Bool} {a b : List ActD} {k : Nat} {x y : ActD} (h : zipA li (a.take k) (b.take k) = true) (ha : a[k]? = some x) (hb : b[k]? = some y) (hx : likeA li x y = true) : zipA li (a.take (k + 1)) (b.take (k + 1)) = true := by
  unfold zipA at h ⊢
  have h1 := (List.getElem?_eq_some_iff.1 ha).1
  have h2 := (List.getElem?_eq_some_iff.1 hb).1
  rw [take_step ha, take_step hb, List.zipWith_append (by simp; omega), List.all_append, h]
  simp [hx]
theorem allA_ne {li : Bool} {a b : List ActD} {k : Nat} {x y : ActD} (ha : a[k]? = some x) (hb : b[k]? = some y) (hx : likeA li x y = false) : allA li a b = false := by
  have h : zipA li a b = false := by
    unfold zipA
    rw [List.all_eq_false]
    refine ⟨false, ?_, by simp⟩
    refine List.mem_of_getElem? (i := k) ?_
    rw [List.getElem?_zipWith, ha, hb]
    simp [hx]
  simp [allA, h]
theorem allA_end {li : Bool} {a b : List ActD} {n : Nat} (ha : a.length = n) (hb : b.length = n) (h : zipA li (a.take n) (b.take n) = true) : allA li a b = true := by
  rw [List.take_of_length_le (by omega), List.take_of_length_le (by omega)] at h
  simp [allA, h, ha, hb]
theorem allA_len {li : Bool} {a b : List ActD} {n m : Nat} (ha : a.length = n) (hb : b.length = m) (h : n ≠ m) : allA li a b = false := by
  simp [allA, ha, hb, h]

set_option maxRecDepth 100000 in
set_option maxHeartbeats 4000000 in
theorem eqfunc_same (A1 A2 : Option Addr) (n m c1 c2 B1 B2 : Nat) (T1 T2 : TypeId) (a b : List ActD) (w : World) (h1 : RdR actK B1 T1 w A1 n a) (h2 : RdR actK B2 T2 w A2 m b) (hn : n ≤ 1000000) :
    Calls Try.prog 20 #[.slice A1 n c1, .slice A2 m c2, .func (Fn.func 21) #[] #[]] w fun e w' => e = .returned (.bool (allA false a b)) ∧ Below w.heap.size w w' := by
  by_cases hnm : n = m
  · subst hnm
    go_enter Try.func20, Try.ntmps20
    go_wp2_with fail
    go_loopw [17] (fun i wr => ∃ k : Nat, k ≤ n ∧ i = .int .i64 k ∧ zipA false (a.take k) (b.take k) = true ∧ Below w.heap.size w wr) (fun i _ => n - (intOf i).toNat)
    case atStart => exact ⟨0, by omega, rfl, rfl, Below.refl _ _⟩
    case round =>
      obtain ⟨k, hk, rfl, heq, hbel⟩ := hrel
      have HEQ := Lib.hid heq
      clear heq
      by_cases hlt : k < n
      · obtain ⟨b1, off1, f1, f2, f3, f4, f5, f6, Ad1, nd1, cd1, L1, rfl, hb1, he1, c0, c1', c2', c3, c4, c5, c6, hX1, hnd1, hcd1⟩ := (h1.below hbel).act hlt
        obtain ⟨b2, off2, y1, y2, y3, y4, y5, y6, Ad2, nd2, cd2, L2, rfl, hb2, he2, d0, d1, d2, d3, d4, d5, d6, hX2, hnd2, hcd2⟩ := (h2.below hbel).act hlt
        have HE1 := Lib.hid he1
        have HE2 := Lib.hid he2
        have q1 : (k : Int) < n := by omega
        clear he1 he2
        go_wp2_with fail
        refine (actsame_any f1 f2 f3 f4 f5 f6 Ad1 nd1 cd1 L1 y1 y2 y3 y4 y5 y6 Ad2 nd2 cd2 L2 _ ((hX1.1.alloc _).alloc _) ((hX2.1.alloc _).alloc _)).mono ?_
        rintro e w1 ⟨rfl, hb3⟩
        cases hx : likeA false ((f1, f2, f3, f4, f5, f6), L1) ((y1, y2, y3, y4, y5, y6), L2) with
        | true =>
          have hst := Lib.hid (zipA_step HEQ.out HE1.out HE2.out hx)
          clear hx
          go_wp2_with fail
          go_roundw
          case rel => exact ⟨k + 1, by omega, by go_num, hst.out, (by (have q_hb3 := Below.size hb3; (try simp at q_hb3); have q_hbel := Below.size hbel; (try simp at q_hbel); repeat (first | exact Below.refl _ _ | (refine Below.trans ?_ (Below.mono hb3 (by first | omega | (simp; omega) | simp))) | (refine Below.trans ?_ (Below.mono hbel (by first | omega | (simp; omega) | simp))) | (refine Below.setCell ?_ (by first | omega | (simp; omega) | simp) _) | (refine Below.alloc ?_ (by first | omega | (simp; omega) | simp) _) | apply Below.drew | apply below_drewN)))⟩
          case measure => simp [intOf] <;> omega
        | false =>
          have hst := Lib.hid (allA_ne HE1.out HE2.out hx)
          clear hx
          go_wp2_with fail
          go_ret
          exact ⟨by rw [hst.out]; rfl, (by (have q_hb3 := Below.size hb3; (try simp at q_hb3); have q_hbel := Below.size hbel; (try simp at q_hbel); repeat (first | exact Below.refl _ _ | (refine Below.trans ?_ (Below.mono hb3 (by first | omega | (simp; omega) | simp))) | (refine Below.trans ?_ (Below.mono hbel (by first | omega | (simp; omega) | simp))) | (refine Below.setCell ?_ (by first | omega | (simp; omega) | simp) _) | (refine Below.alloc ?_ (by first | omega | (simp; omega) | simp) _) | apply Below.drew | apply below_drewN)))⟩
      · obtain rfl : k = n := by omega
        have hst := Lib.hid (allA_end h1.len h2.len HEQ.out)
        go_wp2_with fail
        go_ret
        exact ⟨by rw [hst.out]; rfl, hbel⟩
  · have hst := Lib.hid (allA_len (li := false) h1.len h2.len hnm)
    have hb : ((n : Int) != (m : Int)) = true := by simp; omega
    clear hnm
    go_enter Try.func20, Try.ntmps20
    go_wp2_with fail
    go_ret
    exact ⟨by rw [hst.out]; rfl, Below.refl _ _⟩
set_option maxRecDepth 100000 in
set_option maxHeartbeats 4000000 in
theorem eqfunc_like (A1 A2 : Option Addr) (n m c1 c2 B1 B2 : Nat) (T1 T2 : TypeId) (a b : List ActD) (w : World) (h1 : RdR actK B1 T1 w A1 n a) (h2 : RdR actK B2 T2 w A2 m b) (hn : n ≤ 1000000) :
    Calls Try.prog 20 #[.slice A1 n c1, .slice A2 m c2, .func (Fn.func 22) #[] #[]] w fun e w' => e = .returned (.bool (allA true a b)) ∧ Below w.heap.size w w' := by
  by_cases hnm : n = m
  · subst hnm
    go_enter Try.func20, Try.ntmps20
    go_wp2_with fail
    go_loopw [17] (fun i wr => ∃ k : Nat, k ≤ n ∧ i = .int .i64 k ∧ zipA true (a.take k) (b.take k) = true ∧ Below w.heap.size w wr) (fun i _ => n - (intOf i).toNat)
    case atStart => exact ⟨0, by omega, rfl, rfl, Below.refl _ _⟩
    case round =>
      obtain ⟨k, hk, rfl, heq, hbel⟩ := hrel
      have HEQ := Lib.hid heq
      clear heq
      by_cases hlt : k < n
      · obtain ⟨b1, off1, f1, f2, f3, f4, f5, f6, Ad1, nd1, cd1, L1, rfl, hb1, he1, c0, c1', c2', c3, c4, c5, c6, hX1, hnd1, hcd1⟩ := (h1.below hbel).act hlt
        obtain ⟨b2, off2, y1, y2, y3, y4, y5, y6, Ad2, nd2, cd2, L2, rfl, hb2, he2, d0, d1, d2, d3, d4, d5, d6, hX2, hnd2, hcd2⟩ := (h2.below hbel).act hlt
        have HE1 := Lib.hid he1
        have HE2 := Lib.hid he2
        have q1 : (k : Int) < n := by omega
        clear he1 he2
        go_wp2_with fail
        refine (actlike_any f1 f2 f3 f4 f5 f6 Ad1 nd1 cd1 L1 y1 y2 y3 y4 y5 y6 Ad2 nd2 cd2 L2 _ ((hX1.1.alloc _).alloc _) ((hX2.1.alloc _).alloc _)).mono ?_
        rintro e w1 ⟨rfl, hb3⟩
        cases hx : likeA true ((f1, f2, f3, f4, f5, f6), L1) ((y1, y2, y3, y4, y5, y6), L2) with
        | true =>
          have hst := Lib.hid (zipA_step HEQ.out HE1.out HE2.out hx)
          clear hx
          go_wp2_with fail
          go_roundw
          case rel => exact ⟨k + 1, by omega, by go_num, hst.out, (by (have q_hb3 := Below.size hb3; (try simp at q_hb3); have q_hbel := Below.size hbel; (try simp at q_hbel); repeat (first | exact Below.refl _ _ | (refine Below.trans ?_ (Below.mono hb3 (by first | omega | (simp; omega) | simp))) | (refine Below.trans ?_ (Below.mono hbel (by first | omega | (simp; omega) | simp))) | (refine Below.setCell ?_ (by first | omega | (simp; omega) | simp) _) | (refine Below.alloc ?_ (by first | omega | (simp; omega) | simp) _) | apply Below.drew | apply below_drewN)))⟩
          case measure => simp [intOf] <;> omega
        | false =>
          have hst := Lib.hid (allA_ne HE1.out HE2.out hx)
          clear hx
          go_wp2_with fail
          go_ret
          exact ⟨by rw [hst.out]; rfl, (by (have q_hb3 := Below.size hb3; (try simp at q_hb3); have q_hbel := Below.size hbel; (try simp at q_hbel); repeat (first | exact Below.refl _ _ | (refine Below.trans ?_ (Below.mono hb3 (by first | omega | (simp; omega) | simp))) | (refine Below.trans ?_ (Below.mono hbel (by first | omega | (simp; omega) | simp))) | (refine Below.setCell ?_ (by first | omega | (simp; omega) | simp) _) | (refine Below.alloc ?_ (by first | omega | (simp; omega) | simp) _) | apply Below.drew | apply below_drewN)))⟩
      · obtain rfl : k = n := by omega
        have hst := Lib.hid (allA_end h1.len h2.len HEQ.out)
        go_wp2_with fail
        go_ret
        exact ⟨by rw [hst.out]; rfl, hbel⟩
  · have hst := Lib.hid (allA_len (li := true) h1.len h2.len hnm)
    have hb : ((n : Int) != (m : Int)) = true := by simp; omega
    clear hnm
    go_enter Try.func20, Try.ntmps20
    go_wp2_with fail
    go_ret
    exact ⟨by rw [hst.out]; rfl, Below.refl _ _⟩

theorem scrsame_any (A1 A2 : Option Addr) (n m c1 c2 B1 B2 : Nat) (T1 T2 : TypeId) (a b : List ActD) (w : World) (h1 : RdR actK B1 T1 w A1 n a) (h2 : RdR actK B2 T2 w A2 m b) (hn : n ≤ 1000000) :
    Calls Try.prog 8 #[.slice A1 n c1, .slice A2 m c2] w fun e w' => e = .returned (.bool (allA false a b)) ∧ Below w.heap.size w w' := by
  go_enter Try.func8, Try.ntmps8
  go_wp2_with fail
  refine (eqfunc_same A1 A2 n m c1 c2 B1 B2 T1 T2 a b _ h1 h2 hn).mono ?_
  rintro e w1 ⟨rfl, hb1⟩
  go_wp2_with fail
  go_ret
  exact ⟨rfl, hb1⟩
theorem scrlike_any (A1 A2 : Option Addr) (n m c1 c2 B1 B2 : Nat) (T1 T2 : TypeId) (a b : List ActD) (w : World) (h1 : RdR actK B1 T1 w A1 n a) (h2 : RdR actK B2 T2 w A2 m b) (hn : n ≤ 1000000) :
    Calls Try.prog 10 #[.slice A1 n c1, .slice A2 m c2] w fun e w' => e = .returned (.bool (allA true a b)) ∧ Below w.heap.size w w' := by
  go_enter Try.func10, Try.ntmps10
  go_wp2_with fail
  refine (eqfunc_like A1 A2 n m c1 c2 B1 B2 T1 T2 a b _ h1 h2 hn).mono ?_
  rintro e w1 ⟨rfl, hb1⟩
  go_wp2_with fail
  go_ret
  exact ⟨rfl, hb1⟩

set_option maxRecDepth 100000 in
set_option maxHeartbeats 4000000 in
theorem rall_any (li : Bool) (A1 A2 : Option Addr) (n m c1 c2 B1 B2 : Nat) (T1 T2 : TypeId) (a b : List ActD) (w : World) (h1 : RdR actK B1 T1 w A1 n a) (h2 : RdR actK B2 T2 w A2 m b) (hn : n ≤ 1000000) :
    Calls Try.prog 11 #[.slice A1 n c1, .slice A2 m c2, .bool li] w fun e w' => e = .returned (.bool (allA li a b)) ∧ Below w.heap.size w w' := by
  by_cases hnm : n = m
  · subst hnm
    go_enter Try.func11, Try.ntmps11
    go_wp2_with fail
    go_loopw [15] (fun i wr => ∃ k : Nat, k ≤ n ∧ i = .int .i64 k ∧ zipA li (a.take k) (b.take k) = true ∧ Below w.heap.size w wr) (fun i _ => n - (intOf i).toNat)
    case atStart => exact ⟨0, by omega, rfl, rfl, Below.refl _ _⟩
    case round =>
      obtain ⟨k, hk, rfl, heq, hbel⟩ := hrel
      have HEQ := Lib.hid heq
      clear heq
      by_cases hlt : k < n
      · obtain ⟨b1, off1, f1, f2, f3, f4, f5, f6, Ad1, nd1, cd1, L1, rfl, hb1, he1, c0, c1', c2', c3, c4, c5, c6, hX1, hnd1, hcd1⟩ := (h1.below hbel).act hlt
        obtain ⟨b2, off2, y1, y2, y3, y4, y5, y6, Ad2, nd2, cd2, L2, rfl, hb2, he2, d0, d1, d2, d3, d4, d5, d6, hX2, hnd2, hcd2⟩ := (h2.below hbel).act hlt
        have HE1 := Lib.hid he1
        have HE2 := Lib.hid he2
        have q1 : (k : Int) < n := by omega
        obtain ⟨X, hX⟩ : ∃ X, X = likeA li ((f1, f2, f3, f4, f5, f6), L1) ((y1, y2, y3, y4, y5, y6), L2) := ⟨_, rfl⟩
        have HX := Lib.hid hX
        clear he1 he2 hX
        cases X with
        | true =>
          have hst := Lib.hid (zipA_step HEQ.out HE1.out HE2.out HX.out.symm)
          go_wp2_with fail
          refine wp_flows [(fun y_ _ => y_ = .slice (some ⟨b1, off1, none⟩) n c1), (fun y_ _ => y_ = .int .i64 (k : Int)), (fun y_ _ => y_ = .pointer (some ⟨b1, off1 + k * 7, none⟩)), (fun y_ _ => y_ = actV f1 f2 f3 f4 f5 f6 Ad1 nd1 cd1), (fun y_ _ => y_ = .slice (some ⟨b2, off2, none⟩) n c2), (fun y_ _ => y_ = .int .i64 (k : Int)), (fun y_ _ => y_ = .pointer (some ⟨b2, off2 + k * 7, none⟩)), (fun y_ _ => y_ = actV y1 y2 y3 y4 y5 y6 Ad2 nd2 cd2), (fun y_ _ => y_ = .bool li), (fun y_ _ => y_ = .bool true), (fun y_ _ => y_ = .bool false)] (by kernel_rfl) ⟨Stab.eq _, Stab.eq _, Stab.eq _, Stab.eq _, Stab.eq _, Stab.eq _, Stab.eq _, Stab.eq _, Stab.eq _, Stab.eq _, Stab.eq _, trivial⟩ (by kernel_rfl) (by rfl) ?_ ?_
          · intro kq hkq
            match kq, hkq with
            | 0, _ =>
              refine StepOk.plain _ 18 rfl rfl rfl [(0, none)] (by kernel_rfl) (fun af wf hbw hf Kf hKf => ?_)
              obtain ⟨g0, _⟩ := hf
              have h0 : af.tmps[0]?.getD undef = .slice (some ⟨b1, off1, none⟩) n c1 := g0
              clear g0
              go_simp
              exact hKf _ _ (Below.refl _ _) rfl
            | 1, _ =>
              refine StepOk.plain _ 19 rfl rfl rfl [(7, none)] (by kernel_rfl) (fun af wf hbw hf Kf hKf => ?_)
              obtain ⟨g7, _⟩ := hf
              have h7 : af.tmps[7]?.getD undef = .int .i64 (k : Int) := g7
              clear g7
              go_simp
              exact hKf _ _ (Below.refl _ _) rfl
            | 2, _ =>
              refine StepOk.plain _ 20 rfl rfl rfl [(18, some 0), (19, some 1)] (by kernel_rfl) (fun af wf hbw hf Kf hKf => ?_)
              obtain ⟨g18, g19, _⟩ := hf
              have h18 : af.tmps[18]?.getD undef = .slice (some ⟨b1, off1, none⟩) n c1 := g18
              have h19 : af.tmps[19]?.getD undef = .int .i64 (k : Int) := g19
              clear g18 g19
              go_simp
              exact hKf _ _ (Below.refl _ _) rfl
            | 3, _ =>
              refine StepOk.plain _ 21 rfl rfl rfl [(20, some 2)] (by kernel_rfl) (fun af wf hbw hf Kf hKf => ?_)
              obtain ⟨g20, _⟩ := hf
              have h20 : af.tmps[20]?.getD undef = .pointer (some ⟨b1, off1 + k * 7, none⟩) := g20
              clear g20
              have hx0 := (Below.cell (p := ⟨b1, off1 + k * 7, none⟩) hbw hb1).trans c0
              have hx1 := (Below.cell (p := ⟨b1, off1 + k * 7 + 1, none⟩) hbw hb1).trans c1'
              have hx2 := (Below.cell (p := ⟨b1, off1 + k * 7 + 2, none⟩) hbw hb1).trans c2'
              have hx3 := (Below.cell (p := ⟨b1, off1 + k * 7 + 3, none⟩) hbw hb1).trans c3
              have hx4 := (Below.cell (p := ⟨b1, off1 + k * 7 + 4, none⟩) hbw hb1).trans c4
              have hx5 := (Below.cell (p := ⟨b1, off1 + k * 7 + 5, none⟩) hbw hb1).trans c5
              have hx6 := (Below.cell (p := ⟨b1, off1 + k * 7 + 6, none⟩) hbw hb1).trans c6
              go_simp
              exact hKf _ _ (Below.refl _ _) rfl
            | 4, _ =>
              refine StepOk.plain _ 22 rfl rfl rfl [(1, none)] (by kernel_rfl) (fun af wf hbw hf Kf hKf => ?_)
              obtain ⟨g1, _⟩ := hf
              have h1 : af.tmps[1]?.getD undef = .slice (some ⟨b2, off2, none⟩) n c2 := g1
              clear g1
              go_simp
              exact hKf _ _ (Below.refl _ _) rfl
            | 5, _ =>
              refine StepOk.plain _ 23 rfl rfl rfl [(7, none)] (by kernel_rfl) (fun af wf hbw hf Kf hKf => ?_)
              obtain ⟨g7, _⟩ := hf
              have h7 : af.tmps[7]?.getD undef = .int .i64 (k : Int) := g7
              clear g7
              go_simp
              exact hKf _ _ (Below.refl _ _) rfl
            | 6, _ =>
              refine StepOk.plain _ 24 rfl rfl rfl [(22, some 4), (23, some 5)] (by kernel_rfl) (fun af wf hbw hf Kf hKf => ?_)
              obtain ⟨g22, g23, _⟩ := hf
              have h22 : af.tmps[22]?.getD undef = .slice (some ⟨b2, off2, none⟩) n c2 := g22
              have h23 : af.tmps[23]?.getD undef = .int .i64 (k : Int) := g23
              clear g22 g23
              go_simp
              exact hKf _ _ (Below.refl _ _) rfl
            | 7, _ =>
              refine StepOk.plain _ 25 rfl rfl rfl [(24, some 6)] (by kernel_rfl) (fun af wf hbw hf Kf hKf => ?_)
              obtain ⟨g24, _⟩ := hf
              have h24 : af.tmps[24]?.getD undef = .pointer (some ⟨b2, off2 + k * 7, none⟩) := g24
              clear g24
              have hx0 := (Below.cell (p := ⟨b2, off2 + k * 7, none⟩) hbw hb2).trans d0
              have hx1 := (Below.cell (p := ⟨b2, off2 + k * 7 + 1, none⟩) hbw hb2).trans d1
              have hx2 := (Below.cell (p := ⟨b2, off2 + k * 7 + 2, none⟩) hbw hb2).trans d2
              have hx3 := (Below.cell (p := ⟨b2, off2 + k * 7 + 3, none⟩) hbw hb2).trans d3
              have hx4 := (Below.cell (p := ⟨b2, off2 + k * 7 + 4, none⟩) hbw hb2).trans d4
              have hx5 := (Below.cell (p := ⟨b2, off2 + k * 7 + 5, none⟩) hbw hb2).trans d5
              have hx6 := (Below.cell (p := ⟨b2, off2 + k * 7 + 6, none⟩) hbw hb2).trans d6
              go_simp
              exact hKf _ _ (Below.refl _ _) rfl
            | 8, _ =>
              refine StepOk.plain _ 26 rfl rfl rfl [(2, none)] (by kernel_rfl) (fun af wf hbw hf Kf hKf => ?_)
              obtain ⟨g2, _⟩ := hf
              have h2 : af.tmps[2]?.getD undef = .bool li := g2
              clear g2
              go_simp
              exact hKf _ _ (Below.refl _ _) rfl
            | 9, _ =>
              refine StepOk.plain _ 27 rfl rfl rfl [(21, some 3), (25, some 7), (26, some 8)] (by kernel_rfl) (fun af wf hbw hf Kf hKf => ?_)
              obtain ⟨g21, g25, g26, _⟩ := hf
              have h21 : af.tmps[21]?.getD undef = actV f1 f2 f3 f4 f5 f6 Ad1 nd1 cd1 := g21
              have h25 : af.tmps[25]?.getD undef = actV y1 y2 y3 y4 y5 y6 Ad2 nd2 cd2 := g25
              have h26 : af.tmps[26]?.getD undef = .bool li := g26
              clear g21 g25 g26
              go_simp
              refine (rsame_any li f1 f2 f3 f4 f5 f6 Ad1 nd1 cd1 L1 y1 y2 y3 y4 y5 y6 Ad2 nd2 cd2 L2 _ (Rd.below (Rd.drew hX1.1) hbw) (Rd.below (Rd.drew hX2.1) hbw)).mono ?_
              rintro e wN ⟨rfl, hb9⟩
              exact hKf _ _ (hb9) (congrArg Value.bool HX.out.symm)
            | 10, _ =>
              refine StepOk.plain _ 28 rfl rfl rfl [(27, some 9)] (by kernel_rfl) (fun af wf hbw hf Kf hKf => ?_)
              obtain ⟨g27, _⟩ := hf
              have h27 : af.tmps[27]?.getD undef = .bool true := g27
              clear g27
              go_simp
              exact hKf _ _ (Below.refl _ _) rfl
            | i + 11, h => exact absurd h (by show ¬ (i + 11 < 11); omega)
          · intro af wF hbF hdF hsF hbaseF hfactF
            obtain ⟨T, dsF⟩ := af
            obtain rfl : dsF = _ := hdF
            have e0 := hbaseF 0 (not_dst (by kernel_rfl))
            simp only [List.getElem?_toArray, List.getElem?_cons_zero, Option.getD_some] at e0
            have e1 := hbaseF 1 (not_dst (by kernel_rfl))
            simp only [List.getElem?_toArray, List.getElem?_cons_zero, List.getElem?_cons_succ, Option.getD_some] at e1
            have e2 := hbaseF 2 (not_dst (by kernel_rfl))
            simp only [List.getElem?_toArray, List.getElem?_cons_zero, List.getElem?_cons_succ, Option.getD_some] at e2
            have e3 := hbaseF 3 (not_dst (by kernel_rfl))
            simp only [List.getElem?_toArray, List.getElem?_cons_zero, List.getElem?_cons_succ, Option.getD_some] at e3
            have e4 := hbaseF 4 (not_dst (by kernel_rfl))
            simp only [List.getElem?_toArray, List.getElem?_cons_zero, List.getElem?_cons_succ, Option.getD_some] at e4
            have e5 := hbaseF 5 (not_dst (by kernel_rfl))
            simp only [List.getElem?_toArray, List.getElem?_cons_zero, List.getElem?_cons_succ, Option.getD_some] at e5
            have e6 := hbaseF 6 (not_dst (by kernel_rfl))
            simp only [List.getElem?_toArray, List.getElem?_cons_zero, List.getElem?_cons_succ, Option.getD_some] at e6
            have e7 := hbaseF 7 (not_dst (by kernel_rfl))
            simp only [List.getElem?_toArray, List.getElem?_cons_zero, List.getElem?_cons_succ, Option.getD_some] at e7
            have e8 := hbaseF 8 (not_dst (by kernel_rfl))
            simp only [List.getElem?_toArray, List.getElem?_cons_zero, List.getElem?_cons_succ, Option.getD_some] at e8
            have e9 := hbaseF 9 (not_dst (by kernel_rfl))
            simp only [List.getElem?_toArray, List.getElem?_cons_zero, List.getElem?_cons_succ, Option.getD_some] at e9
            have e10 := hbaseF 10 (not_dst (by kernel_rfl))
            simp only [List.getElem?_toArray, List.getElem?_cons_zero, List.getElem?_cons_succ, Option.getD_some] at e10
            have e11 := hbaseF 11 (not_dst (by kernel_rfl))
            simp only [List.getElem?_toArray, List.getElem?_cons_zero, List.getElem?_cons_succ, Option.getD_some] at e11
            have e12 := hbaseF 12 (not_dst (by kernel_rfl))
            simp only [List.getElem?_toArray, List.getElem?_cons_zero, List.getElem?_cons_succ, Option.getD_some] at e12
            have e13 := hbaseF 13 (not_dst (by kernel_rfl))
            simp only [List.getElem?_toArray, List.getElem?_cons_zero, List.getElem?_cons_succ, Option.getD_some] at e13
            have e14 := hbaseF 14 (not_dst (by kernel_rfl))
            simp only [List.getElem?_toArray, List.getElem?_cons_zero, List.getElem?_cons_succ, Option.getD_some] at e14
            have e15 := hbaseF 15 (not_dst (by kernel_rfl))
            simp only [List.getElem?_toArray, List.getElem?_cons_zero, List.getElem?_cons_succ, Option.getD_some] at e15
            have e16 := hbaseF 16 (not_dst (by kernel_rfl))
            simp only [List.getElem?_toArray, List.getElem?_cons_zero, List.getElem?_cons_succ, Option.getD_some] at e16
            have e17 := hbaseF 17 (not_dst (by kernel_rfl))
            simp only [List.getElem?_toArray, List.getElem?_cons_zero, List.getElem?_cons_succ, Option.getD_some] at e17
            have e29 := hbaseF 29 (not_dst (by kernel_rfl))
            simp only [List.getElem?_toArray, List.getElem?_cons_zero, List.getElem?_cons_succ, Option.getD_some] at e29
            have e28 := hfactF 10 28 (by decide) rfl
            replace e28 : T[28]?.getD undef = .bool false := e28
            clear hbaseF hfactF
            have hT : T = #[T[0]?.getD undef, T[1]?.getD undef, T[2]?.getD undef, T[3]?.getD undef, T[4]?.getD undef, T[5]?.getD undef, T[6]?.getD undef, T[7]?.getD undef, T[8]?.getD undef, T[9]?.getD undef, T[10]?.getD undef, T[11]?.getD undef, T[12]?.getD undef, T[13]?.getD undef, T[14]?.getD undef, T[15]?.getD undef, T[16]?.getD undef, T[17]?.getD undef, T[18]?.getD undef, T[19]?.getD undef, T[20]?.getD undef, T[21]?.getD undef, T[22]?.getD undef, T[23]?.getD undef, T[24]?.getD undef, T[25]?.getD undef, T[26]?.getD undef, T[27]?.getD undef, T[28]?.getD undef, T[29]?.getD undef] := arr_eq T 30 hsF
            clear hsF
            rw [e0] at hT; clear e0
            rw [e1] at hT; clear e1
            rw [e2] at hT; clear e2
            rw [e3] at hT; clear e3
            rw [e4] at hT; clear e4
            rw [e5] at hT; clear e5
            rw [e6] at hT; clear e6
            rw [e7] at hT; clear e7
            rw [e8] at hT; clear e8
            rw [e9] at hT; clear e9
            rw [e10] at hT; clear e10
            rw [e11] at hT; clear e11
            rw [e12] at hT; clear e12
            rw [e13] at hT; clear e13
            rw [e14] at hT; clear e14
            rw [e15] at hT; clear e15
            rw [e16] at hT; clear e16
            rw [e17] at hT; clear e17
            generalize T[18]?.getD undef = u18 at hT
            generalize T[19]?.getD undef = u19 at hT
            generalize T[20]?.getD undef = u20 at hT
            generalize T[21]?.getD undef = u21 at hT
            generalize T[22]?.getD undef = u22 at hT
            generalize T[23]?.getD undef = u23 at hT
            generalize T[24]?.getD undef = u24 at hT
            generalize T[25]?.getD undef = u25 at hT
            generalize T[26]?.getD undef = u26 at hT
            generalize T[27]?.getD undef = u27 at hT
            rw [e28] at hT; clear e28
            rw [e29] at hT; clear e29
            subst hT
            go_wp2_with fail
            go_roundw
            case rel => exact ⟨k + 1, by omega, by go_num, hst.out, (by (have q_hbF := Below.size hbF; (try simp at q_hbF); have q_hbel := Below.size hbel; (try simp at q_hbel); repeat (first | exact Below.refl _ _ | (refine Below.trans ?_ (Below.mono hbF (by first | omega | (simp; omega) | simp))) | (refine Below.trans ?_ (Below.mono hbel (by first | omega | (simp; omega) | simp))) | (refine Below.setCell ?_ (by first | omega | (simp; omega) | simp) _) | (refine Below.alloc ?_ (by first | omega | (simp; omega) | simp) _) | apply Below.drew | apply below_drewN)))⟩
            case measure => simp [intOf] <;> omega
        | false =>
          have hst := Lib.hid (allA_ne HE1.out HE2.out HX.out.symm)
          go_wp2_with fail
          refine wp_flows [(fun y_ _ => y_ = .slice (some ⟨b1, off1, none⟩) n c1), (fun y_ _ => y_ = .int .i64 (k : Int)), (fun y_ _ => y_ = .pointer (some ⟨b1, off1 + k * 7, none⟩)), (fun y_ _ => y_ = actV f1 f2 f3 f4 f5 f6 Ad1 nd1 cd1), (fun y_ _ => y_ = .slice (some ⟨b2, off2, none⟩) n c2), (fun y_ _ => y_ = .int .i64 (k : Int)), (fun y_ _ => y_ = .pointer (some ⟨b2, off2 + k * 7, none⟩)), (fun y_ _ => y_ = actV y1 y2 y3 y4 y5 y6 Ad2 nd2 cd2), (fun y_ _ => y_ = .bool li), (fun y_ _ => y_ = .bool false), (fun y_ _ => y_ = .bool true)] (by kernel_rfl) ⟨Stab.eq _, Stab.eq _, Stab.eq _, Stab.eq _, Stab.eq _, Stab.eq _, Stab.eq _, Stab.eq _, Stab.eq _, Stab.eq _, Stab.eq _, trivial⟩ (by kernel_rfl) (by rfl) ?_ ?_
          · intro kq hkq
            match kq, hkq with
            | 0, _ =>
              refine StepOk.plain _ 18 rfl rfl rfl [(0, none)] (by kernel_rfl) (fun af wf hbw hf Kf hKf => ?_)
              obtain ⟨g0, _⟩ := hf
              have h0 : af.tmps[0]?.getD undef = .slice (some ⟨b1, off1, none⟩) n c1 := g0
              clear g0
              go_simp
              exact hKf _ _ (Below.refl _ _) rfl
            | 1, _ =>
              refine StepOk.plain _ 19 rfl rfl rfl [(7, none)] (by kernel_rfl) (fun af wf hbw hf Kf hKf => ?_)
              obtain ⟨g7, _⟩ := hf
              have h7 : af.tmps[7]?.getD undef = .int .i64 (k : Int) := g7
              clear g7
              go_simp
              exact hKf _ _ (Below.refl _ _) rfl
            | 2, _ =>
              refine StepOk.plain _ 20 rfl rfl rfl [(18, some 0), (19, some 1)] (by kernel_rfl) (fun af wf hbw hf Kf hKf => ?_)
              obtain ⟨g18, g19, _⟩ := hf
              have h18 : af.tmps[18]?.getD undef = .slice (some ⟨b1, off1, none⟩) n c1 := g18
              have h19 : af.tmps[19]?.getD undef = .int .i64 (k : Int) := g19
              clear g18 g19
              go_simp
              exact hKf _ _ (Below.refl _ _) rfl
            | 3, _ =>
              refine StepOk.plain _ 21 rfl rfl rfl [(20, some 2)] (by kernel_rfl) (fun af wf hbw hf Kf hKf => ?_)
              obtain ⟨g20, _⟩ := hf
              have h20 : af.tmps[20]?.getD undef = .pointer (some ⟨b1, off1 + k * 7, none⟩) := g20
              clear g20
              have hx0 := (Below.cell (p := ⟨b1, off1 + k * 7, none⟩) hbw hb1).trans c0
              have hx1 := (Below.cell (p := ⟨b1, off1 + k * 7 + 1, none⟩) hbw hb1).trans c1'
              have hx2 := (Below.cell (p := ⟨b1, off1 + k * 7 + 2, none⟩) hbw hb1).trans c2'
              have hx3 := (Below.cell (p := ⟨b1, off1 + k * 7 + 3, none⟩) hbw hb1).trans c3
              have hx4 := (Below.cell (p := ⟨b1, off1 + k * 7 + 4, none⟩) hbw hb1).trans c4
              have hx5 := (Below.cell (p := ⟨b1, off1 + k * 7 + 5, none⟩) hbw hb1).trans c5
              have hx6 := (Below.cell (p := ⟨b1, off1 + k * 7 + 6, none⟩) hbw hb1).trans c6
              go_simp
              exact hKf _ _ (Below.refl _ _) rfl
            | 4, _ =>
              refine StepOk.plain _ 22 rfl rfl rfl [(1, none)] (by kernel_rfl) (fun af wf hbw hf Kf hKf => ?_)
              obtain ⟨g1, _⟩ := hf
              have h1 : af.tmps[1]?.getD undef = .slice (some ⟨b2, off2, none⟩) n c2 := g1
              clear g1
              go_simp
              exact hKf _ _ (Below.refl _ _) rfl
            | 5, _ =>
              refine StepOk.plain _ 23 rfl rfl rfl [(7, none)] (by kernel_rfl) (fun af wf hbw hf Kf hKf => ?_)
              obtain ⟨g7, _⟩ := hf
              have h7 : af.tmps[7]?.getD undef = .int .i64 (k : Int) := g7
              clear g7
              go_simp
              exact hKf _ _ (Below.refl _ _) rfl
            | 6, _ =>
              refine StepOk.plain _ 24 rfl rfl rfl [(22, some 4), (23, some 5)] (by kernel_rfl) (fun af wf hbw hf Kf hKf => ?_)
              obtain ⟨g22, g23, _⟩ := hf
              have h22 : af.tmps[22]?.getD undef = .slice (some ⟨b2, off2, none⟩) n c2 := g22
              have h23 : af.tmps[23]?.getD undef = .int .i64 (k : Int) := g23
              clear g22 g23
              go_simp
              exact hKf _ _ (Below.refl _ _) rfl
            | 7, _ =>
              refine StepOk.plain _ 25 rfl rfl rfl [(24, some 6)] (by kernel_rfl) (fun af wf hbw hf Kf hKf => ?_)
              obtain ⟨g24, _⟩ := hf
              have h24 : af.tmps[24]?.getD undef = .pointer (some ⟨b2, off2 + k * 7, none⟩) := g24
              clear g24
              have hx0 := (Below.cell (p := ⟨b2, off2 + k * 7, none⟩) hbw hb2).trans d0
              have hx1 := (Below.cell (p := ⟨b2, off2 + k * 7 + 1, none⟩) hbw hb2).trans d1
              have hx2 := (Below.cell (p := ⟨b2, off2 + k * 7 + 2, none⟩) hbw hb2).trans d2
              have hx3 := (Below.cell (p := ⟨b2, off2 + k * 7 + 3, none⟩) hbw hb2).trans d3
              have hx4 := (Below.cell (p := ⟨b2, off2 + k * 7 + 4, none⟩) hbw hb2).trans d4
              have hx5 := (Below.cell (p := ⟨b2, off2 + k * 7 + 5, none⟩) hbw hb2).trans d5
              have hx6 := (Below.cell (p := ⟨b2, off2 + k * 7 + 6, none⟩) hbw hb2).trans d6
              go_simp
              exact hKf _ _ (Below.refl _ _) rfl
            | 8, _ =>
              refine StepOk.plain _ 26 rfl rfl rfl [(2, none)] (by kernel_rfl) (fun af wf hbw hf Kf hKf => ?_)
              obtain ⟨g2, _⟩ := hf
              have h2 : af.tmps[2]?.getD undef = .bool li := g2
              clear g2
              go_simp
              exact hKf _ _ (Below.refl _ _) rfl
            | 9, _ =>
              refine StepOk.plain _ 27 rfl rfl rfl [(21, some 3), (25, some 7), (26, some 8)] (by kernel_rfl) (fun af wf hbw hf Kf hKf => ?_)
              obtain ⟨g21, g25, g26, _⟩ := hf
              have h21 : af.tmps[21]?.getD undef = actV f1 f2 f3 f4 f5 f6 Ad1 nd1 cd1 := g21
              have h25 : af.tmps[25]?.getD undef = actV y1 y2 y3 y4 y5 y6 Ad2 nd2 cd2 := g25
              have h26 : af.tmps[26]?.getD undef = .bool li := g26
              clear g21 g25 g26
              go_simp
              refine (rsame_any li f1 f2 f3 f4 f5 f6 Ad1 nd1 cd1 L1 y1 y2 y3 y4 y5 y6 Ad2 nd2 cd2 L2 _ (Rd.below (Rd.drew hX1.1) hbw) (Rd.below (Rd.drew hX2.1) hbw)).mono ?_
              rintro e wN ⟨rfl, hb9⟩
              exact hKf _ _ (hb9) (congrArg Value.bool HX.out.symm)
            | 10, _ =>
              refine StepOk.plain _ 28 rfl rfl rfl [(27, some 9)] (by kernel_rfl) (fun af wf hbw hf Kf hKf => ?_)
              obtain ⟨g27, _⟩ := hf
              have h27 : af.tmps[27]?.getD undef = .bool false := g27
              clear g27
              go_simp
              exact hKf _ _ (Below.refl _ _) rfl
            | i + 11, h => exact absurd h (by show ¬ (i + 11 < 11); omega)
          · intro af wF hbF hdF hsF hbaseF hfactF
            obtain ⟨T, dsF⟩ := af
            obtain rfl : dsF = _ := hdF
            have e0 := hbaseF 0 (not_dst (by kernel_rfl))
            simp only [List.getElem?_toArray, List.getElem?_cons_zero, Option.getD_some] at e0
            have e1 := hbaseF 1 (not_dst (by kernel_rfl))
            simp only [List.getElem?_toArray, List.getElem?_cons_zero, List.getElem?_cons_succ, Option.getD_some] at e1
            have e2 := hbaseF 2 (not_dst (by kernel_rfl))
            simp only [List.getElem?_toArray, List.getElem?_cons_zero, List.getElem?_cons_succ, Option.getD_some] at e2
            have e3 := hbaseF 3 (not_dst (by kernel_rfl))
            simp only [List.getElem?_toArray, List.getElem?_cons_zero, List.getElem?_cons_succ, Option.getD_some] at e3
            have e4 := hbaseF 4 (not_dst (by kernel_rfl))
            simp only [List.getElem?_toArray, List.getElem?_cons_zero, List.getElem?_cons_succ, Option.getD_some] at e4
            have e5 := hbaseF 5 (not_dst (by kernel_rfl))
            simp only [List.getElem?_toArray, List.getElem?_cons_zero, List.getElem?_cons_succ, Option.getD_some] at e5
            have e6 := hbaseF 6 (not_dst (by kernel_rfl))
            simp only [List.getElem?_toArray, List.getElem?_cons_zero, List.getElem?_cons_succ, Option.getD_some] at e6
            have e7 := hbaseF 7 (not_dst (by kernel_rfl))
            simp only [List.getElem?_toArray, List.getElem?_cons_zero, List.getElem?_cons_succ, Option.getD_some] at e7
            have e8 := hbaseF 8 (not_dst (by kernel_rfl))
            simp only [List.getElem?_toArray, List.getElem?_cons_zero, List.getElem?_cons_succ, Option.getD_some] at e8
            have e9 := hbaseF 9 (not_dst (by kernel_rfl))
            simp only [List.getElem?_toArray, List.getElem?_cons_zero, List.getElem?_cons_succ, Option.getD_some] at e9
            have e10 := hbaseF 10 (not_dst (by kernel_rfl))
            simp only [List.getElem?_toArray, List.getElem?_cons_zero, List.getElem?_cons_succ, Option.getD_some] at e10
            have e11 := hbaseF 11 (not_dst (by kernel_rfl))
            simp only [List.getElem?_toArray, List.getElem?_cons_zero, List.getElem?_cons_succ, Option.getD_some] at e11
            have e12 := hbaseF 12 (not_dst (by kernel_rfl))
            simp only [List.getElem?_toArray, List.getElem?_cons_zero, List.getElem?_cons_succ, Option.getD_some] at e12
            have e13 := hbaseF 13 (not_dst (by kernel_rfl))
            simp only [List.getElem?_toArray, List.getElem?_cons_zero, List.getElem?_cons_succ, Option.getD_some] at e13
            have e14 := hbaseF 14 (not_dst (by kernel_rfl))
            simp only [List.getElem?_toArray, List.getElem?_cons_zero, List.getElem?_cons_succ, Option.getD_some] at e14
            have e15 := hbaseF 15 (not_dst (by kernel_rfl))
            simp only [List.getElem?_toArray, List.getElem?_cons_zero, List.getElem?_cons_succ, Option.getD_some] at e15
            have e16 := hbaseF 16 (not_dst (by kernel_rfl))
            simp only [List.getElem?_toArray, List.getElem?_cons_zero, List.getElem?_cons_succ, Option.getD_some] at e16
            have e17 := hbaseF 17 (not_dst (by kernel_rfl))
            simp only [List.getElem?_toArray, List.getElem?_cons_zero, List.getElem?_cons_succ, Option.getD_some] at e17
            have e29 := hbaseF 29 (not_dst (by kernel_rfl))
            simp only [List.getElem?_toArray, List.getElem?_cons_zero, List.getElem?_cons_succ, Option.getD_some] at e29
            have e28 := hfactF 10 28 (by decide) rfl
            replace e28 : T[28]?.getD undef = .bool true := e28
            clear hbaseF hfactF
            have hT : T = #[T[0]?.getD undef, T[1]?.getD undef, T[2]?.getD undef, T[3]?.getD undef, T[4]?.getD undef, T[5]?.getD undef, T[6]?.getD undef, T[7]?.getD undef, T[8]?.getD undef, T[9]?.getD undef, T[10]?.getD undef, T[11]?.getD undef, T[12]?.getD undef, T[13]?.getD undef, T[14]?.getD undef, T[15]?.getD undef, T[16]?.getD undef, T[17]?.getD undef, T[18]?.getD undef, T[19]?.getD undef, T[20]?.getD undef, T[21]?.getD undef, T[22]?.getD undef, T[23]?.getD undef, T[24]?.getD undef, T[25]?.getD undef, T[26]?.getD undef, T[27]?.getD undef, T[28]?.getD undef, T[29]?.getD undef] := arr_eq T 30 hsF
            clear hsF
            rw [e0] at hT; clear e0
            rw [e1] at hT; clear e1
            rw [e2] at hT; clear e2
            rw [e3] at hT; clear e3
            rw [e4] at hT; clear e4
            rw [e5] at hT; clear e5
            rw [e6] at hT; clear e6
            rw [e7] at hT; clear e7
            rw [e8] at hT; clear e8
            rw [e9] at hT; clear e9
            rw [e10] at hT; clear e10
            rw [e11] at hT; clear e11
            rw [e12] at hT; clear e12
            rw [e13] at hT; clear e13
            rw [e14] at hT; clear e14
            rw [e15] at hT; clear e15
            rw [e16] at hT; clear e16
            rw [e17] at hT; clear e17
            generalize T[18]?.getD undef = u18 at hT
            generalize T[19]?.getD undef = u19 at hT
            generalize T[20]?.getD undef = u20 at hT
            generalize T[21]?.getD undef = u21 at hT
            generalize T[22]?.getD undef = u22 at hT
            generalize T[23]?.getD undef = u23 at hT
            generalize T[24]?.getD undef = u24 at hT
            generalize T[25]?.getD undef = u25 at hT
            generalize T[26]?.getD undef = u26 at hT
            generalize T[27]?.getD undef = u27 at hT
            rw [e28] at hT; clear e28
            rw [e29] at hT; clear e29
            subst hT
            go_wp2_with fail
            go_ret
            exact ⟨by rw [hst.out]; rfl, (by (have q_hbF := Below.size hbF; (try simp at q_hbF); have q_hbel := Below.size hbel; (try simp at q_hbel); repeat (first | exact Below.refl _ _ | (refine Below.trans ?_ (Below.mono hbF (by first | omega | (simp; omega) | simp))) | (refine Below.trans ?_ (Below.mono hbel (by first | omega | (simp; omega) | simp))) | (refine Below.setCell ?_ (by first | omega | (simp; omega) | simp) _) | (refine Below.alloc ?_ (by first | omega | (simp; omega) | simp) _) | apply Below.drew | apply below_drewN)))⟩
      · obtain rfl : k = n := by omega
        have hst := Lib.hid (allA_end h1.len h2.len HEQ.out)
        go_wp2_with fail
        go_ret
        exact ⟨by rw [hst.out]; rfl, hbel⟩
  · have hst := Lib.hid (allA_len (li := li) h1.len h2.len hnm)
    have hb : ((n : Int) != (m : Int)) = true := by simp; omega
    clear hnm
    go_enter Try.func11, Try.ntmps11
    go_wp2_with fail
    go_ret
    exact ⟨by rw [hst.out]; rfl, Below.refl _ _⟩
end Go.Proofs.Ythlgagjnlnakkaa
