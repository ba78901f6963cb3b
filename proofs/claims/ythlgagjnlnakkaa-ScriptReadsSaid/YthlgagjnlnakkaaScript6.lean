/- Scripts: what is left of an act; which acts may be. -/
import Derived.Test.YthlgagjnlnakkaaScript5
namespace Go.Proofs.Ythlgagjnlnakkaa
open Go.RowKit

def hasW (k : Int) : Bool := k == 7 || k == 8 || k == 9 || k == 10 || k == 11 || k == 13
def hasK (k : Int) : Bool := k == 11 || k == 12
def hasN (k : Int) : Bool := k == 6 || k == 8 || k == 10 || k == 17
def hasA (k : Int) : Bool := k == 9 || k == 10 || k == 18
def hasY (k : Int) : Bool := k == 1 || k == 11
def hasB (k : Int) : Bool := k == 9 || k == 16 || k == 17 || k == 18

set_option maxRecDepth 100000 in
set_option maxHeartbeats 2000000 in
theorem bare_0 (f2 : Bool) (f3 f4 f5 f6 : Int) (A : Option Addr) (n c : Nat) (w : World) :
    Calls Try.prog 25 #[actV 0 f2 f3 f4 f5 f6 A n c] w fun e w' => e = .returned (actV 0 f2 f3 f4 f5 f6 A n c) ∧ Below w.heap.size w w' := by
  go_enter Try.func25, Try.ntmps25
  go_wp2_with fail
  have R1 : Blk ((w.alloc (.cells #[.int .i64 0, .bool f2, .int .i64 f3, .int .i64 f4, .int .i64 f5, .int .i64 f6, .slice A n c] 34)).alloc (.cells #[.int .i64 0, .bool f2, .int .i64 f3, .int .i64 f4, .int .i64 f5, .int .i64 f6, .slice A n c] 34)) (w.heap.size + 1) 34 #[.int .i64 0, .bool f2, .int .i64 f3, .int .i64 f4, .int .i64 f5, .int .i64 f6, .slice A n c] := by simpa using Blk.new (w.alloc (.cells #[.int .i64 0, .bool f2, .int .i64 f3, .int .i64 f4, .int .i64 f5, .int .i64 f6, .slice A n c] 34)) 34 #[.int .i64 0, .bool f2, .int .i64 f3, .int .i64 f4, .int .i64 f5, .int .i64 f6, .slice A n c]
  have e0 := R1.cell 0
  have e1 := R1.cell 1
  have e2 := R1.cell 2
  have e3 := R1.cell 3
  have e4 := R1.cell 4
  have e5 := R1.cell 5
  have e6 := R1.cell 6
  exact bodyPost_ret (v := actV 0 f2 f3 f4 f5 f6 A n c) (by simp [results, Try.results25, go_sem, e0, e1, e2, e3, e4, e5, e6]) rfl ⟨rfl, (by (repeat (first | exact Below.refl _ _ | (refine Below.setCell ?_ (by first | omega | (simp; omega) | simp) _) | (refine Below.alloc ?_ (by first | omega | (simp; omega) | simp) _) | apply Below.drew | apply below_drewN)))⟩
set_option maxRecDepth 100000 in
set_option maxHeartbeats 2000000 in
theorem bare_1 (f2 : Bool) (f3 f4 f5 f6 : Int) (A : Option Addr) (n c : Nat) (w : World) :
    Calls Try.prog 25 #[actV 1 f2 f3 f4 f5 f6 A n c] w fun e w' => e = .returned (actV 0 false f3 f4 f5 f6 A n c) ∧ Below w.heap.size w w' := by
  go_enter Try.func25, Try.ntmps25
  go_wp2_with fail
  have R1 : Blk ((w.alloc (.cells #[.int .i64 0, .bool false, .int .i64 f3, .int .i64 f4, .int .i64 f5, .int .i64 f6, .slice A n c] 34)).alloc (.cells #[.int .i64 0, .bool false, .int .i64 f3, .int .i64 f4, .int .i64 f5, .int .i64 f6, .slice A n c] 34)) (w.heap.size + 1) 34 #[.int .i64 0, .bool false, .int .i64 f3, .int .i64 f4, .int .i64 f5, .int .i64 f6, .slice A n c] := by simpa using Blk.new (w.alloc (.cells #[.int .i64 0, .bool false, .int .i64 f3, .int .i64 f4, .int .i64 f5, .int .i64 f6, .slice A n c] 34)) 34 #[.int .i64 0, .bool false, .int .i64 f3, .int .i64 f4, .int .i64 f5, .int .i64 f6, .slice A n c]
  have e0 := R1.cell 0
  have e1 := R1.cell 1
  have e2 := R1.cell 2
  have e3 := R1.cell 3
  have e4 := R1.cell 4
  have e5 := R1.cell 5
  have e6 := R1.cell 6
  exact bodyPost_ret (v := actV 0 false f3 f4 f5 f6 A n c) (by simp [results, Try.results25, go_sem, e0, e1, e2, e3, e4, e5, e6]) rfl ⟨rfl, (by (repeat (first | exact Below.refl _ _ | (refine Below.setCell ?_ (by first | omega | (simp; omega) | simp) _) | (refine Below.alloc ?_ (by first | omega | (simp; omega) | simp) _) | apply Below.drew | apply below_drewN)))⟩
set_option maxRecDepth 100000 in
set_option maxHeartbeats 2000000 in
theorem bare_2 (f2 : Bool) (f3 f4 f5 f6 : Int) (A : Option Addr) (n c : Nat) (w : World) :
    Calls Try.prog 25 #[actV 2 f2 f3 f4 f5 f6 A n c] w fun e w' => e = .returned (actV 0 f2 f3 f4 f5 f6 A n c) ∧ Below w.heap.size w w' := by
  go_enter Try.func25, Try.ntmps25
  go_wp2_with fail
  have R1 : Blk ((w.alloc (.cells #[.int .i64 0, .bool f2, .int .i64 f3, .int .i64 f4, .int .i64 f5, .int .i64 f6, .slice A n c] 34)).alloc (.cells #[.int .i64 0, .bool f2, .int .i64 f3, .int .i64 f4, .int .i64 f5, .int .i64 f6, .slice A n c] 34)) (w.heap.size + 1) 34 #[.int .i64 0, .bool f2, .int .i64 f3, .int .i64 f4, .int .i64 f5, .int .i64 f6, .slice A n c] := by simpa using Blk.new (w.alloc (.cells #[.int .i64 0, .bool f2, .int .i64 f3, .int .i64 f4, .int .i64 f5, .int .i64 f6, .slice A n c] 34)) 34 #[.int .i64 0, .bool f2, .int .i64 f3, .int .i64 f4, .int .i64 f5, .int .i64 f6, .slice A n c]
  have e0 := R1.cell 0
  have e1 := R1.cell 1
  have e2 := R1.cell 2
  have e3 := R1.cell 3
  have e4 := R1.cell 4
  have e5 := R1.cell 5
  have e6 := R1.cell 6
  exact bodyPost_ret (v := actV 0 f2 f3 f4 f5 f6 A n c) (by simp [results, Try.results25, go_sem, e0, e1, e2, e3, e4, e5, e6]) rfl ⟨rfl, (by (repeat (first | exact Below.refl _ _ | (refine Below.setCell ?_ (by first | omega | (simp; omega) | simp) _) | (refine Below.alloc ?_ (by first | omega | (simp; omega) | simp) _) | apply Below.drew | apply below_drewN)))⟩
set_option maxRecDepth 100000 in
set_option maxHeartbeats 2000000 in
theorem bare_3 (f2 : Bool) (f3 f4 f5 f6 : Int) (A : Option Addr) (n c : Nat) (w : World) :
    Calls Try.prog 25 #[actV 3 f2 f3 f4 f5 f6 A n c] w fun e w' => e = .returned (actV 0 f2 f3 f4 f5 f6 A n c) ∧ Below w.heap.size w w' := by
  go_enter Try.func25, Try.ntmps25
  go_wp2_with fail
  have R1 : Blk ((w.alloc (.cells #[.int .i64 0, .bool f2, .int .i64 f3, .int .i64 f4, .int .i64 f5, .int .i64 f6, .slice A n c] 34)).alloc (.cells #[.int .i64 0, .bool f2, .int .i64 f3, .int .i64 f4, .int .i64 f5, .int .i64 f6, .slice A n c] 34)) (w.heap.size + 1) 34 #[.int .i64 0, .bool f2, .int .i64 f3, .int .i64 f4, .int .i64 f5, .int .i64 f6, .slice A n c] := by simpa using Blk.new (w.alloc (.cells #[.int .i64 0, .bool f2, .int .i64 f3, .int .i64 f4, .int .i64 f5, .int .i64 f6, .slice A n c] 34)) 34 #[.int .i64 0, .bool f2, .int .i64 f3, .int .i64 f4, .int .i64 f5, .int .i64 f6, .slice A n c]
  have e0 := R1.cell 0
  have e1 := R1.cell 1
  have e2 := R1.cell 2
  have e3 := R1.cell 3
  have e4 := R1.cell 4
  have e5 := R1.cell 5
  have e6 := R1.cell 6
  exact bodyPost_ret (v := actV 0 f2 f3 f4 f5 f6 A n c) (by simp [results, Try.results25, go_sem, e0, e1, e2, e3, e4, e5, e6]) rfl ⟨rfl, (by (repeat (first | exact Below.refl _ _ | (refine Below.setCell ?_ (by first | omega | (simp; omega) | simp) _) | (refine Below.alloc ?_ (by first | omega | (simp; omega) | simp) _) | apply Below.drew | apply below_drewN)))⟩
set_option maxRecDepth 100000 in
set_option maxHeartbeats 2000000 in
theorem bare_4 (f2 : Bool) (f3 f4 f5 f6 : Int) (A : Option Addr) (n c : Nat) (w : World) :
    Calls Try.prog 25 #[actV 4 f2 f3 f4 f5 f6 A n c] w fun e w' => e = .returned (actV 0 f2 f3 f4 f5 f6 A n c) ∧ Below w.heap.size w w' := by
  go_enter Try.func25, Try.ntmps25
  go_wp2_with fail
  have R1 : Blk ((w.alloc (.cells #[.int .i64 0, .bool f2, .int .i64 f3, .int .i64 f4, .int .i64 f5, .int .i64 f6, .slice A n c] 34)).alloc (.cells #[.int .i64 0, .bool f2, .int .i64 f3, .int .i64 f4, .int .i64 f5, .int .i64 f6, .slice A n c] 34)) (w.heap.size + 1) 34 #[.int .i64 0, .bool f2, .int .i64 f3, .int .i64 f4, .int .i64 f5, .int .i64 f6, .slice A n c] := by simpa using Blk.new (w.alloc (.cells #[.int .i64 0, .bool f2, .int .i64 f3, .int .i64 f4, .int .i64 f5, .int .i64 f6, .slice A n c] 34)) 34 #[.int .i64 0, .bool f2, .int .i64 f3, .int .i64 f4, .int .i64 f5, .int .i64 f6, .slice A n c]
  have e0 := R1.cell 0
  have e1 := R1.cell 1
  have e2 := R1.cell 2
  have e3 := R1.cell 3
  have e4 := R1.cell 4
  have e5 := R1.cell 5
  have e6 := R1.cell 6
  exact bodyPost_ret (v := actV 0 f2 f3 f4 f5 f6 A n c) (by simp [results, Try.results25, go_sem, e0, e1, e2, e3, e4, e5, e6]) rfl ⟨rfl, (by (repeat (first | exact Below.refl _ _ | (refine Below.setCell ?_ (by first | omega | (simp; omega) | simp) _) | (refine Below.alloc ?_ (by first | omega | (simp; omega) | simp) _) | apply Below.drew | apply below_drewN)))⟩
set_option maxRecDepth 100000 in
set_option maxHeartbeats 2000000 in
theorem bare_5 (f2 : Bool) (f3 f4 f5 f6 : Int) (A : Option Addr) (n c : Nat) (w : World) :
    Calls Try.prog 25 #[actV 5 f2 f3 f4 f5 f6 A n c] w fun e w' => e = .returned (actV 0 f2 f3 f4 f5 f6 A n c) ∧ Below w.heap.size w w' := by
  go_enter Try.func25, Try.ntmps25
  go_wp2_with fail
  have R1 : Blk ((w.alloc (.cells #[.int .i64 0, .bool f2, .int .i64 f3, .int .i64 f4, .int .i64 f5, .int .i64 f6, .slice A n c] 34)).alloc (.cells #[.int .i64 0, .bool f2, .int .i64 f3, .int .i64 f4, .int .i64 f5, .int .i64 f6, .slice A n c] 34)) (w.heap.size + 1) 34 #[.int .i64 0, .bool f2, .int .i64 f3, .int .i64 f4, .int .i64 f5, .int .i64 f6, .slice A n c] := by simpa using Blk.new (w.alloc (.cells #[.int .i64 0, .bool f2, .int .i64 f3, .int .i64 f4, .int .i64 f5, .int .i64 f6, .slice A n c] 34)) 34 #[.int .i64 0, .bool f2, .int .i64 f3, .int .i64 f4, .int .i64 f5, .int .i64 f6, .slice A n c]
  have e0 := R1.cell 0
  have e1 := R1.cell 1
  have e2 := R1.cell 2
  have e3 := R1.cell 3
  have e4 := R1.cell 4
  have e5 := R1.cell 5
  have e6 := R1.cell 6
  exact bodyPost_ret (v := actV 0 f2 f3 f4 f5 f6 A n c) (by simp [results, Try.results25, go_sem, e0, e1, e2, e3, e4, e5, e6]) rfl ⟨rfl, (by (repeat (first | exact Below.refl _ _ | (refine Below.setCell ?_ (by first | omega | (simp; omega) | simp) _) | (refine Below.alloc ?_ (by first | omega | (simp; omega) | simp) _) | apply Below.drew | apply below_drewN)))⟩
set_option maxRecDepth 100000 in
set_option maxHeartbeats 2000000 in
theorem bare_6 (f2 : Bool) (f3 f4 f5 f6 : Int) (A : Option Addr) (n c : Nat) (w : World) :
    Calls Try.prog 25 #[actV 6 f2 f3 f4 f5 f6 A n c] w fun e w' => e = .returned (actV 0 f2 f3 f4 0 f6 A n c) ∧ Below w.heap.size w w' := by
  go_enter Try.func25, Try.ntmps25
  go_wp2_with fail
  have R1 : Blk ((w.alloc (.cells #[.int .i64 0, .bool f2, .int .i64 f3, .int .i64 f4, .int .i64 0, .int .i64 f6, .slice A n c] 34)).alloc (.cells #[.int .i64 0, .bool f2, .int .i64 f3, .int .i64 f4, .int .i64 0, .int .i64 f6, .slice A n c] 34)) (w.heap.size + 1) 34 #[.int .i64 0, .bool f2, .int .i64 f3, .int .i64 f4, .int .i64 0, .int .i64 f6, .slice A n c] := by simpa using Blk.new (w.alloc (.cells #[.int .i64 0, .bool f2, .int .i64 f3, .int .i64 f4, .int .i64 0, .int .i64 f6, .slice A n c] 34)) 34 #[.int .i64 0, .bool f2, .int .i64 f3, .int .i64 f4, .int .i64 0, .int .i64 f6, .slice A n c]
  have e0 := R1.cell 0
  have e1 := R1.cell 1
  have e2 := R1.cell 2
  have e3 := R1.cell 3
  have e4 := R1.cell 4
  have e5 := R1.cell 5
  have e6 := R1.cell 6
  exact bodyPost_ret (v := actV 0 f2 f3 f4 0 f6 A n c) (by simp [results, Try.results25, go_sem, e0, e1, e2, e3, e4, e5, e6]) rfl ⟨rfl, (by (repeat (first | exact Below.refl _ _ | (refine Below.setCell ?_ (by first | omega | (simp; omega) | simp) _) | (refine Below.alloc ?_ (by first | omega | (simp; omega) | simp) _) | apply Below.drew | apply below_drewN)))⟩
set_option maxRecDepth 100000 in
set_option maxHeartbeats 2000000 in
theorem bare_7 (f2 : Bool) (f3 f4 f5 f6 : Int) (A : Option Addr) (n c : Nat) (w : World) :
    Calls Try.prog 25 #[actV 7 f2 f3 f4 f5 f6 A n c] w fun e w' => e = .returned (actV 0 f2 0 f4 f5 f6 A n c) ∧ Below w.heap.size w w' := by
  go_enter Try.func25, Try.ntmps25
  go_wp2_with fail
  have R1 : Blk ((w.alloc (.cells #[.int .i64 0, .bool f2, .int .i64 0, .int .i64 f4, .int .i64 f5, .int .i64 f6, .slice A n c] 34)).alloc (.cells #[.int .i64 0, .bool f2, .int .i64 0, .int .i64 f4, .int .i64 f5, .int .i64 f6, .slice A n c] 34)) (w.heap.size + 1) 34 #[.int .i64 0, .bool f2, .int .i64 0, .int .i64 f4, .int .i64 f5, .int .i64 f6, .slice A n c] := by simpa using Blk.new (w.alloc (.cells #[.int .i64 0, .bool f2, .int .i64 0, .int .i64 f4, .int .i64 f5, .int .i64 f6, .slice A n c] 34)) 34 #[.int .i64 0, .bool f2, .int .i64 0, .int .i64 f4, .int .i64 f5, .int .i64 f6, .slice A n c]
  have e0 := R1.cell 0
  have e1 := R1.cell 1
  have e2 := R1.cell 2
  have e3 := R1.cell 3
  have e4 := R1.cell 4
  have e5 := R1.cell 5
  have e6 := R1.cell 6
  exact bodyPost_ret (v := actV 0 f2 0 f4 f5 f6 A n c) (by simp [results, Try.results25, go_sem, e0, e1, e2, e3, e4, e5, e6]) rfl ⟨rfl, (by (repeat (first | exact Below.refl _ _ | (refine Below.setCell ?_ (by first | omega | (simp; omega) | simp) _) | (refine Below.alloc ?_ (by first | omega | (simp; omega) | simp) _) | apply Below.drew | apply below_drewN)))⟩
set_option maxRecDepth 100000 in
set_option maxHeartbeats 2000000 in
theorem bare_8 (f2 : Bool) (f3 f4 f5 f6 : Int) (A : Option Addr) (n c : Nat) (w : World) :
    Calls Try.prog 25 #[actV 8 f2 f3 f4 f5 f6 A n c] w fun e w' => e = .returned (actV 0 f2 0 f4 0 f6 A n c) ∧ Below w.heap.size w w' := by
  go_enter Try.func25, Try.ntmps25
  go_wp2_with fail
  have R1 : Blk ((w.alloc (.cells #[.int .i64 0, .bool f2, .int .i64 0, .int .i64 f4, .int .i64 0, .int .i64 f6, .slice A n c] 34)).alloc (.cells #[.int .i64 0, .bool f2, .int .i64 0, .int .i64 f4, .int .i64 0, .int .i64 f6, .slice A n c] 34)) (w.heap.size + 1) 34 #[.int .i64 0, .bool f2, .int .i64 0, .int .i64 f4, .int .i64 0, .int .i64 f6, .slice A n c] := by simpa using Blk.new (w.alloc (.cells #[.int .i64 0, .bool f2, .int .i64 0, .int .i64 f4, .int .i64 0, .int .i64 f6, .slice A n c] 34)) 34 #[.int .i64 0, .bool f2, .int .i64 0, .int .i64 f4, .int .i64 0, .int .i64 f6, .slice A n c]
  have e0 := R1.cell 0
  have e1 := R1.cell 1
  have e2 := R1.cell 2
  have e3 := R1.cell 3
  have e4 := R1.cell 4
  have e5 := R1.cell 5
  have e6 := R1.cell 6
  exact bodyPost_ret (v := actV 0 f2 0 f4 0 f6 A n c) (by simp [results, Try.results25, go_sem, e0, e1, e2, e3, e4, e5, e6]) rfl ⟨rfl, (by (repeat (first | exact Below.refl _ _ | (refine Below.setCell ?_ (by first | omega | (simp; omega) | simp) _) | (refine Below.alloc ?_ (by first | omega | (simp; omega) | simp) _) | apply Below.drew | apply below_drewN)))⟩
set_option maxRecDepth 100000 in
set_option maxHeartbeats 2000000 in
theorem bare_9 (f2 : Bool) (f3 f4 f5 f6 : Int) (A : Option Addr) (n c : Nat) (w : World) :
    Calls Try.prog 25 #[actV 9 f2 f3 f4 f5 f6 A n c] w fun e w' => e = .returned (actV 0 f2 0 f4 f5 0 none 0 0) ∧ Below w.heap.size w w' := by
  go_enter Try.func25, Try.ntmps25
  go_wp2_with fail
  have R1 : Blk ((w.alloc (.cells #[.int .i64 0, .bool f2, .int .i64 0, .int .i64 f4, .int .i64 f5, .int .i64 0, .slice none 0 0] 34)).alloc (.cells #[.int .i64 0, .bool f2, .int .i64 0, .int .i64 f4, .int .i64 f5, .int .i64 0, .slice none 0 0] 34)) (w.heap.size + 1) 34 #[.int .i64 0, .bool f2, .int .i64 0, .int .i64 f4, .int .i64 f5, .int .i64 0, .slice none 0 0] := by simpa using Blk.new (w.alloc (.cells #[.int .i64 0, .bool f2, .int .i64 0, .int .i64 f4, .int .i64 f5, .int .i64 0, .slice none 0 0] 34)) 34 #[.int .i64 0, .bool f2, .int .i64 0, .int .i64 f4, .int .i64 f5, .int .i64 0, .slice none 0 0]
  have e0 := R1.cell 0
  have e1 := R1.cell 1
  have e2 := R1.cell 2
  have e3 := R1.cell 3
  have e4 := R1.cell 4
  have e5 := R1.cell 5
  have e6 := R1.cell 6
  exact bodyPost_ret (v := actV 0 f2 0 f4 f5 0 none 0 0) (by simp [results, Try.results25, go_sem, e0, e1, e2, e3, e4, e5, e6]) rfl ⟨rfl, (by (repeat (first | exact Below.refl _ _ | (refine Below.setCell ?_ (by first | omega | (simp; omega) | simp) _) | (refine Below.alloc ?_ (by first | omega | (simp; omega) | simp) _) | apply Below.drew | apply below_drewN)))⟩
set_option maxRecDepth 100000 in
set_option maxHeartbeats 2000000 in
theorem bare_10 (f2 : Bool) (f3 f4 f5 f6 : Int) (A : Option Addr) (n c : Nat) (w : World) :
    Calls Try.prog 25 #[actV 10 f2 f3 f4 f5 f6 A n c] w fun e w' => e = .returned (actV 0 f2 0 f4 0 0 A n c) ∧ Below w.heap.size w w' := by
  go_enter Try.func25, Try.ntmps25
  go_wp2_with fail
  have R1 : Blk ((w.alloc (.cells #[.int .i64 0, .bool f2, .int .i64 0, .int .i64 f4, .int .i64 0, .int .i64 0, .slice A n c] 34)).alloc (.cells #[.int .i64 0, .bool f2, .int .i64 0, .int .i64 f4, .int .i64 0, .int .i64 0, .slice A n c] 34)) (w.heap.size + 1) 34 #[.int .i64 0, .bool f2, .int .i64 0, .int .i64 f4, .int .i64 0, .int .i64 0, .slice A n c] := by simpa using Blk.new (w.alloc (.cells #[.int .i64 0, .bool f2, .int .i64 0, .int .i64 f4, .int .i64 0, .int .i64 0, .slice A n c] 34)) 34 #[.int .i64 0, .bool f2, .int .i64 0, .int .i64 f4, .int .i64 0, .int .i64 0, .slice A n c]
  have e0 := R1.cell 0
  have e1 := R1.cell 1
  have e2 := R1.cell 2
  have e3 := R1.cell 3
  have e4 := R1.cell 4
  have e5 := R1.cell 5
  have e6 := R1.cell 6
  exact bodyPost_ret (v := actV 0 f2 0 f4 0 0 A n c) (by simp [results, Try.results25, go_sem, e0, e1, e2, e3, e4, e5, e6]) rfl ⟨rfl, (by (repeat (first | exact Below.refl _ _ | (refine Below.setCell ?_ (by first | omega | (simp; omega) | simp) _) | (refine Below.alloc ?_ (by first | omega | (simp; omega) | simp) _) | apply Below.drew | apply below_drewN)))⟩
set_option maxRecDepth 100000 in
set_option maxHeartbeats 2000000 in
theorem bare_11 (f2 : Bool) (f3 f4 f5 f6 : Int) (A : Option Addr) (n c : Nat) (w : World) :
    Calls Try.prog 25 #[actV 11 f2 f3 f4 f5 f6 A n c] w fun e w' => e = .returned (actV 0 false 0 0 f5 f6 A n c) ∧ Below w.heap.size w w' := by
  go_enter Try.func25, Try.ntmps25
  go_wp2_with fail
  have R1 : Blk ((w.alloc (.cells #[.int .i64 0, .bool false, .int .i64 0, .int .i64 0, .int .i64 f5, .int .i64 f6, .slice A n c] 34)).alloc (.cells #[.int .i64 0, .bool false, .int .i64 0, .int .i64 0, .int .i64 f5, .int .i64 f6, .slice A n c] 34)) (w.heap.size + 1) 34 #[.int .i64 0, .bool false, .int .i64 0, .int .i64 0, .int .i64 f5, .int .i64 f6, .slice A n c] := by simpa using Blk.new (w.alloc (.cells #[.int .i64 0, .bool false, .int .i64 0, .int .i64 0, .int .i64 f5, .int .i64 f6, .slice A n c] 34)) 34 #[.int .i64 0, .bool false, .int .i64 0, .int .i64 0, .int .i64 f5, .int .i64 f6, .slice A n c]
  have e0 := R1.cell 0
  have e1 := R1.cell 1
  have e2 := R1.cell 2
  have e3 := R1.cell 3
  have e4 := R1.cell 4
  have e5 := R1.cell 5
  have e6 := R1.cell 6
  exact bodyPost_ret (v := actV 0 false 0 0 f5 f6 A n c) (by simp [results, Try.results25, go_sem, e0, e1, e2, e3, e4, e5, e6]) rfl ⟨rfl, (by (repeat (first | exact Below.refl _ _ | (refine Below.setCell ?_ (by first | omega | (simp; omega) | simp) _) | (refine Below.alloc ?_ (by first | omega | (simp; omega) | simp) _) | apply Below.drew | apply below_drewN)))⟩
set_option maxRecDepth 100000 in
set_option maxHeartbeats 2000000 in
theorem bare_12 (f2 : Bool) (f3 f4 f5 f6 : Int) (A : Option Addr) (n c : Nat) (w : World) :
    Calls Try.prog 25 #[actV 12 f2 f3 f4 f5 f6 A n c] w fun e w' => e = .returned (actV 0 f2 f3 0 f5 f6 A n c) ∧ Below w.heap.size w w' := by
  go_enter Try.func25, Try.ntmps25
  go_wp2_with fail
  have R1 : Blk ((w.alloc (.cells #[.int .i64 0, .bool f2, .int .i64 f3, .int .i64 0, .int .i64 f5, .int .i64 f6, .slice A n c] 34)).alloc (.cells #[.int .i64 0, .bool f2, .int .i64 f3, .int .i64 0, .int .i64 f5, .int .i64 f6, .slice A n c] 34)) (w.heap.size + 1) 34 #[.int .i64 0, .bool f2, .int .i64 f3, .int .i64 0, .int .i64 f5, .int .i64 f6, .slice A n c] := by simpa using Blk.new (w.alloc (.cells #[.int .i64 0, .bool f2, .int .i64 f3, .int .i64 0, .int .i64 f5, .int .i64 f6, .slice A n c] 34)) 34 #[.int .i64 0, .bool f2, .int .i64 f3, .int .i64 0, .int .i64 f5, .int .i64 f6, .slice A n c]
  have e0 := R1.cell 0
  have e1 := R1.cell 1
  have e2 := R1.cell 2
  have e3 := R1.cell 3
  have e4 := R1.cell 4
  have e5 := R1.cell 5
  have e6 := R1.cell 6
  exact bodyPost_ret (v := actV 0 f2 f3 0 f5 f6 A n c) (by simp [results, Try.results25, go_sem, e0, e1, e2, e3, e4, e5, e6]) rfl ⟨rfl, (by (repeat (first | exact Below.refl _ _ | (refine Below.setCell ?_ (by first | omega | (simp; omega) | simp) _) | (refine Below.alloc ?_ (by first | omega | (simp; omega) | simp) _) | apply Below.drew | apply below_drewN)))⟩
set_option maxRecDepth 100000 in
set_option maxHeartbeats 2000000 in
theorem bare_13 (f2 : Bool) (f3 f4 f5 f6 : Int) (A : Option Addr) (n c : Nat) (w : World) :
    Calls Try.prog 25 #[actV 13 f2 f3 f4 f5 f6 A n c] w fun e w' => e = .returned (actV 0 f2 0 f4 f5 f6 A n c) ∧ Below w.heap.size w w' := by
  go_enter Try.func25, Try.ntmps25
  go_wp2_with fail
  have R1 : Blk ((w.alloc (.cells #[.int .i64 0, .bool f2, .int .i64 0, .int .i64 f4, .int .i64 f5, .int .i64 f6, .slice A n c] 34)).alloc (.cells #[.int .i64 0, .bool f2, .int .i64 0, .int .i64 f4, .int .i64 f5, .int .i64 f6, .slice A n c] 34)) (w.heap.size + 1) 34 #[.int .i64 0, .bool f2, .int .i64 0, .int .i64 f4, .int .i64 f5, .int .i64 f6, .slice A n c] := by simpa using Blk.new (w.alloc (.cells #[.int .i64 0, .bool f2, .int .i64 0, .int .i64 f4, .int .i64 f5, .int .i64 f6, .slice A n c] 34)) 34 #[.int .i64 0, .bool f2, .int .i64 0, .int .i64 f4, .int .i64 f5, .int .i64 f6, .slice A n c]
  have e0 := R1.cell 0
  have e1 := R1.cell 1
  have e2 := R1.cell 2
  have e3 := R1.cell 3
  have e4 := R1.cell 4
  have e5 := R1.cell 5
  have e6 := R1.cell 6
  exact bodyPost_ret (v := actV 0 f2 0 f4 f5 f6 A n c) (by simp [results, Try.results25, go_sem, e0, e1, e2, e3, e4, e5, e6]) rfl ⟨rfl, (by (repeat (first | exact Below.refl _ _ | (refine Below.setCell ?_ (by first | omega | (simp; omega) | simp) _) | (refine Below.alloc ?_ (by first | omega | (simp; omega) | simp) _) | apply Below.drew | apply below_drewN)))⟩
set_option maxRecDepth 100000 in
set_option maxHeartbeats 2000000 in
theorem bare_14 (f2 : Bool) (f3 f4 f5 f6 : Int) (A : Option Addr) (n c : Nat) (w : World) :
    Calls Try.prog 25 #[actV 14 f2 f3 f4 f5 f6 A n c] w fun e w' => e = .returned (actV 0 f2 f3 f4 f5 f6 A n c) ∧ Below w.heap.size w w' := by
  go_enter Try.func25, Try.ntmps25
  go_wp2_with fail
  have R1 : Blk ((w.alloc (.cells #[.int .i64 0, .bool f2, .int .i64 f3, .int .i64 f4, .int .i64 f5, .int .i64 f6, .slice A n c] 34)).alloc (.cells #[.int .i64 0, .bool f2, .int .i64 f3, .int .i64 f4, .int .i64 f5, .int .i64 f6, .slice A n c] 34)) (w.heap.size + 1) 34 #[.int .i64 0, .bool f2, .int .i64 f3, .int .i64 f4, .int .i64 f5, .int .i64 f6, .slice A n c] := by simpa using Blk.new (w.alloc (.cells #[.int .i64 0, .bool f2, .int .i64 f3, .int .i64 f4, .int .i64 f5, .int .i64 f6, .slice A n c] 34)) 34 #[.int .i64 0, .bool f2, .int .i64 f3, .int .i64 f4, .int .i64 f5, .int .i64 f6, .slice A n c]
  have e0 := R1.cell 0
  have e1 := R1.cell 1
  have e2 := R1.cell 2
  have e3 := R1.cell 3
  have e4 := R1.cell 4
  have e5 := R1.cell 5
  have e6 := R1.cell 6
  exact bodyPost_ret (v := actV 0 f2 f3 f4 f5 f6 A n c) (by simp [results, Try.results25, go_sem, e0, e1, e2, e3, e4, e5, e6]) rfl ⟨rfl, (by (repeat (first | exact Below.refl _ _ | (refine Below.setCell ?_ (by first | omega | (simp; omega) | simp) _) | (refine Below.alloc ?_ (by first | omega | (simp; omega) | simp) _) | apply Below.drew | apply below_drewN)))⟩
set_option maxRecDepth 100000 in
set_option maxHeartbeats 2000000 in
theorem bare_15 (f2 : Bool) (f3 f4 f5 f6 : Int) (A : Option Addr) (n c : Nat) (w : World) :
    Calls Try.prog 25 #[actV 15 f2 f3 f4 f5 f6 A n c] w fun e w' => e = .returned (actV 0 f2 f3 f4 f5 f6 A n c) ∧ Below w.heap.size w w' := by
  go_enter Try.func25, Try.ntmps25
  go_wp2_with fail
  have R1 : Blk ((w.alloc (.cells #[.int .i64 0, .bool f2, .int .i64 f3, .int .i64 f4, .int .i64 f5, .int .i64 f6, .slice A n c] 34)).alloc (.cells #[.int .i64 0, .bool f2, .int .i64 f3, .int .i64 f4, .int .i64 f5, .int .i64 f6, .slice A n c] 34)) (w.heap.size + 1) 34 #[.int .i64 0, .bool f2, .int .i64 f3, .int .i64 f4, .int .i64 f5, .int .i64 f6, .slice A n c] := by simpa using Blk.new (w.alloc (.cells #[.int .i64 0, .bool f2, .int .i64 f3, .int .i64 f4, .int .i64 f5, .int .i64 f6, .slice A n c] 34)) 34 #[.int .i64 0, .bool f2, .int .i64 f3, .int .i64 f4, .int .i64 f5, .int .i64 f6, .slice A n c]
  have e0 := R1.cell 0
  have e1 := R1.cell 1
  have e2 := R1.cell 2
  have e3 := R1.cell 3
  have e4 := R1.cell 4
  have e5 := R1.cell 5
  have e6 := R1.cell 6
  exact bodyPost_ret (v := actV 0 f2 f3 f4 f5 f6 A n c) (by simp [results, Try.results25, go_sem, e0, e1, e2, e3, e4, e5, e6]) rfl ⟨rfl, (by (repeat (first | exact Below.refl _ _ | (refine Below.setCell ?_ (by first | omega | (simp; omega) | simp) _) | (refine Below.alloc ?_ (by first | omega | (simp; omega) | simp) _) | apply Below.drew | apply below_drewN)))⟩
set_option maxRecDepth 100000 in
set_option maxHeartbeats 2000000 in
theorem bare_16 (f2 : Bool) (f3 f4 f5 f6 : Int) (A : Option Addr) (n c : Nat) (w : World) :
    Calls Try.prog 25 #[actV 16 f2 f3 f4 f5 f6 A n c] w fun e w' => e = .returned (actV 0 f2 f3 f4 f5 f6 none 0 0) ∧ Below w.heap.size w w' := by
  go_enter Try.func25, Try.ntmps25
  go_wp2_with fail
  have R1 : Blk ((w.alloc (.cells #[.int .i64 0, .bool f2, .int .i64 f3, .int .i64 f4, .int .i64 f5, .int .i64 f6, .slice none 0 0] 34)).alloc (.cells #[.int .i64 0, .bool f2, .int .i64 f3, .int .i64 f4, .int .i64 f5, .int .i64 f6, .slice none 0 0] 34)) (w.heap.size + 1) 34 #[.int .i64 0, .bool f2, .int .i64 f3, .int .i64 f4, .int .i64 f5, .int .i64 f6, .slice none 0 0] := by simpa using Blk.new (w.alloc (.cells #[.int .i64 0, .bool f2, .int .i64 f3, .int .i64 f4, .int .i64 f5, .int .i64 f6, .slice none 0 0] 34)) 34 #[.int .i64 0, .bool f2, .int .i64 f3, .int .i64 f4, .int .i64 f5, .int .i64 f6, .slice none 0 0]
  have e0 := R1.cell 0
  have e1 := R1.cell 1
  have e2 := R1.cell 2
  have e3 := R1.cell 3
  have e4 := R1.cell 4
  have e5 := R1.cell 5
  have e6 := R1.cell 6
  exact bodyPost_ret (v := actV 0 f2 f3 f4 f5 f6 none 0 0) (by simp [results, Try.results25, go_sem, e0, e1, e2, e3, e4, e5, e6]) rfl ⟨rfl, (by (repeat (first | exact Below.refl _ _ | (refine Below.setCell ?_ (by first | omega | (simp; omega) | simp) _) | (refine Below.alloc ?_ (by first | omega | (simp; omega) | simp) _) | apply Below.drew | apply below_drewN)))⟩
set_option maxRecDepth 100000 in
set_option maxHeartbeats 2000000 in
theorem bare_17 (f2 : Bool) (f3 f4 f5 f6 : Int) (A : Option Addr) (n c : Nat) (w : World) :
    Calls Try.prog 25 #[actV 17 f2 f3 f4 f5 f6 A n c] w fun e w' => e = .returned (actV 0 f2 f3 f4 0 f6 none 0 0) ∧ Below w.heap.size w w' := by
  go_enter Try.func25, Try.ntmps25
  go_wp2_with fail
  have R1 : Blk ((w.alloc (.cells #[.int .i64 0, .bool f2, .int .i64 f3, .int .i64 f4, .int .i64 0, .int .i64 f6, .slice none 0 0] 34)).alloc (.cells #[.int .i64 0, .bool f2, .int .i64 f3, .int .i64 f4, .int .i64 0, .int .i64 f6, .slice none 0 0] 34)) (w.heap.size + 1) 34 #[.int .i64 0, .bool f2, .int .i64 f3, .int .i64 f4, .int .i64 0, .int .i64 f6, .slice none 0 0] := by simpa using Blk.new (w.alloc (.cells #[.int .i64 0, .bool f2, .int .i64 f3, .int .i64 f4, .int .i64 0, .int .i64 f6, .slice none 0 0] 34)) 34 #[.int .i64 0, .bool f2, .int .i64 f3, .int .i64 f4, .int .i64 0, .int .i64 f6, .slice none 0 0]
  have e0 := R1.cell 0
  have e1 := R1.cell 1
  have e2 := R1.cell 2
  have e3 := R1.cell 3
  have e4 := R1.cell 4
  have e5 := R1.cell 5
  have e6 := R1.cell 6
  exact bodyPost_ret (v := actV 0 f2 f3 f4 0 f6 none 0 0) (by simp [results, Try.results25, go_sem, e0, e1, e2, e3, e4, e5, e6]) rfl ⟨rfl, (by (repeat (first | exact Below.refl _ _ | (refine Below.setCell ?_ (by first | omega | (simp; omega) | simp) _) | (refine Below.alloc ?_ (by first | omega | (simp; omega) | simp) _) | apply Below.drew | apply below_drewN)))⟩
set_option maxRecDepth 100000 in
set_option maxHeartbeats 2000000 in
theorem bare_18 (f2 : Bool) (f3 f4 f5 f6 : Int) (A : Option Addr) (n c : Nat) (w : World) :
    Calls Try.prog 25 #[actV 18 f2 f3 f4 f5 f6 A n c] w fun e w' => e = .returned (actV 0 f2 f3 f4 f5 0 none 0 0) ∧ Below w.heap.size w w' := by
  go_enter Try.func25, Try.ntmps25
  go_wp2_with fail
  have R1 : Blk ((w.alloc (.cells #[.int .i64 0, .bool f2, .int .i64 f3, .int .i64 f4, .int .i64 f5, .int .i64 0, .slice none 0 0] 34)).alloc (.cells #[.int .i64 0, .bool f2, .int .i64 f3, .int .i64 f4, .int .i64 f5, .int .i64 0, .slice none 0 0] 34)) (w.heap.size + 1) 34 #[.int .i64 0, .bool f2, .int .i64 f3, .int .i64 f4, .int .i64 f5, .int .i64 0, .slice none 0 0] := by simpa using Blk.new (w.alloc (.cells #[.int .i64 0, .bool f2, .int .i64 f3, .int .i64 f4, .int .i64 f5, .int .i64 0, .slice none 0 0] 34)) 34 #[.int .i64 0, .bool f2, .int .i64 f3, .int .i64 f4, .int .i64 f5, .int .i64 0, .slice none 0 0]
  have e0 := R1.cell 0
  have e1 := R1.cell 1
  have e2 := R1.cell 2
  have e3 := R1.cell 3
  have e4 := R1.cell 4
  have e5 := R1.cell 5
  have e6 := R1.cell 6
  exact bodyPost_ret (v := actV 0 f2 f3 f4 f5 0 none 0 0) (by simp [results, Try.results25, go_sem, e0, e1, e2, e3, e4, e5, e6]) rfl ⟨rfl, (by (repeat (first | exact Below.refl _ _ | (refine Below.setCell ?_ (by first | omega | (simp; omega) | simp) _) | (refine Below.alloc ?_ (by first | omega | (simp; omega) | simp) _) | apply Below.drew | apply below_drewN)))⟩
set_option maxRecDepth 100000 in
set_option maxHeartbeats 2000000 in
theorem bare_19 (f2 : Bool) (f3 f4 f5 f6 : Int) (A : Option Addr) (n c : Nat) (w : World) :
    Calls Try.prog 25 #[actV 19 f2 f3 f4 f5 f6 A n c] w fun e w' => e = .returned (actV 0 f2 f3 f4 f5 f6 A n c) ∧ Below w.heap.size w w' := by
  go_enter Try.func25, Try.ntmps25
  go_wp2_with fail
  have R1 : Blk ((w.alloc (.cells #[.int .i64 0, .bool f2, .int .i64 f3, .int .i64 f4, .int .i64 f5, .int .i64 f6, .slice A n c] 34)).alloc (.cells #[.int .i64 0, .bool f2, .int .i64 f3, .int .i64 f4, .int .i64 f5, .int .i64 f6, .slice A n c] 34)) (w.heap.size + 1) 34 #[.int .i64 0, .bool f2, .int .i64 f3, .int .i64 f4, .int .i64 f5, .int .i64 f6, .slice A n c] := by simpa using Blk.new (w.alloc (.cells #[.int .i64 0, .bool f2, .int .i64 f3, .int .i64 f4, .int .i64 f5, .int .i64 f6, .slice A n c] 34)) 34 #[.int .i64 0, .bool f2, .int .i64 f3, .int .i64 f4, .int .i64 f5, .int .i64 f6, .slice A n c]
  have e0 := R1.cell 0
  have e1 := R1.cell 1
  have e2 := R1.cell 2
  have e3 := R1.cell 3
  have e4 := R1.cell 4
  have e5 := R1.cell 5
  have e6 := R1.cell 6
  exact bodyPost_ret (v := actV 0 f2 f3 f4 f5 f6 A n c) (by simp [results, Try.results25, go_sem, e0, e1, e2, e3, e4, e5, e6]) rfl ⟨rfl, (by (repeat (first | exact Below.refl _ _ | (refine Below.setCell ?_ (by first | omega | (simp; omega) | simp) _) | (refine Below.alloc ?_ (by first | omega | (simp; omega) | simp) _) | apply Below.drew | apply below_drewN)))⟩

theorem bare_any (f1 : Int) (h0 : 0 ≤ f1) (h1 : f1 ≤ 19) (f2 : Bool) (f3 f4 f5 f6 : Int) (A : Option Addr) (n c : Nat) (w : World) :
    Calls Try.prog 25 #[actV f1 f2 f3 f4 f5 f6 A n c] w fun e w' => e = .returned (actV 0 (if hasY f1 then false else f2) (if hasW f1 then 0 else f3) (if hasK f1 then 0 else f4) (if hasN f1 then 0 else f5) (if hasA f1 then 0 else f6) (if hasB f1 then none else A) (if hasB f1 then 0 else n) (if hasB f1 then 0 else c)) ∧ Below w.heap.size w w' := by
  have h : f1 = 0 ∨ f1 = 1 ∨ f1 = 2 ∨ f1 = 3 ∨ f1 = 4 ∨ f1 = 5 ∨ f1 = 6 ∨ f1 = 7 ∨ f1 = 8 ∨ f1 = 9 ∨ f1 = 10 ∨ f1 = 11 ∨ f1 = 12 ∨ f1 = 13 ∨ f1 = 14 ∨ f1 = 15 ∨ f1 = 16 ∨ f1 = 17 ∨ f1 = 18 ∨ f1 = 19 := by omega
  rcases h with rfl | rfl | rfl | rfl | rfl | rfl | rfl | rfl | rfl | rfl | rfl | rfl | rfl | rfl | rfl | rfl | rfl | rfl | rfl | rfl
  · exact bare_0 f2 f3 f4 f5 f6 A n c w
  · exact bare_1 f2 f3 f4 f5 f6 A n c w
  · exact bare_2 f2 f3 f4 f5 f6 A n c w
  · exact bare_3 f2 f3 f4 f5 f6 A n c w
  · exact bare_4 f2 f3 f4 f5 f6 A n c w
  · exact bare_5 f2 f3 f4 f5 f6 A n c w
  · exact bare_6 f2 f3 f4 f5 f6 A n c w
  · exact bare_7 f2 f3 f4 f5 f6 A n c w
  · exact bare_8 f2 f3 f4 f5 f6 A n c w
  · exact bare_9 f2 f3 f4 f5 f6 A n c w
  · exact bare_10 f2 f3 f4 f5 f6 A n c w
  · exact bare_11 f2 f3 f4 f5 f6 A n c w
  · exact bare_12 f2 f3 f4 f5 f6 A n c w
  · exact bare_13 f2 f3 f4 f5 f6 A n c w
  · exact bare_14 f2 f3 f4 f5 f6 A n c w
  · exact bare_15 f2 f3 f4 f5 f6 A n c w
  · exact bare_16 f2 f3 f4 f5 f6 A n c w
  · exact bare_17 f2 f3 f4 f5 f6 A n c w
  · exact bare_18 f2 f3 f4 f5 f6 A n c w
  · exact bare_19 f2 f3 f4 f5 f6 A n c w
end Go.Proofs.Ythlgagjnlnakkaa
