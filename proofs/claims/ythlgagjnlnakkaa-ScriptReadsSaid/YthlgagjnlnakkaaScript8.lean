/- Scripts: an act's bytes. -/
import Derived.Test.YthlgagjnlnakkaaScript7
import Derived.Test.YthlgagjnlnakkaaWord
namespace Go.Proofs.Ythlgagjnlnakkaa
open Go.RowKit

def yesB (b : Bool) : UInt8 := if b then 1 else 0
def headA (e : ActD) : List UInt8 := [byteI e.1.1 0, yesB e.1.2.1]
def numsA (e : ActD) : List Int := [e.1.2.2.1, e.1.2.2.2.1, e.1.2.2.2.2.1, e.1.2.2.2.2.2, (e.2.length : Int)]
def bodyA (e : ActD) (k : Nat) : List UInt8 := headA e ++ (((numsA e).take k).map (putL 2)).flatten
def encA (e : ActD) : List UInt8 := bodyA e 5 ++ e.2
theorem bodyA_step {e : ActD} {k : Nat} {x : Int} (h : (numsA e)[k]? = some x) : bodyA e k ++ putL 2 x = bodyA e (k + 1) := by
  unfold bodyA
  rw [take_step h]
  simp
theorem bodyA_len {e : ActD} {k : Nat} (hk : k ≤ 5) : (bodyA e k).length = 2 + 2 * k := by
  have h : k = 0 ∨ k = 1 ∨ k = 2 ∨ k = 3 ∨ k = 4 ∨ k = 5 := by omega
  rcases h with rfl | rfl | rfl | rfl | rfl | rfl <;> simp [bodyA, headA, numsA, putL_len]
theorem encA_len {e : ActD} : (encA e).length = 12 + e.2.length := by unfold encA; rw [List.length_append, bodyA_len (by omega)]
theorem byteI_small {x : Int} (h0 : 0 ≤ x) (h1 : x ≤ 255) : ((byteI x 0).toNat : Int) = x := by rw [byteI_val]; simp; omega
theorem numOk_range {x : Int} (h : numOk x = true) : 0 ≤ x ∧ x ≤ 65535 := by simpa [numOk] using h
theorem mayA_range {f1 : Int} {f2 : Bool} {f3 f4 f5 f6 : Int} {L : List UInt8} (h : mayA ((f1, f2, f3, f4, f5, f6), L) = true) : (0 ≤ f1 ∧ f1 ≤ 19) ∧ L.length ≤ 1024 ∧ (0 ≤ f3 ∧ f3 ≤ 65535) ∧ (0 ≤ f4 ∧ f4 ≤ 65535) ∧ (0 ≤ f5 ∧ f5 ≤ 65535) ∧ (0 ≤ f6 ∧ f6 ≤ 65535) := by
  simp only [mayA, Bool.and_eq_true, decide_eq_true_eq] at h
  obtain ⟨⟨⟨⟨⟨⟨⟨h0, h1⟩, h2⟩, h3⟩, h4⟩, h5⟩, h6⟩, _⟩ := h
  exact ⟨⟨h0, h1⟩, h2, numOk_range h3, numOk_range h4, numOk_range h5, numOk_range h6⟩

set_option maxRecDepth 100000 in
set_option maxHeartbeats 8000000 in
theorem aenc_any (f1 : Int) (f2 : Bool) (f3 f4 f5 f6 : Int) (A : Option Addr) (n c : Nat) (L : List UInt8) (w : World) (ha : Rd w A n L) (hm : mayA ((f1, f2, f3, f4, f5, f6), L) = true) :
    Calls Try.prog 32 #[actV f1 f2 f3 f4 f5 f6 A n c] w (Gives 5 w (encA ((f1, f2, f3, f4, f5, f6), L))) := by
  have hl := ha.len
  obtain ⟨⟨h10, h11⟩, hL, ⟨h30, h31⟩, ⟨h40, h41⟩, ⟨h50, h51⟩, ⟨h60, h61⟩⟩ := mayA_range hm
  have hn0 : n ≤ 1024 := by omega
  have hk8 := byteI_small (x := f1) h10 (by omega)
  have hw8 : IntKind.u8.wrap f1 = f1 := by rw [IntKind.wrap_u8]; omega
  clear hm
  cases f2 with
  | false =>
    have a0 : headA ((f1, false, f3, f4, f5, f6), L) = [byteI f1 0, 0] := rfl
    have hb0 := Lib.hid (show bodyA ((f1, false, f3, f4, f5, f6), L) 0 = [byteI f1 0, 0] from by simp [bodyA, a0])
    have hb5 := Lib.hid (show encA ((f1, false, f3, f4, f5, f6), L) = bodyA ((f1, false, f3, f4, f5, f6), L) 5 ++ L from rfl)
    clear a0
    go_enter Try.func32, Try.ntmps32
    go_wp2_with fail
    go_loopw [4, 26] (fun v i wr => ∃ k : Nat, k ≤ 5 ∧ i = .int .i64 k ∧ Fresh 5 (w.heap.size + 1) wr v (bodyA ((f1, false, f3, f4, f5, f6), L) k) ∧ Blk wr w.heap.size 34 #[.int .i64 f1, .bool false, .int .i64 f3, .int .i64 f4, .int .i64 f5, .int .i64 f6, .slice A n c] ∧ Below w.heap.size w wr) (fun _ i _ => 5 - (intOf i).toNat)
    case atStart =>
      refine ⟨0, by omega, rfl, ?_, (Blk.new _ _ _).alloc _, (by (repeat (first | exact Below.refl _ _ | (refine Below.setCell ?_ (by first | omega | (simp; omega) | simp) _) | (refine Below.alloc ?_ (by first | omega | (simp; omega) | simp) _) | apply Below.drew | apply below_drewN)))⟩
      rw [hb0.out]
      have B9 : Blk ((w.alloc (.cells #[.int .i64 f1, .bool false, .int .i64 f3, .int .i64 f4, .int .i64 f5, .int .i64 f6, .slice A n c] 34)).alloc (.cells #[.int .u8 f1, .int .u8 0] 5)) (w.heap.size + 1) 5 #[.int .u8 f1, .int .u8 0] := by simpa using Blk.new (w.alloc (.cells #[.int .i64 f1, .bool false, .int .i64 f3, .int .i64 f4, .int .i64 f5, .int .i64 f6, .slice A n c] 34)) 5 #[.int .u8 f1, .int .u8 0]
      exact Fresh.of_blk B9 (by omega) (by unfold maxLen; omega) rfl (by simp [bv, hk8])
    case round =>
      obtain ⟨k, hk, rfl, hF, hB, hbel⟩ := hrel
      have hbz := hbel.size
      have cB0 := hB.cell
      by_cases hlt : k < 5
      · have hkk : k = 0 ∨ k = 1 ∨ k = 2 ∨ k = 3 ∨ k = 4 := by omega
        rcases hkk with rfl | rfl | rfl | rfl | rfl
        · skip
          have hst := Lib.hid (bodyA_step (e := ((f1, false, f3, f4, f5, f6), L)) (k := 0) (x := f3) (by simp [numsA, hl]))
          have hix : ∀ W : World, (Instr.index 73 (.agg #[.int .i64 f3, .int .i64 f4, .int .i64 f5, .int .i64 f6, .int .i64 (n : Int)]) (.int .i64 0)).run Try.prog W = .ok (.int .i64 f3) W := fun _ => by kernel_rfl
          have hwu : IntKind.u64.wrap (f3) = f3 := by rw [IntKind.wrap_u64]; omega
          go_wp2_with fail
          refine (put_any 2 f3 _ (by omega) (by omega) (by omega) (by omega)).mono ?_
          rintro e w2 ⟨v2, rfl, hF2, hb2⟩
          obtain ⟨A2, c2, rfl, hR2, _, _, _⟩ := hF2.rdn 2 (putL_len _ _)
          have B2 := hB.on hb2
          have hF3 := hF.below hb2
          have hz2 := hb2.size
          have hz3 := hB.lt
          have cB := B2.cell
          have b2 : Below w.heap.size w w2 := (by (have q_hb2 := Below.size hb2; (try simp at q_hb2); have q_hbel := Below.size hbel; (try simp at q_hbel); repeat (first | exact Below.refl _ _ | (refine Below.trans ?_ (Below.mono hb2 (by first | omega | (simp; omega) | simp))) | (refine Below.trans ?_ (Below.mono hbel (by first | omega | (simp; omega) | simp))) | (refine Below.setCell ?_ (by first | omega | (simp; omega) | simp) _) | (refine Below.alloc ?_ (by first | omega | (simp; omega) | simp) _) | apply Below.drew | apply below_drewN)))
          go_wp2_with (at_builtin; refine wpList_append_bytes _ rfl (.tmp 29) (.tmp 32) _ rfl (w.heap.size + 1) 5 Try.underlying30 info8 _ _ rfl hF3 _ _ _ (putL 2 f3) rfl hR2 (by rw [bodyA_len (by omega)]; omega) (by omega) ?_; intro b' w3 hF4 hg4 hb4)
          go_roundw
          case rel => exact ⟨0 + 1, by omega, by go_num, by rw [← hst.out]; exact hF4, B2.below hb4 (by omega), (by (have q_hb4 := Below.size hb4; (try simp at q_hb4); have q_b2 := Below.size b2; (try simp at q_b2); repeat (first | exact Below.refl _ _ | (refine Below.trans ?_ (Below.mono hb4 (by first | omega | (simp; omega) | simp))) | (refine Below.trans ?_ (Below.mono b2 (by first | omega | (simp; omega) | simp))) | (refine Below.setCell ?_ (by first | omega | (simp; omega) | simp) _) | (refine Below.alloc ?_ (by first | omega | (simp; omega) | simp) _) | apply Below.drew | apply below_drewN)))⟩
          case measure => simp [intOf] <;> omega
        · skip
          have hst := Lib.hid (bodyA_step (e := ((f1, false, f3, f4, f5, f6), L)) (k := 1) (x := f4) (by simp [numsA, hl]))
          have hix : ∀ W : World, (Instr.index 73 (.agg #[.int .i64 f3, .int .i64 f4, .int .i64 f5, .int .i64 f6, .int .i64 (n : Int)]) (.int .i64 1)).run Try.prog W = .ok (.int .i64 f4) W := fun _ => by kernel_rfl
          have hwu : IntKind.u64.wrap (f4) = f4 := by rw [IntKind.wrap_u64]; omega
          go_wp2_with fail
          refine (put_any 2 f4 _ (by omega) (by omega) (by omega) (by omega)).mono ?_
          rintro e w2 ⟨v2, rfl, hF2, hb2⟩
          obtain ⟨A2, c2, rfl, hR2, _, _, _⟩ := hF2.rdn 2 (putL_len _ _)
          have B2 := hB.on hb2
          have hF3 := hF.below hb2
          have hz2 := hb2.size
          have hz3 := hB.lt
          have cB := B2.cell
          have b2 : Below w.heap.size w w2 := (by (have q_hb2 := Below.size hb2; (try simp at q_hb2); have q_hbel := Below.size hbel; (try simp at q_hbel); repeat (first | exact Below.refl _ _ | (refine Below.trans ?_ (Below.mono hb2 (by first | omega | (simp; omega) | simp))) | (refine Below.trans ?_ (Below.mono hbel (by first | omega | (simp; omega) | simp))) | (refine Below.setCell ?_ (by first | omega | (simp; omega) | simp) _) | (refine Below.alloc ?_ (by first | omega | (simp; omega) | simp) _) | apply Below.drew | apply below_drewN)))
          go_wp2_with (at_builtin; refine wpList_append_bytes _ rfl (.tmp 29) (.tmp 32) _ rfl (w.heap.size + 1) 5 Try.underlying30 info8 _ _ rfl hF3 _ _ _ (putL 2 f4) rfl hR2 (by rw [bodyA_len (by omega)]; omega) (by omega) ?_; intro b' w3 hF4 hg4 hb4)
          go_roundw
          case rel => exact ⟨1 + 1, by omega, by go_num, by rw [← hst.out]; exact hF4, B2.below hb4 (by omega), (by (have q_hb4 := Below.size hb4; (try simp at q_hb4); have q_b2 := Below.size b2; (try simp at q_b2); repeat (first | exact Below.refl _ _ | (refine Below.trans ?_ (Below.mono hb4 (by first | omega | (simp; omega) | simp))) | (refine Below.trans ?_ (Below.mono b2 (by first | omega | (simp; omega) | simp))) | (refine Below.setCell ?_ (by first | omega | (simp; omega) | simp) _) | (refine Below.alloc ?_ (by first | omega | (simp; omega) | simp) _) | apply Below.drew | apply below_drewN)))⟩
          case measure => simp [intOf] <;> omega
        · skip
          have hst := Lib.hid (bodyA_step (e := ((f1, false, f3, f4, f5, f6), L)) (k := 2) (x := f5) (by simp [numsA, hl]))
          have hix : ∀ W : World, (Instr.index 73 (.agg #[.int .i64 f3, .int .i64 f4, .int .i64 f5, .int .i64 f6, .int .i64 (n : Int)]) (.int .i64 2)).run Try.prog W = .ok (.int .i64 f5) W := fun _ => by kernel_rfl
          have hwu : IntKind.u64.wrap (f5) = f5 := by rw [IntKind.wrap_u64]; omega
          go_wp2_with fail
          refine (put_any 2 f5 _ (by omega) (by omega) (by omega) (by omega)).mono ?_
          rintro e w2 ⟨v2, rfl, hF2, hb2⟩
          obtain ⟨A2, c2, rfl, hR2, _, _, _⟩ := hF2.rdn 2 (putL_len _ _)
          have B2 := hB.on hb2
          have hF3 := hF.below hb2
          have hz2 := hb2.size
          have hz3 := hB.lt
          have cB := B2.cell
          have b2 : Below w.heap.size w w2 := (by (have q_hb2 := Below.size hb2; (try simp at q_hb2); have q_hbel := Below.size hbel; (try simp at q_hbel); repeat (first | exact Below.refl _ _ | (refine Below.trans ?_ (Below.mono hb2 (by first | omega | (simp; omega) | simp))) | (refine Below.trans ?_ (Below.mono hbel (by first | omega | (simp; omega) | simp))) | (refine Below.setCell ?_ (by first | omega | (simp; omega) | simp) _) | (refine Below.alloc ?_ (by first | omega | (simp; omega) | simp) _) | apply Below.drew | apply below_drewN)))
          go_wp2_with (at_builtin; refine wpList_append_bytes _ rfl (.tmp 29) (.tmp 32) _ rfl (w.heap.size + 1) 5 Try.underlying30 info8 _ _ rfl hF3 _ _ _ (putL 2 f5) rfl hR2 (by rw [bodyA_len (by omega)]; omega) (by omega) ?_; intro b' w3 hF4 hg4 hb4)
          go_roundw
          case rel => exact ⟨2 + 1, by omega, by go_num, by rw [← hst.out]; exact hF4, B2.below hb4 (by omega), (by (have q_hb4 := Below.size hb4; (try simp at q_hb4); have q_b2 := Below.size b2; (try simp at q_b2); repeat (first | exact Below.refl _ _ | (refine Below.trans ?_ (Below.mono hb4 (by first | omega | (simp; omega) | simp))) | (refine Below.trans ?_ (Below.mono b2 (by first | omega | (simp; omega) | simp))) | (refine Below.setCell ?_ (by first | omega | (simp; omega) | simp) _) | (refine Below.alloc ?_ (by first | omega | (simp; omega) | simp) _) | apply Below.drew | apply below_drewN)))⟩
          case measure => simp [intOf] <;> omega
        · skip
          have hst := Lib.hid (bodyA_step (e := ((f1, false, f3, f4, f5, f6), L)) (k := 3) (x := f6) (by simp [numsA, hl]))
          have hix : ∀ W : World, (Instr.index 73 (.agg #[.int .i64 f3, .int .i64 f4, .int .i64 f5, .int .i64 f6, .int .i64 (n : Int)]) (.int .i64 3)).run Try.prog W = .ok (.int .i64 f6) W := fun _ => by kernel_rfl
          have hwu : IntKind.u64.wrap (f6) = f6 := by rw [IntKind.wrap_u64]; omega
          go_wp2_with fail
          refine (put_any 2 f6 _ (by omega) (by omega) (by omega) (by omega)).mono ?_
          rintro e w2 ⟨v2, rfl, hF2, hb2⟩
          obtain ⟨A2, c2, rfl, hR2, _, _, _⟩ := hF2.rdn 2 (putL_len _ _)
          have B2 := hB.on hb2
          have hF3 := hF.below hb2
          have hz2 := hb2.size
          have hz3 := hB.lt
          have cB := B2.cell
          have b2 : Below w.heap.size w w2 := (by (have q_hb2 := Below.size hb2; (try simp at q_hb2); have q_hbel := Below.size hbel; (try simp at q_hbel); repeat (first | exact Below.refl _ _ | (refine Below.trans ?_ (Below.mono hb2 (by first | omega | (simp; omega) | simp))) | (refine Below.trans ?_ (Below.mono hbel (by first | omega | (simp; omega) | simp))) | (refine Below.setCell ?_ (by first | omega | (simp; omega) | simp) _) | (refine Below.alloc ?_ (by first | omega | (simp; omega) | simp) _) | apply Below.drew | apply below_drewN)))
          go_wp2_with (at_builtin; refine wpList_append_bytes _ rfl (.tmp 29) (.tmp 32) _ rfl (w.heap.size + 1) 5 Try.underlying30 info8 _ _ rfl hF3 _ _ _ (putL 2 f6) rfl hR2 (by rw [bodyA_len (by omega)]; omega) (by omega) ?_; intro b' w3 hF4 hg4 hb4)
          go_roundw
          case rel => exact ⟨3 + 1, by omega, by go_num, by rw [← hst.out]; exact hF4, B2.below hb4 (by omega), (by (have q_hb4 := Below.size hb4; (try simp at q_hb4); have q_b2 := Below.size b2; (try simp at q_b2); repeat (first | exact Below.refl _ _ | (refine Below.trans ?_ (Below.mono hb4 (by first | omega | (simp; omega) | simp))) | (refine Below.trans ?_ (Below.mono b2 (by first | omega | (simp; omega) | simp))) | (refine Below.setCell ?_ (by first | omega | (simp; omega) | simp) _) | (refine Below.alloc ?_ (by first | omega | (simp; omega) | simp) _) | apply Below.drew | apply below_drewN)))⟩
          case measure => simp [intOf] <;> omega
        · skip
          have hst := Lib.hid (bodyA_step (e := ((f1, false, f3, f4, f5, f6), L)) (k := 4) (x := (n : Int)) (by simp [numsA, hl]))
          have hix : ∀ W : World, (Instr.index 73 (.agg #[.int .i64 f3, .int .i64 f4, .int .i64 f5, .int .i64 f6, .int .i64 (n : Int)]) (.int .i64 4)).run Try.prog W = .ok (.int .i64 (n : Int)) W := fun _ => by kernel_rfl
          have hwu : IntKind.u64.wrap ((n : Int)) = (n : Int) := by rw [IntKind.wrap_u64]; omega
          go_wp2_with fail
          refine (put_any 2 (n : Int) _ (by omega) (by omega) (by omega) (by omega)).mono ?_
          rintro e w2 ⟨v2, rfl, hF2, hb2⟩
          obtain ⟨A2, c2, rfl, hR2, _, _, _⟩ := hF2.rdn 2 (putL_len _ _)
          have B2 := hB.on hb2
          have hF3 := hF.below hb2
          have hz2 := hb2.size
          have hz3 := hB.lt
          have cB := B2.cell
          have b2 : Below w.heap.size w w2 := (by (have q_hb2 := Below.size hb2; (try simp at q_hb2); have q_hbel := Below.size hbel; (try simp at q_hbel); repeat (first | exact Below.refl _ _ | (refine Below.trans ?_ (Below.mono hb2 (by first | omega | (simp; omega) | simp))) | (refine Below.trans ?_ (Below.mono hbel (by first | omega | (simp; omega) | simp))) | (refine Below.setCell ?_ (by first | omega | (simp; omega) | simp) _) | (refine Below.alloc ?_ (by first | omega | (simp; omega) | simp) _) | apply Below.drew | apply below_drewN)))
          go_wp2_with (at_builtin; refine wpList_append_bytes _ rfl (.tmp 29) (.tmp 32) _ rfl (w.heap.size + 1) 5 Try.underlying30 info8 _ _ rfl hF3 _ _ _ (putL 2 (n : Int)) rfl hR2 (by rw [bodyA_len (by omega)]; omega) (by omega) ?_; intro b' w3 hF4 hg4 hb4)
          go_roundw
          case rel => exact ⟨4 + 1, by omega, by go_num, by rw [← hst.out]; exact hF4, B2.below hb4 (by omega), (by (have q_hb4 := Below.size hb4; (try simp at q_hb4); have q_b2 := Below.size b2; (try simp at q_b2); repeat (first | exact Below.refl _ _ | (refine Below.trans ?_ (Below.mono hb4 (by first | omega | (simp; omega) | simp))) | (refine Below.trans ?_ (Below.mono b2 (by first | omega | (simp; omega) | simp))) | (refine Below.setCell ?_ (by first | omega | (simp; omega) | simp) _) | (refine Below.alloc ?_ (by first | omega | (simp; omega) | simp) _) | apply Below.drew | apply below_drewN)))⟩
          case measure => simp [intOf] <;> omega
      · obtain rfl : k = 5 := by omega
        have hR3 := ha.on hbel (Nat.le_refl _)
        clear cB0
        have cB := hB.cell
        go_wp2_with (at_builtin; refine wpList_append_bytes _ rfl (.tmp 35) (.tmp 37) _ rfl (w.heap.size + 1) 5 Try.underlying30 info8 _ _ rfl hF _ _ _ L rfl hR3 (by rw [bodyA_len (by omega)]; omega) (by have := hB.lt; omega) ?_; intro b' w3 hF4 hg4 hb4)
        go_ret
        exact ⟨_, rfl, by rw [hb5.out]; exact hF4.from_ (by omega), (by (have q_hb4 := Below.size hb4; (try simp at q_hb4); have q_hbel := Below.size hbel; (try simp at q_hbel); repeat (first | exact Below.refl _ _ | (refine Below.trans ?_ (Below.mono hb4 (by first | omega | (simp; omega) | simp))) | (refine Below.trans ?_ (Below.mono hbel (by first | omega | (simp; omega) | simp))) | (refine Below.setCell ?_ (by first | omega | (simp; omega) | simp) _) | (refine Below.alloc ?_ (by first | omega | (simp; omega) | simp) _) | apply Below.drew | apply below_drewN)))⟩
  | true =>
    have a0 : headA ((f1, true, f3, f4, f5, f6), L) = [byteI f1 0, 1] := rfl
    have hb0 := Lib.hid (show bodyA ((f1, true, f3, f4, f5, f6), L) 0 = [byteI f1 0, 1] from by simp [bodyA, a0])
    have hb5 := Lib.hid (show encA ((f1, true, f3, f4, f5, f6), L) = bodyA ((f1, true, f3, f4, f5, f6), L) 5 ++ L from rfl)
    clear a0
    go_enter Try.func32, Try.ntmps32
    go_wp2_with fail
    go_loopw [4, 26] (fun v i wr => ∃ k : Nat, k ≤ 5 ∧ i = .int .i64 k ∧ Fresh 5 (w.heap.size + 1) wr v (bodyA ((f1, true, f3, f4, f5, f6), L) k) ∧ Blk wr w.heap.size 34 #[.int .i64 f1, .bool true, .int .i64 f3, .int .i64 f4, .int .i64 f5, .int .i64 f6, .slice A n c] ∧ Below w.heap.size w wr) (fun _ i _ => 5 - (intOf i).toNat)
    case atStart =>
      refine ⟨0, by omega, rfl, ?_, (Blk.new _ _ _).alloc _, (by (repeat (first | exact Below.refl _ _ | (refine Below.setCell ?_ (by first | omega | (simp; omega) | simp) _) | (refine Below.alloc ?_ (by first | omega | (simp; omega) | simp) _) | apply Below.drew | apply below_drewN)))⟩
      rw [hb0.out]
      have B9 : Blk ((w.alloc (.cells #[.int .i64 f1, .bool true, .int .i64 f3, .int .i64 f4, .int .i64 f5, .int .i64 f6, .slice A n c] 34)).alloc (.cells #[.int .u8 f1, .int .u8 1] 5)) (w.heap.size + 1) 5 #[.int .u8 f1, .int .u8 1] := by simpa using Blk.new (w.alloc (.cells #[.int .i64 f1, .bool true, .int .i64 f3, .int .i64 f4, .int .i64 f5, .int .i64 f6, .slice A n c] 34)) 5 #[.int .u8 f1, .int .u8 1]
      exact Fresh.of_blk B9 (by omega) (by unfold maxLen; omega) rfl (by simp [bv, hk8])
    case round =>
      obtain ⟨k, hk, rfl, hF, hB, hbel⟩ := hrel
      have hbz := hbel.size
      have cB0 := hB.cell
      by_cases hlt : k < 5
      · have hkk : k = 0 ∨ k = 1 ∨ k = 2 ∨ k = 3 ∨ k = 4 := by omega
        rcases hkk with rfl | rfl | rfl | rfl | rfl
        · skip
          have hst := Lib.hid (bodyA_step (e := ((f1, true, f3, f4, f5, f6), L)) (k := 0) (x := f3) (by simp [numsA, hl]))
          have hix : ∀ W : World, (Instr.index 73 (.agg #[.int .i64 f3, .int .i64 f4, .int .i64 f5, .int .i64 f6, .int .i64 (n : Int)]) (.int .i64 0)).run Try.prog W = .ok (.int .i64 f3) W := fun _ => by kernel_rfl
          have hwu : IntKind.u64.wrap (f3) = f3 := by rw [IntKind.wrap_u64]; omega
          go_wp2_with fail
          refine (put_any 2 f3 _ (by omega) (by omega) (by omega) (by omega)).mono ?_
          rintro e w2 ⟨v2, rfl, hF2, hb2⟩
          obtain ⟨A2, c2, rfl, hR2, _, _, _⟩ := hF2.rdn 2 (putL_len _ _)
          have B2 := hB.on hb2
          have hF3 := hF.below hb2
          have hz2 := hb2.size
          have hz3 := hB.lt
          have cB := B2.cell
          have b2 : Below w.heap.size w w2 := (by (have q_hb2 := Below.size hb2; (try simp at q_hb2); have q_hbel := Below.size hbel; (try simp at q_hbel); repeat (first | exact Below.refl _ _ | (refine Below.trans ?_ (Below.mono hb2 (by first | omega | (simp; omega) | simp))) | (refine Below.trans ?_ (Below.mono hbel (by first | omega | (simp; omega) | simp))) | (refine Below.setCell ?_ (by first | omega | (simp; omega) | simp) _) | (refine Below.alloc ?_ (by first | omega | (simp; omega) | simp) _) | apply Below.drew | apply below_drewN)))
          go_wp2_with (at_builtin; refine wpList_append_bytes _ rfl (.tmp 29) (.tmp 32) _ rfl (w.heap.size + 1) 5 Try.underlying30 info8 _ _ rfl hF3 _ _ _ (putL 2 f3) rfl hR2 (by rw [bodyA_len (by omega)]; omega) (by omega) ?_; intro b' w3 hF4 hg4 hb4)
          go_roundw
          case rel => exact ⟨0 + 1, by omega, by go_num, by rw [← hst.out]; exact hF4, B2.below hb4 (by omega), (by (have q_hb4 := Below.size hb4; (try simp at q_hb4); have q_b2 := Below.size b2; (try simp at q_b2); repeat (first | exact Below.refl _ _ | (refine Below.trans ?_ (Below.mono hb4 (by first | omega | (simp; omega) | simp))) | (refine Below.trans ?_ (Below.mono b2 (by first | omega | (simp; omega) | simp))) | (refine Below.setCell ?_ (by first | omega | (simp; omega) | simp) _) | (refine Below.alloc ?_ (by first | omega | (simp; omega) | simp) _) | apply Below.drew | apply below_drewN)))⟩
          case measure => simp [intOf] <;> omega
        · skip
          have hst := Lib.hid (bodyA_step (e := ((f1, true, f3, f4, f5, f6), L)) (k := 1) (x := f4) (by simp [numsA, hl]))
          have hix : ∀ W : World, (Instr.index 73 (.agg #[.int .i64 f3, .int .i64 f4, .int .i64 f5, .int .i64 f6, .int .i64 (n : Int)]) (.int .i64 1)).run Try.prog W = .ok (.int .i64 f4) W := fun _ => by kernel_rfl
          have hwu : IntKind.u64.wrap (f4) = f4 := by rw [IntKind.wrap_u64]; omega
          go_wp2_with fail
          refine (put_any 2 f4 _ (by omega) (by omega) (by omega) (by omega)).mono ?_
          rintro e w2 ⟨v2, rfl, hF2, hb2⟩
          obtain ⟨A2, c2, rfl, hR2, _, _, _⟩ := hF2.rdn 2 (putL_len _ _)
          have B2 := hB.on hb2
          have hF3 := hF.below hb2
          have hz2 := hb2.size
          have hz3 := hB.lt
          have cB := B2.cell
          have b2 : Below w.heap.size w w2 := (by (have q_hb2 := Below.size hb2; (try simp at q_hb2); have q_hbel := Below.size hbel; (try simp at q_hbel); repeat (first | exact Below.refl _ _ | (refine Below.trans ?_ (Below.mono hb2 (by first | omega | (simp; omega) | simp))) | (refine Below.trans ?_ (Below.mono hbel (by first | omega | (simp; omega) | simp))) | (refine Below.setCell ?_ (by first | omega | (simp; omega) | simp) _) | (refine Below.alloc ?_ (by first | omega | (simp; omega) | simp) _) | apply Below.drew | apply below_drewN)))
          go_wp2_with (at_builtin; refine wpList_append_bytes _ rfl (.tmp 29) (.tmp 32) _ rfl (w.heap.size + 1) 5 Try.underlying30 info8 _ _ rfl hF3 _ _ _ (putL 2 f4) rfl hR2 (by rw [bodyA_len (by omega)]; omega) (by omega) ?_; intro b' w3 hF4 hg4 hb4)
          go_roundw
          case rel => exact ⟨1 + 1, by omega, by go_num, by rw [← hst.out]; exact hF4, B2.below hb4 (by omega), (by (have q_hb4 := Below.size hb4; (try simp at q_hb4); have q_b2 := Below.size b2; (try simp at q_b2); repeat (first | exact Below.refl _ _ | (refine Below.trans ?_ (Below.mono hb4 (by first | omega | (simp; omega) | simp))) | (refine Below.trans ?_ (Below.mono b2 (by first | omega | (simp; omega) | simp))) | (refine Below.setCell ?_ (by first | omega | (simp; omega) | simp) _) | (refine Below.alloc ?_ (by first | omega | (simp; omega) | simp) _) | apply Below.drew | apply below_drewN)))⟩
          case measure => simp [intOf] <;> omega
        · skip
          have hst := Lib.hid (bodyA_step (e := ((f1, true, f3, f4, f5, f6), L)) (k := 2) (x := f5) (by simp [numsA, hl]))
          have hix : ∀ W : World, (Instr.index 73 (.agg #[.int .i64 f3, .int .i64 f4, .int .i64 f5, .int .i64 f6, .int .i64 (n : Int)]) (.int .i64 2)).run Try.prog W = .ok (.int .i64 f5) W := fun _ => by kernel_rfl
          have hwu : IntKind.u64.wrap (f5) = f5 := by rw [IntKind.wrap_u64]; omega
          go_wp2_with fail
          refine (put_any 2 f5 _ (by omega) (by omega) (by omega) (by omega)).mono ?_
          rintro e w2 ⟨v2, rfl, hF2, hb2⟩
          obtain ⟨A2, c2, rfl, hR2, _, _, _⟩ := hF2.rdn 2 (putL_len _ _)
          have B2 := hB.on hb2
          have hF3 := hF.below hb2
          have hz2 := hb2.size
          have hz3 := hB.lt
          have cB := B2.cell
          have b2 : Below w.heap.size w w2 := (by (have q_hb2 := Below.size hb2; (try simp at q_hb2); have q_hbel := Below.size hbel; (try simp at q_hbel); repeat (first | exact Below.refl _ _ | (refine Below.trans ?_ (Below.mono hb2 (by first | omega | (simp; omega) | simp))) | (refine Below.trans ?_ (Below.mono hbel (by first | omega | (simp; omega) | simp))) | (refine Below.setCell ?_ (by first | omega | (simp; omega) | simp) _) | (refine Below.alloc ?_ (by first | omega | (simp; omega) | simp) _) | apply Below.drew | apply below_drewN)))
          go_wp2_with (at_builtin; refine wpList_append_bytes _ rfl (.tmp 29) (.tmp 32) _ rfl (w.heap.size + 1) 5 Try.underlying30 info8 _ _ rfl hF3 _ _ _ (putL 2 f5) rfl hR2 (by rw [bodyA_len (by omega)]; omega) (by omega) ?_; intro b' w3 hF4 hg4 hb4)
          go_roundw
          case rel => exact ⟨2 + 1, by omega, by go_num, by rw [← hst.out]; exact hF4, B2.below hb4 (by omega), (by (have q_hb4 := Below.size hb4; (try simp at q_hb4); have q_b2 := Below.size b2; (try simp at q_b2); repeat (first | exact Below.refl _ _ | (refine Below.trans ?_ (Below.mono hb4 (by first | omega | (simp; omega) | simp))) | (refine Below.trans ?_ (Below.mono b2 (by first | omega | (simp; omega) | simp))) | (refine Below.setCell ?_ (by first | omega | (simp; omega) | simp) _) | (refine Below.alloc ?_ (by first | omega | (simp; omega) | simp) _) | apply Below.drew | apply below_drewN)))⟩
          case measure => simp [intOf] <;> omega
        · skip
          have hst := Lib.hid (bodyA_step (e := ((f1, true, f3, f4, f5, f6), L)) (k := 3) (x := f6) (by simp [numsA, hl]))
          have hix : ∀ W : World, (Instr.index 73 (.agg #[.int .i64 f3, .int .i64 f4, .int .i64 f5, .int .i64 f6, .int .i64 (n : Int)]) (.int .i64 3)).run Try.prog W = .ok (.int .i64 f6) W := fun _ => by kernel_rfl
          have hwu : IntKind.u64.wrap (f6) = f6 := by rw [IntKind.wrap_u64]; omega
          go_wp2_with fail
          refine (put_any 2 f6 _ (by omega) (by omega) (by omega) (by omega)).mono ?_
          rintro e w2 ⟨v2, rfl, hF2, hb2⟩
          obtain ⟨A2, c2, rfl, hR2, _, _, _⟩ := hF2.rdn 2 (putL_len _ _)
          have B2 := hB.on hb2
          have hF3 := hF.below hb2
          have hz2 := hb2.size
          have hz3 := hB.lt
          have cB := B2.cell
          have b2 : Below w.heap.size w w2 := (by (have q_hb2 := Below.size hb2; (try simp at q_hb2); have q_hbel := Below.size hbel; (try simp at q_hbel); repeat (first | exact Below.refl _ _ | (refine Below.trans ?_ (Below.mono hb2 (by first | omega | (simp; omega) | simp))) | (refine Below.trans ?_ (Below.mono hbel (by first | omega | (simp; omega) | simp))) | (refine Below.setCell ?_ (by first | omega | (simp; omega) | simp) _) | (refine Below.alloc ?_ (by first | omega | (simp; omega) | simp) _) | apply Below.drew | apply below_drewN)))
          go_wp2_with (at_builtin; refine wpList_append_bytes _ rfl (.tmp 29) (.tmp 32) _ rfl (w.heap.size + 1) 5 Try.underlying30 info8 _ _ rfl hF3 _ _ _ (putL 2 f6) rfl hR2 (by rw [bodyA_len (by omega)]; omega) (by omega) ?_; intro b' w3 hF4 hg4 hb4)
          go_roundw
          case rel => exact ⟨3 + 1, by omega, by go_num, by rw [← hst.out]; exact hF4, B2.below hb4 (by omega), (by (have q_hb4 := Below.size hb4; (try simp at q_hb4); have q_b2 := Below.size b2; (try simp at q_b2); repeat (first | exact Below.refl _ _ | (refine Below.trans ?_ (Below.mono hb4 (by first | omega | (simp; omega) | simp))) | (refine Below.trans ?_ (Below.mono b2 (by first | omega | (simp; omega) | simp))) | (refine Below.setCell ?_ (by first | omega | (simp; omega) | simp) _) | (refine Below.alloc ?_ (by first | omega | (simp; omega) | simp) _) | apply Below.drew | apply below_drewN)))⟩
          case measure => simp [intOf] <;> omega
        · skip
          have hst := Lib.hid (bodyA_step (e := ((f1, true, f3, f4, f5, f6), L)) (k := 4) (x := (n : Int)) (by simp [numsA, hl]))
          have hix : ∀ W : World, (Instr.index 73 (.agg #[.int .i64 f3, .int .i64 f4, .int .i64 f5, .int .i64 f6, .int .i64 (n : Int)]) (.int .i64 4)).run Try.prog W = .ok (.int .i64 (n : Int)) W := fun _ => by kernel_rfl
          have hwu : IntKind.u64.wrap ((n : Int)) = (n : Int) := by rw [IntKind.wrap_u64]; omega
          go_wp2_with fail
          refine (put_any 2 (n : Int) _ (by omega) (by omega) (by omega) (by omega)).mono ?_
          rintro e w2 ⟨v2, rfl, hF2, hb2⟩
          obtain ⟨A2, c2, rfl, hR2, _, _, _⟩ := hF2.rdn 2 (putL_len _ _)
          have B2 := hB.on hb2
          have hF3 := hF.below hb2
          have hz2 := hb2.size
          have hz3 := hB.lt
          have cB := B2.cell
          have b2 : Below w.heap.size w w2 := (by (have q_hb2 := Below.size hb2; (try simp at q_hb2); have q_hbel := Below.size hbel; (try simp at q_hbel); repeat (first | exact Below.refl _ _ | (refine Below.trans ?_ (Below.mono hb2 (by first | omega | (simp; omega) | simp))) | (refine Below.trans ?_ (Below.mono hbel (by first | omega | (simp; omega) | simp))) | (refine Below.setCell ?_ (by first | omega | (simp; omega) | simp) _) | (refine Below.alloc ?_ (by first | omega | (simp; omega) | simp) _) | apply Below.drew | apply below_drewN)))
          go_wp2_with (at_builtin; refine wpList_append_bytes _ rfl (.tmp 29) (.tmp 32) _ rfl (w.heap.size + 1) 5 Try.underlying30 info8 _ _ rfl hF3 _ _ _ (putL 2 (n : Int)) rfl hR2 (by rw [bodyA_len (by omega)]; omega) (by omega) ?_; intro b' w3 hF4 hg4 hb4)
          go_roundw
          case rel => exact ⟨4 + 1, by omega, by go_num, by rw [← hst.out]; exact hF4, B2.below hb4 (by omega), (by (have q_hb4 := Below.size hb4; (try simp at q_hb4); have q_b2 := Below.size b2; (try simp at q_b2); repeat (first | exact Below.refl _ _ | (refine Below.trans ?_ (Below.mono hb4 (by first | omega | (simp; omega) | simp))) | (refine Below.trans ?_ (Below.mono b2 (by first | omega | (simp; omega) | simp))) | (refine Below.setCell ?_ (by first | omega | (simp; omega) | simp) _) | (refine Below.alloc ?_ (by first | omega | (simp; omega) | simp) _) | apply Below.drew | apply below_drewN)))⟩
          case measure => simp [intOf] <;> omega
      · obtain rfl : k = 5 := by omega
        have hR3 := ha.on hbel (Nat.le_refl _)
        clear cB0
        have cB := hB.cell
        go_wp2_with (at_builtin; refine wpList_append_bytes _ rfl (.tmp 35) (.tmp 37) _ rfl (w.heap.size + 1) 5 Try.underlying30 info8 _ _ rfl hF _ _ _ L rfl hR3 (by rw [bodyA_len (by omega)]; omega) (by have := hB.lt; omega) ?_; intro b' w3 hF4 hg4 hb4)
        go_ret
        exact ⟨_, rfl, by rw [hb5.out]; exact hF4.from_ (by omega), (by (have q_hb4 := Below.size hb4; (try simp at q_hb4); have q_hbel := Below.size hbel; (try simp at q_hbel); repeat (first | exact Below.refl _ _ | (refine Below.trans ?_ (Below.mono hb4 (by first | omega | (simp; omega) | simp))) | (refine Below.trans ?_ (Below.mono hbel (by first | omega | (simp; omega) | simp))) | (refine Below.setCell ?_ (by first | omega | (simp; omega) | simp) _) | (refine Below.alloc ?_ (by first | omega | (simp; omega) | simp) _) | apply Below.drew | apply below_drewN)))⟩
end Go.Proofs.Ythlgagjnlnakkaa
