/- Heads: the bytes, by the program and by the document. -/
import Derived.Test.YtdnjlhcmihmgdaaRoots4
import Derived.Test.YtdnjlhcmihmgdaaWord4
import Derived.Test.YtdnjlhcmihmgdaaPad
namespace Go.Proofs.Ytdnjlhcmihmgdaa
open Go.RowKit

def bodyR (n : Int) (f : Nat → Int) (k : Nat) : List UInt8 := putL 8 n ++ ((List.range k).map fun i => putL 8 (f i)).flatten
theorem bodyR_zero (n : Int) (f : Nat → Int) : bodyR n f 0 = putL 8 n := by simp [bodyR]
theorem bodyR_step (n : Int) (f : Nat → Int) (k : Nat) : bodyR n f k ++ putL 8 (f k) = bodyR n f (k + 1) := by simp [bodyR, List.range_succ]
theorem bodyR_len (n : Int) (f : Nat → Int) : ∀ k, (bodyR n f k).length = 8 + 8 * k
  | 0 => by rw [bodyR_zero, putL_len]
  | k + 1 => by rw [← bodyR_step, List.length_append, bodyR_len n f k, putL_len]; omega
def encR (n : Int) (f : Nat → Int) : List UInt8 := padL 256 (bodyR n f 16)
theorem encR_len (n : Int) (f : Nat → Int) : (encR n f).length = 256 := padL_len _ _
/-- Is it the head of nothing? -/
def noH (n : Int) (f : Nat → Int) : Bool := eqH n f 0 (fun _ => 0)
def sencR (n : Int) (f : Nat → Int) : List UInt8 := if noH n f = true then padL 256 [] else if rtB n f = true then encR n f else []
def serrR (n : Int) (f : Nat → Int) : Int := if noH n f = true then 0 else if rtB n f = true then 0 else 1
/-- A call's end: bytes of its own and an error's number. -/
def GivesRE (w : World) (l : List UInt8) (x : Int) (e : Ending) (w' : World) : Prop := ∃ v, e = .returned (.tuple #[v, .int .i64 x]) ∧ Fresh 5 w.heap.size w' v l ∧ Below w.heap.size w w'

set_option maxRecDepth 100000 in
set_option maxHeartbeats 1000000 in
theorem rbytesR_any (n : Int) (f : Nat → Int) (w : World) (n0 : 0 ≤ n) (n1 : n ≤ 18446744073709551615) (hf : ∀ i, i < 16 → 0 ≤ f i ∧ f i ≤ 18446744073709551615) :
    Calls Try.prog 45 #[.agg (hd n f)] w (Gives 5 w (encR n f)) := by
  have H0 := Blk.new w 66 (hd n f)
  have hb0 : Below w.heap.size w (w.alloc (.cells (hd n f) 66)) := (by (repeat (first | exact Below.refl _ _ | (refine Below.setCell ?_ (by first | omega | (simp; omega) | simp) _) | (refine Below.alloc ?_ (by first | omega | (simp; omega) | simp) _) | apply Below.drew | apply below_drewN)))
  have c0 : (w.alloc (.cells (hd n f) 66)).cell? ⟨w.heap.size, 0, none⟩ = some (.int .u64 n) := H0.cell 0
  go_enter Try.func45, Try.ntmps45
  go_wp2_with fail
  refine (rput_any 8 n _ (by omega) n0 n1).mono ?_
  rintro e w1 ⟨v1, rfl, hF1, hb1⟩
  have H1 := H0.on hb1
  have hbw1 : Below w.heap.size w w1 := (by (have q_hb1 := Below.size hb1; (try simp at q_hb1); have q_hb0 := Below.size hb0; (try simp at q_hb0); repeat (first | exact Below.refl _ _ | (refine Below.trans ?_ (Below.mono hb1 (by first | omega | (simp; omega) | simp))) | (refine Below.trans ?_ (Below.mono hb0 (by first | omega | (simp; omega) | simp))) | (refine Below.setCell ?_ (by first | omega | (simp; omega) | simp) _) | (refine Below.alloc ?_ (by first | omega | (simp; omega) | simp) _) | apply Below.drew | apply below_drewN)))
  have hF0 := hF1.from_ (B' := w.heap.size) (by simp)
  clear H0 hb0 c0 hF1 hb1
  go_wp2_with (refine wpList_load_blk rfl 64 (.tmp 9) rfl w.heap.size 1 66 (hd n f) (ar f) _ rfl H1 (hd_ar n f) Try.underlying64 rfl (by kernel_rfl) ?_)
  clear H1
  go_loopw [3, 11] (fun v i wr => ∃ k : Nat, k ≤ 16 ∧ i = .int .i64 k ∧ Fresh 5 w.heap.size wr v (bodyR n f k) ∧ Below w.heap.size w wr) (fun _ i _ => 16 - (intOf i).toNat)
  case atStart => exact ⟨0, by omega, rfl, by rw [bodyR_zero]; exact hF0, hbw1⟩
  case round =>
    clear hF0 hbw1
    obtain ⟨k, hk, rfl, hF, hbel⟩ := hrel
    have hbz := hbel.size
    by_cases hlt : k < 16
    · have q1 : (k : Int) < 16 := by omega
      have hix := ix_doc f hlt
      obtain ⟨h0, h1⟩ := hf k hlt
      have hlen := bodyR_len n f k
      have hst := Lib.hid (bodyR_step n f k)
      obtain ⟨x, hx⟩ : ∃ x, f k = x := ⟨_, rfl⟩
      obtain ⟨R0, hR0⟩ : ∃ R0, R0 = bodyR n f k := ⟨_, rfl⟩
      rw [hx] at hix h0 h1 hst
      rw [← hR0] at hlen hst hF
      have hwx : IntKind.u64.wrap x = x := by rw [IntKind.wrap_u64]; omega
      clear hx hR0
      go_wp2_with fail
      refine (rput_any 8 x _ (by omega) h0 h1).mono ?_
      rintro e w2 ⟨v2, rfl, hF2, hb2⟩
      obtain ⟨A2, c2, rfl, hR2, _, _, _⟩ := hF2.rdn 8 (putL_len 8 x)
      have hF3 := hF.below hb2
      have b2 : Below w.heap.size w w2 := (by (have q_hb2 := Below.size hb2; (try simp at q_hb2); have q_hbel := Below.size hbel; (try simp at q_hbel); repeat (first | exact Below.refl _ _ | (refine Below.trans ?_ (Below.mono hb2 (by first | omega | (simp; omega) | simp))) | (refine Below.trans ?_ (Below.mono hbel (by first | omega | (simp; omega) | simp))) | (refine Below.setCell ?_ (by first | omega | (simp; omega) | simp) _) | (refine Below.alloc ?_ (by first | omega | (simp; omega) | simp) _) | apply Below.drew | apply below_drewN)))
      have hz2 := b2.size
      go_wp2_with (at_builtin; refine wpList_append_bytes _ rfl (.tmp 14) (.tmp 16) _ rfl w.heap.size 5 Try.underlying39 info8 _ R0 rfl hF3 A2 8 c2 (putL 8 x) rfl hR2 (by omega) hz2 ?_; intro b' w9 hF9 hg9 hb9)
      go_roundw
      case rel => exact ⟨k + 1, by omega, by go_num, by rw [← hst.out]; exact hF9, (by (have q_hb9 := Below.size hb9; (try simp at q_hb9); have q_b2 := Below.size b2; (try simp at q_b2); repeat (first | exact Below.refl _ _ | (refine Below.trans ?_ (Below.mono hb9 (by first | omega | (simp; omega) | simp))) | (refine Below.trans ?_ (Below.mono b2 (by first | omega | (simp; omega) | simp))) | (refine Below.setCell ?_ (by first | omega | (simp; omega) | simp) _) | (refine Below.alloc ?_ (by first | omega | (simp; omega) | simp) _) | apply Below.drew | apply below_drewN)))⟩
      case measure => simp [intOf] <;> omega
    · obtain rfl : k = 16 := by omega
      have hE := Lib.hid (show encR n f = padL 256 (bodyR n f 16) from rfl)
      obtain ⟨A2, c2, rfl, hR2, _, _, _⟩ := hF.rdn 136 (bodyR_len n f 16)
      clear hf
      go_wp2_with fail
      refine (rpad_any A2 136 c2 (bodyR n f 16) 256 _ hR2 (by omega) (by omega)).mono ?_
      rintro e w2 ⟨v2, rfl, hF2, hb2⟩
      go_wp2_with fail
      (go_ret; exact ⟨_, rfl, by rw [hE.out]; exact hF2.from_ hbz, (by (have q_hb2 := Below.size hb2; (try simp at q_hb2); have q_hbel := Below.size hbel; (try simp at q_hbel); repeat (first | exact Below.refl _ _ | (refine Below.trans ?_ (Below.mono hb2 (by first | omega | (simp; omega) | simp))) | (refine Below.trans ?_ (Below.mono hbel (by first | omega | (simp; omega) | simp))) | (refine Below.setCell ?_ (by first | omega | (simp; omega) | simp) _) | (refine Below.alloc ?_ (by first | omega | (simp; omega) | simp) _) | apply Below.drew | apply below_drewN)))⟩)

set_option maxRecDepth 100000 in
set_option maxHeartbeats 1000000 in
theorem sbytesR_any (n : Int) (f : Nat → Int) (w : World) (n0 : 0 ≤ n) (n1 : n ≤ 18446744073709551615) (hf : ∀ i, i < 16 → 0 ≤ f i ∧ f i ≤ 18446744073709551615) :
    Calls Try.prog 41 #[.agg (hd n f)] w (GivesRE w (sencR n f) (serrR n f)) := by
  have H0 := Blk.new w 70 (hd n f)
  have hb0 : Below w.heap.size w (w.alloc (.cells (hd n f) 70)) := (by (repeat (first | exact Below.refl _ _ | (refine Below.setCell ?_ (by first | omega | (simp; omega) | simp) _) | (refine Below.alloc ?_ (by first | omega | (simp; omega) | simp) _) | apply Below.drew | apply below_drewN)))
  have c0 : (w.alloc (.cells (hd n f) 70)).cell? ⟨w.heap.size, 0, none⟩ = some (.int .u64 n) := H0.cell 0
  have heq : ∀ w : World, (binOp .eql 70 (.agg (hd n f)) (.agg (hz 0))).run Try.prog w = .ok (.bool (noH n f)) w := eq_own n f 0 (fun _ => 0)
  obtain ⟨X, hX⟩ : ∃ X, X = noH n f := ⟨_, rfl⟩
  rw [← hX] at heq
  cases X with
  | true =>
    have hr1 := Lib.hid (show sencR n f = padL 256 [] by unfold sencR; rw [← hX]; rfl)
    have hr2 := Lib.hid (show serrR n f = 0 by unfold serrR; rw [← hX]; rfl)
    clear hX
    go_enter Try.func41, Try.ntmps41
    go_wp2_with (refine wpList_load_blk rfl 70 (.tmp 1) rfl w.heap.size 0 70 (hd n f) (hd n f) _ rfl H0 (hd_self n f) Try.underlying70 rfl (by kernel_rfl) ?_)
    refine (pad_any none 0 0 [] 256 _ Rd.nil (by omega) (by omega)).mono ?_
    rintro e w1 ⟨v1, rfl, hF1, hb1⟩
    go_wp2_with fail
    go_ret2
    exact ⟨_, by rw [hr2.out]; rfl, by rw [hr1.out]; exact hF1.from_ (by simp), (by (have q_hb1 := Below.size hb1; (try simp at q_hb1); have q_hb0 := Below.size hb0; (try simp at q_hb0); repeat (first | exact Below.refl _ _ | (refine Below.trans ?_ (Below.mono hb1 (by first | omega | (simp; omega) | simp))) | (refine Below.trans ?_ (Below.mono hb0 (by first | omega | (simp; omega) | simp))) | (refine Below.setCell ?_ (by first | omega | (simp; omega) | simp) _) | (refine Below.alloc ?_ (by first | omega | (simp; omega) | simp) _) | apply Below.drew | apply below_drewN)))⟩
  | false =>
    obtain ⟨Y, hY⟩ : ∃ Y, Y = rtB n f := ⟨_, rfl⟩
    have hr1 := Lib.hid (show sencR n f = if Y = true then encR n f else [] by unfold sencR; rw [← hX, ← hY]; rfl)
    have hr2 := Lib.hid (show serrR n f = if Y = true then 0 else 1 by unfold serrR; rw [← hX, ← hY]; rfl)
    clear hX
    go_enter Try.func41, Try.ntmps41
    go_wp2_with (first | (refine wpList_load_blk rfl 70 (.tmp 1) rfl w.heap.size 0 70 (hd n f) (hd n f) _ rfl H0 (hd_self n f) Try.underlying70 rfl (by kernel_rfl) ?_))
    refine (smayR_any n f _ hf).mono ?_
    rintro e w1 ⟨rfl, hb1⟩
    rw [← hY]
    have H1 := H0.on hb1
    have hb1' : Below w.heap.size w w1 := (by (have q_hb1 := Below.size hb1; (try simp at q_hb1); have q_hb0 := Below.size hb0; (try simp at q_hb0); repeat (first | exact Below.refl _ _ | (refine Below.trans ?_ (Below.mono hb1 (by first | omega | (simp; omega) | simp))) | (refine Below.trans ?_ (Below.mono hb0 (by first | omega | (simp; omega) | simp))) | (refine Below.setCell ?_ (by first | omega | (simp; omega) | simp) _) | (refine Below.alloc ?_ (by first | omega | (simp; omega) | simp) _) | apply Below.drew | apply below_drewN)))
    have c1 : w1.cell? ⟨w.heap.size, 0, none⟩ = some (.int .u64 n) := H1.cell 0
    have hz1 := hb1'.size
    clear H0 hb0 c0 hb1 heq hY
    cases Y with
    | false =>
      go_wp2_with fail
      go_ret2
      exact ⟨_, by rw [hr2.out]; rfl, by rw [hr1.out]; exact Fresh.nil _ _ _, hb1'⟩
    | true =>
      go_wp2_with fail
      refine (put_any 8 n _ (by omega) (by omega) n0 n1).mono ?_
      rintro e w3 ⟨v3, rfl, hF3, hb3⟩
      have H3 := H1.on hb3
      have hbw1 : Below w.heap.size w w3 := (by (have q_hb3 := Below.size hb3; (try simp at q_hb3); have q_hb1' := Below.size hb1'; (try simp at q_hb1'); repeat (first | exact Below.refl _ _ | (refine Below.trans ?_ (Below.mono hb3 (by first | omega | (simp; omega) | simp))) | (refine Below.trans ?_ (Below.mono hb1' (by first | omega | (simp; omega) | simp))) | (refine Below.setCell ?_ (by first | omega | (simp; omega) | simp) _) | (refine Below.alloc ?_ (by first | omega | (simp; omega) | simp) _) | apply Below.drew | apply below_drewN)))
      have hF0 := hF3.from_ (B' := w.heap.size) hz1
      clear H1 c1 hF3 hb3 hb1'
      go_wp2_with (refine wpList_load_blk rfl 68 (.tmp 17) rfl w.heap.size 1 70 (hd n f) (ar f) _ rfl H3 (hd_ar n f) Try.underlying68 rfl (by kernel_rfl) ?_)
      clear H3
      go_loopw [4, 19] (fun v i wr => ∃ k : Nat, k ≤ 16 ∧ i = .int .i64 k ∧ Fresh 5 w.heap.size wr v (bodyR n f k) ∧ Below w.heap.size w wr) (fun _ i _ => 16 - (intOf i).toNat)
      case atStart => exact ⟨0, by omega, rfl, by rw [bodyR_zero]; exact hF0, hbw1⟩
      case round =>
        clear hF0 hbw1
        obtain ⟨k, hk, rfl, hF, hbel⟩ := hrel
        have hbz := hbel.size
        by_cases hlt : k < 16
        · have q1 : (k : Int) < 16 := by omega
          have hix := ix_own f hlt
          obtain ⟨h0, h1⟩ := hf k hlt
          have hlen := bodyR_len n f k
          have hst := Lib.hid (bodyR_step n f k)
          obtain ⟨x, hx⟩ : ∃ x, f k = x := ⟨_, rfl⟩
          obtain ⟨R0, hR0⟩ : ∃ R0, R0 = bodyR n f k := ⟨_, rfl⟩
          rw [hx] at hix h0 h1 hst
          rw [← hR0] at hlen hst hF
          have hwx : IntKind.u64.wrap x = x := by rw [IntKind.wrap_u64]; omega
          clear hx hR0
          go_wp2_with fail
          refine (put_any 8 x _ (by omega) (by omega) h0 h1).mono ?_
          rintro e w2 ⟨v2, rfl, hF2, hb2⟩
          obtain ⟨A2, c2, rfl, hR2, _, _, _⟩ := hF2.rdn 8 (putL_len 8 x)
          have hF3 := hF.below hb2
          have b2 : Below w.heap.size w w2 := (by (have q_hb2 := Below.size hb2; (try simp at q_hb2); have q_hbel := Below.size hbel; (try simp at q_hbel); repeat (first | exact Below.refl _ _ | (refine Below.trans ?_ (Below.mono hb2 (by first | omega | (simp; omega) | simp))) | (refine Below.trans ?_ (Below.mono hbel (by first | omega | (simp; omega) | simp))) | (refine Below.setCell ?_ (by first | omega | (simp; omega) | simp) _) | (refine Below.alloc ?_ (by first | omega | (simp; omega) | simp) _) | apply Below.drew | apply below_drewN)))
          have hz2 := b2.size
          go_wp2_with (at_builtin; refine wpList_append_bytes _ rfl (.tmp 22) (.tmp 24) _ rfl w.heap.size 5 Try.underlying39 info8 _ R0 rfl hF3 A2 8 c2 (putL 8 x) rfl hR2 (by omega) hz2 ?_; intro b' w9 hF9 hg9 hb9)
          go_roundw
          case rel => exact ⟨k + 1, by omega, by go_num, by rw [← hst.out]; exact hF9, (by (have q_hb9 := Below.size hb9; (try simp at q_hb9); have q_b2 := Below.size b2; (try simp at q_b2); repeat (first | exact Below.refl _ _ | (refine Below.trans ?_ (Below.mono hb9 (by first | omega | (simp; omega) | simp))) | (refine Below.trans ?_ (Below.mono b2 (by first | omega | (simp; omega) | simp))) | (refine Below.setCell ?_ (by first | omega | (simp; omega) | simp) _) | (refine Below.alloc ?_ (by first | omega | (simp; omega) | simp) _) | apply Below.drew | apply below_drewN)))⟩
          case measure => simp [intOf] <;> omega
        · obtain rfl : k = 16 := by omega
          have hE := Lib.hid (show encR n f = padL 256 (bodyR n f 16) from rfl)
          obtain ⟨A2, c2, rfl, hR2, _, _, _⟩ := hF.rdn 136 (bodyR_len n f 16)
          clear hf
          go_wp2_with fail
          refine (pad_any A2 136 c2 (bodyR n f 16) 256 _ hR2 (by omega) (by omega)).mono ?_
          rintro e w2 ⟨v2, rfl, hF2, hb2⟩
          go_wp2_with fail
          (go_ret2; exact ⟨_, by rw [hr2.out]; rfl, by rw [hr1.out]; exact hF2.from_ hbz, (by (have q_hb2 := Below.size hb2; (try simp at q_hb2); have q_hbel := Below.size hbel; (try simp at q_hbel); repeat (first | exact Below.refl _ _ | (refine Below.trans ?_ (Below.mono hb2 (by first | omega | (simp; omega) | simp))) | (refine Below.trans ?_ (Below.mono hbel (by first | omega | (simp; omega) | simp))) | (refine Below.setCell ?_ (by first | omega | (simp; omega) | simp) _) | (refine Below.alloc ?_ (by first | omega | (simp; omega) | simp) _) | apply Below.drew | apply below_drewN)))⟩)
end Go.Proofs.Ytdnjlhcmihmgdaa
