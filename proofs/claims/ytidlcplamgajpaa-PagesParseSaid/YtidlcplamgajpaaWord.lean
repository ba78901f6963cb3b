/- Contracts of the functions on words and bytes. -/
import Derived.Test.YtidlcplamgajpaaProg
import Derived.Test.YtidlcplamgajpaaBytes
namespace Go.Proofs.Ytidlcplamgajpaa
open Go.RowKit

/-- Byte number k of a number, from the lowest on. -/
def byteI (v : Int) (k : Nat) : UInt8 := UInt8.ofNat (v / 256 ^ k % 256).toNat
theorem byteI_val (v : Int) (k : Nat) : ((byteI v k).toNat : Int) = v / 256 ^ k % 256 := by
  unfold byteI
  rw [UInt8.toNat_ofNat']
  omega
theorem pow_shift (k : Int) (h0 : 0 ≤ k) : (2 : Int) ^ (8 * k).toNat = 256 ^ k.toNat := by
  obtain ⟨k, rfl⟩ := Int.eq_ofNat_of_zero_le h0
  rw [show (8 * (k : Int)).toNat = 8 * k from by omega, Int.pow_mul]
  simp

def putL (n : Nat) (v : Int) : List UInt8 := (List.range n).map (byteI v)
def highL (n : Nat) (v : Int) : List UInt8 := (List.range n).map fun k => byteI v (n - 1 - k)

set_option maxHeartbeats 400000 in
theorem up_any (n v k : Int) (w : World) (h0 : 0 ≤ k) (h1 : k ≤ 7) (_v0 : 0 ≤ v) (_v1 : v ≤ 18446744073709551615) :
    Calls Try.prog 66 #[.agg #[.int .i64 n, .int .u64 v], .int .i64 k] w fun e w' => e = .returned (.int .u8 ((byteI v k.toNat).toNat : Int)) ∧ Below w.heap.size w w' := by
  go_enter Try.func66, Try.ntmps66
  go_wp2_with fail
  go_ret
  exact ⟨ret1 (int_eq (by rw [byteI_val, ← pow_shift k h0])), (by (repeat (first | exact Below.refl _ _ | (refine Below.setCell ?_ (by first | omega | (simp; omega) | simp) _) | (refine Below.alloc ?_ (by first | omega | (simp; omega) | simp) _) | apply Below.drew | apply below_drewN)))⟩


theorem info8 : (Try.prog.info? 5).map (fun i => (i.zero, i.size, i.bytes)) = some (some (.int .u8 0), 1, 1) := by kernel_rfl
theorem putL_len (n : Nat) (v : Int) : (putL n v).length = n := by simp [putL]
theorem highL_len (n : Nat) (v : Int) : (highL n v).length = n := by simp [highL]
theorem putL_get (n : Nat) (v : Int) (k : Nat) (h : k < n) : (putL n v)[k]? = some (byteI v k) := by simp [putL, h]
theorem highL_get (n : Nat) (v : Int) (k : Nat) (h : k < n) : (highL n v)[k]? = some (byteI v (n - 1 - k)) := by simp [highL, h]

set_option maxHeartbeats 400000 in
theorem bytes_up (n : Nat) (v : Int) (w : World) (n0 : 1 ≤ n) (n1 : n ≤ 8) (v0 : 0 ≤ v) (v1 : v ≤ 18446744073709551615) :
    Calls Try.prog 65 #[.agg #[.int .i64 n, .int .u64 v], .func (Fn.func 66) #[.agg #[.int .i64 n, .int .u64 v]] #[]] w (Gives 5 w (putL n v)) := by
  have hmk := make_bytes (P := Try.prog) Try.underlying57 info8 .i64 .i64 n (by omega) (putL n v) (putL_len n v)
  go_enter Try.func65, Try.ntmps65
  go_wp2_with fail
  clear hmk
  go_loopw [20] (fun i wr => ∃ k : Nat, k ≤ n ∧ i = .int .i64 k ∧ Blk wr (w.heap.size + 1) 5 (part (putL n v) k) ∧ Below w.heap.size w wr) (fun i _ => n - (intOf i).toNat)
  case atStart => exact ⟨0, by omega, rfl, by simpa using Blk.new (w.alloc _) _ _, (by (repeat (first | exact Below.refl _ _ | (refine Below.setCell ?_ (by first | omega | (simp; omega) | simp) _) | (refine Below.alloc ?_ (by first | omega | (simp; omega) | simp) _) | apply Below.drew | apply below_drewN)))⟩
  case round =>
    obtain ⟨k, hk, rfl, hB, hbel⟩ := hrel
    by_cases hlt : k < n
    · have hg := Lib.hid (putL_get n v k hlt)
      obtain ⟨u, hu⟩ := part_get (putL n v) k k (by rw [putL_len]; exact hlt)
      go_wp2_with fail
      refine (up_any _ _ _ _ (by omega) (by omega) v0 v1).mono ?_
      rintro e w1 ⟨rfl, hb1⟩
      have B1 := hB.on hb1
      have cc : w1.cell? ⟨w.heap.size + 1, k, none⟩ = some u := (B1.cell k).trans hu
      have ff := B1.frozen k
      have zz := B1.lt
      have S1 := B1.set_ k (.int .u8 ((byteI v k).toNat : Int))
      have hS := Lib.hid (part_set (putL n v) k _ hg.out)
      clear hu
      go_wp2_with fail
      go_roundw
      case rel => exact ⟨k + 1, by omega, by go_num, by rw [← hS.out]; exact S1, (by (have q_hb1 := Below.size hb1; (try simp at q_hb1); have q_hbel := Below.size hbel; (try simp at q_hbel); repeat (first | exact Below.refl _ _ | (refine Below.trans ?_ (Below.mono hb1 (by first | omega | (simp; omega) | simp))) | (refine Below.trans ?_ (Below.mono hbel (by first | omega | (simp; omega) | simp))) | (refine Below.setCell ?_ (by first | omega | (simp; omega) | simp) _) | (refine Below.alloc ?_ (by first | omega | (simp; omega) | simp) _) | apply Below.drew | apply below_drewN)))⟩
      case measure => simp [intOf]; omega
    · go_wp2_with fail
      go_ret
      have hkn : k = n := by omega
      subst hkn
      exact ⟨_, rfl, Fresh.of_blk hB (by omega) (by unfold maxLen; omega) (putL_len _ _) (part_done _ _ (by rw [putL_len]; omega)), hbel⟩

set_option maxHeartbeats 400000 in
theorem put_any (n : Nat) (v : Int) (w : World) (n0 : 1 ≤ n) (n1 : n ≤ 8) (v0 : 0 ≤ v) (v1 : v ≤ 18446744073709551615) :
    Calls Try.prog 61 #[.int .i64 n, .int .u64 v] w (Gives 5 w (putL n v)) := by
  go_enter Try.func61, Try.ntmps61
  go_wp2_with fail
  refine (bytes_up _ _ _ n0 n1 v0 v1).mono ?_
  rintro e w1 ⟨r, rfl, hF, hb1⟩
  go_wp2_with fail
  go_ret
  exact ⟨_, rfl, hF.from_ (by simp), (by (have q_hb1 := Below.size hb1; (try simp at q_hb1); repeat (first | exact Below.refl _ _ | (refine Below.trans ?_ (Below.mono hb1 (by first | omega | (simp; omega) | simp))) | (refine Below.setCell ?_ (by first | omega | (simp; omega) | simp) _) | (refine Below.alloc ?_ (by first | omega | (simp; omega) | simp) _) | apply Below.drew | apply below_drewN)))⟩

set_option maxHeartbeats 400000 in
theorem put_none (n v : Int) (w : World) (hn : n < 1 ∨ 8 < n) :
    Calls Try.prog 61 #[.int .i64 n, .int .u64 v] w (Gives 5 w []) := by
  rcases hn with hn | hn
  all_goals
    go_enter Try.func61, Try.ntmps61
    go_wp2
    go_ret
    exact ⟨_, rfl, Fresh.nil _ _ _, (by (repeat (first | exact Below.refl _ _ | (refine Below.setCell ?_ (by first | omega | (simp; omega) | simp) _) | (refine Below.alloc ?_ (by first | omega | (simp; omega) | simp) _) | apply Below.drew | apply below_drewN)))⟩

end Go.Proofs.Ytidlcplamgajpaa
