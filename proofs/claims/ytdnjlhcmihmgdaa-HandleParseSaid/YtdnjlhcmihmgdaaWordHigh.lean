/- A number's bytes, the highest first. -/
import Derived.Test.YtdnjlhcmihmgdaaWord
namespace Go.Proofs.Ytdnjlhcmihmgdaa
open Go.RowKit

set_option maxHeartbeats 400000 in
theorem down_any (n v k : Int) (w : World) (h0 : 0 ≤ k) (h1 : k < n) (h2 : n ≤ 8) (v0 : 0 ≤ v) (v1 : v ≤ 18446744073709551615) :
    Calls Try.prog 50 #[.agg #[.int .i64 n, .int .u64 v], .int .i64 k] w fun e w' => e = .returned (.int .u8 ((byteI v (n - 1 - k).toNat).toNat : Int)) ∧ Below w.heap.size w w' := by
  go_enter Try.func50, Try.ntmps50
  go_wp2_with fail
  refine (up_any _ _ _ _ (by omega) (by omega) v0 v1).mono ?_
  rintro e w1 ⟨rfl, hb1⟩
  go_wp2_with fail
  go_ret
  exact ⟨rfl, (by (have q_hb1 := Below.size hb1; (try simp at q_hb1); repeat (first | exact Below.refl _ _ | (refine Below.trans ?_ (Below.mono hb1 (by first | omega | (simp; omega) | simp))) | (refine Below.setCell ?_ (by first | omega | (simp; omega) | simp) _) | (refine Below.alloc ?_ (by first | omega | (simp; omega) | simp) _) | apply Below.drew | apply below_drewN)))⟩


set_option maxHeartbeats 400000 in
theorem bytes_down (n : Nat) (v : Int) (w : World) (n0 : 1 ≤ n) (n1 : n ≤ 8) (v0 : 0 ≤ v) (v1 : v ≤ 18446744073709551615) :
    Calls Try.prog 48 #[.agg #[.int .i64 n, .int .u64 v], .func (Fn.func 50) #[.agg #[.int .i64 n, .int .u64 v]] #[]] w (Gives 5 w (highL n v)) := by
  have hmk := make_bytes (P := Try.prog) Try.underlying39 info8 .i64 .i64 n (by omega) (highL n v) (highL_len n v)
  go_enter Try.func48, Try.ntmps48
  go_wp2_with fail
  clear hmk
  go_loopw [20] (fun i wr => ∃ k : Nat, k ≤ n ∧ i = .int .i64 k ∧ Blk wr (w.heap.size + 1) 5 (part (highL n v) k) ∧ Below w.heap.size w wr) (fun i _ => n - (intOf i).toNat)
  case atStart => exact ⟨0, by omega, rfl, by simpa using Blk.new (w.alloc _) _ _, (by (repeat (first | exact Below.refl _ _ | (refine Below.setCell ?_ (by first | omega | (simp; omega) | simp) _) | (refine Below.alloc ?_ (by first | omega | (simp; omega) | simp) _) | apply Below.drew | apply below_drewN)))⟩
  case round =>
    obtain ⟨k, hk, rfl, hB, hbel⟩ := hrel
    by_cases hlt : k < n
    · have hg := Lib.hid (highL_get n v k hlt)
      obtain ⟨u, hu⟩ := part_get (highL n v) k k (by rw [highL_len]; exact hlt)
      go_wp2_with fail
      refine (down_any _ _ _ _ (by omega) (by omega) (by omega) v0 v1).mono ?_
      rintro e w1 ⟨rfl, hb1⟩
      have B1 := hB.on hb1
      have cc : w1.cell? ⟨w.heap.size + 1, k, none⟩ = some u := (B1.cell k).trans hu
      have ff := B1.frozen k
      have zz := B1.lt
      have S1 := B1.set_ k (.int .u8 ((byteI v (n - 1 - k)).toNat : Int))
      have hS := Lib.hid (part_set (highL n v) k _ hg.out)
      clear hu
      go_wp2_with fail
      go_roundw
      case rel => exact ⟨k + 1, by omega, by go_num, by rw [← hS.out]; exact S1, (by (have q_hb1 := Below.size hb1; (try simp at q_hb1); have q_hbel := Below.size hbel; (try simp at q_hbel); repeat (first | exact Below.refl _ _ | (refine Below.trans ?_ (Below.mono hb1 (by first | omega | (simp; omega) | simp))) | (refine Below.trans ?_ (Below.mono hbel (by first | omega | (simp; omega) | simp))) | (refine Below.setCell ?_ (by first | omega | (simp; omega) | simp) _) | (refine Below.alloc ?_ (by first | omega | (simp; omega) | simp) _) | apply Below.drew | apply below_drewN)))⟩
      case measure => simp [intOf]; omega
    · go_wp2_with fail
      go_ret
      have hkn : k = n := by omega
      subst hkn
      exact ⟨_, rfl, Fresh.of_blk hB (by omega) (by unfold maxLen; omega) (highL_len _ _) (part_done _ _ (by rw [highL_len]; omega)), hbel⟩

set_option maxHeartbeats 400000 in
theorem high_any (n : Nat) (v : Int) (w : World) (n0 : 1 ≤ n) (n1 : n ≤ 8) (v0 : 0 ≤ v) (v1 : v ≤ 18446744073709551615) :
    Calls Try.prog 23 #[.int .i64 n, .int .u64 v] w (Gives 5 w (highL n v)) := by
  go_enter Try.func23, Try.ntmps23
  go_wp2_with fail
  refine (bytes_down _ _ _ n0 n1 v0 v1).mono ?_
  rintro e w1 ⟨r, rfl, hF, hb1⟩
  go_wp2_with fail
  go_ret
  exact ⟨_, rfl, hF.from_ (by simp), (by (have q_hb1 := Below.size hb1; (try simp at q_hb1); repeat (first | exact Below.refl _ _ | (refine Below.trans ?_ (Below.mono hb1 (by first | omega | (simp; omega) | simp))) | (refine Below.setCell ?_ (by first | omega | (simp; omega) | simp) _) | (refine Below.alloc ?_ (by first | omega | (simp; omega) | simp) _) | apply Below.drew | apply below_drewN)))⟩

set_option maxHeartbeats 400000 in
theorem high_none (n v : Int) (w : World) (hn : n < 1 ∨ 8 < n) :
    Calls Try.prog 23 #[.int .i64 n, .int .u64 v] w (Gives 5 w []) := by
  rcases hn with hn | hn
  all_goals
    go_enter Try.func23, Try.ntmps23
    go_wp2
    go_ret
    exact ⟨_, rfl, Fresh.nil _ _ _, (by (repeat (first | exact Below.refl _ _ | (refine Below.setCell ?_ (by first | omega | (simp; omega) | simp) _) | (refine Below.alloc ?_ (by first | omega | (simp; omega) | simp) _) | apply Below.drew | apply below_drewN)))⟩

end Go.Proofs.Ytdnjlhcmihmgdaa
