/- Contracts of the functions on classes of sizes: how many pages; the document's sizes. -/
import Derived.Test.YtidlcplamgajpaaClass
namespace Go.Proofs.Ytidlcplamgajpaa
open Go.RowKit

set_option maxHeartbeats 1000000 in
theorem rsize_any (c : Int) (w : World) :
    Calls Try.prog 41 #[.int .i64 c] w fun e w' => e = .returned (.int .i64 (sizeI c)) ∧ w = w' := by
  rcases classes c with h | rfl | rfl | rfl | rfl | rfl | rfl | rfl | rfl
  · have hz := Lib.hid (sizeI_out c h)
    have q0 : (c == 0) = false := by simp; omega
    have q1 : (c == 1) = false := by simp; omega
    have q2 : (c == 2) = false := by simp; omega
    have q3 : (c == 3) = false := by simp; omega
    have q4 : (c == 4) = false := by simp; omega
    have q5 : (c == 5) = false := by simp; omega
    have q6 : (c == 6) = false := by simp; omega
    have q7 : (c == 7) = false := by simp; omega
    clear h
    go_enter Try.func41, Try.ntmps41
    go_wp2_with fail
    go_ret
    exact ⟨ret1 (int_eq hz.out.symm), rfl⟩
  all_goals
    go_enter Try.func41, Try.ntmps41
    go_wp2_with fail
    go_ret
    exact ⟨rfl, rfl⟩

def pagesC (n : Int) : Int := (n + 255) / 256

set_option maxHeartbeats 1000000 in
theorem pages_yes (n : Int) (w : World) (h1 : 121 ≤ n) (h2 : n ≤ 4096) :
    Calls Try.prog 37 #[.int .i64 n] w fun e w' => e = .returned (.tuple #[.int .i64 (pagesC n), .bool true]) ∧ w = w' := by
  go_enter Try.func37, Try.ntmps37
  go_wp2_with fail
  go_ret2
  exact ⟨ret2 (int_eq (by unfold pagesC; omega)) rfl, rfl⟩
theorem pages_no (n : Int) (w : World) (h : n < 121 ∨ 4096 < n) :
    Calls Try.prog 37 #[.int .i64 n] w fun e w' => e = .returned (.tuple #[.int .i64 0, .bool false]) ∧ w = w' := by
  rcases h with h | h
  all_goals
    go_enter Try.func37, Try.ntmps37
    go_wp2_with fail
    go_ret2
    exact ⟨rfl, rfl⟩

set_option maxHeartbeats 1000000 in
theorem rpages_yes (n : Int) (w : World) (h1 : 121 ≤ n) (h2 : n ≤ 4096) :
    Calls Try.prog 42 #[.int .i64 n] w fun e w' => e = .returned (.tuple #[.int .i64 (pagesC n), .bool true]) ∧ w = w' := by
  go_enter Try.func42, Try.ntmps42
  go_wp2_with fail
  go_loop [4] (fun i => ∃ k : Nat, 1 ≤ k ∧ k ≤ 16 ∧ i = .int .i64 k ∧ 256 * ((k : Int) - 1) < n) (fun i => 17 - (intOf i).toNat)
  case atStart => exact ⟨1, by omega, by omega, rfl, by omega⟩
  case round =>
    obtain ⟨k, hk0, hk, rfl, hp⟩ := hrel
    by_cases hq : 256 * (k : Int) < n
    · go_wp2_with fail
      go_round
      case rel => exact ⟨k + 1, by omega, by omega, by go_num, by omega⟩
      case measure => simp [intOf] <;> omega
    · have ho := Lib.hid (show pagesC n = (k : Int) by unfold pagesC; omega)
      go_wp2_with fail
      go_ret2
      exact ⟨ret2 (int_eq ho.out.symm) rfl, rfl⟩
theorem rpages_no (n : Int) (w : World) (h : n < 121 ∨ 4096 < n) :
    Calls Try.prog 42 #[.int .i64 n] w fun e w' => e = .returned (.tuple #[.int .i64 0, .bool false]) ∧ w = w' := by
  rcases h with h | h
  all_goals
    go_enter Try.func42, Try.ntmps42
    go_wp2_with fail
    go_ret2
    exact ⟨rfl, rfl⟩

end Go.Proofs.Ytidlcplamgajpaa
