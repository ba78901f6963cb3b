/- Contracts of the functions on classes of sizes. -/
import Derived.Test.YtidlcplamgajpaaProg
import Derived.Test.YtidlcplamgajpaaBase
namespace Go.Proofs.Ytidlcplamgajpaa
open Go.RowKit

/-- The sizes, class by class. -/
def sizeI (c : Int) : Int := if c = 0 then 8 else if c = 1 then 16 else if c = 2 then 24 else if c = 3 then 32 else if c = 4 then 48 else if c = 5 then 64 else if c = 6 then 96 else if c = 7 then 120 else 0
theorem sizeI_out (c : Int) (h : c < 0 ∨ 8 ≤ c) : sizeI c = 0 := by
  unfold sizeI
  repeat (rw [if_neg (by omega)])
theorem sizeI_range (c : Int) : 0 ≤ sizeI c ∧ sizeI c ≤ 120 := by
  unfold sizeI
  repeat (split; omega)
  omega
def slotsI (c : Int) : Int := if c = 0 then 16 else if c = 1 then 10 else if c = 2 then 8 else if c = 3 then 6 else if c = 4 then 4 else if c = 5 then 3 else if c = 6 then 2 else if c = 7 then 2 else 0
theorem classes (c : Int) : (c < 0 ∨ 8 ≤ c) ∨ c = 0 ∨ c = 1 ∨ c = 2 ∨ c = 3 ∨ c = 4 ∨ c = 5 ∨ c = 6 ∨ c = 7 := by omega

theorem ix0 : ∀ w : World, (Instr.index 97 (.agg #[.int .i64 8, .int .i64 16, .int .i64 24, .int .i64 32, .int .i64 48, .int .i64 64, .int .i64 96, .int .i64 120]) (.int .i64 0)).run Try.prog w = .ok (.int .i64 8) w := fun _ => by kernel_rfl
theorem ix1 : ∀ w : World, (Instr.index 97 (.agg #[.int .i64 8, .int .i64 16, .int .i64 24, .int .i64 32, .int .i64 48, .int .i64 64, .int .i64 96, .int .i64 120]) (.int .i64 1)).run Try.prog w = .ok (.int .i64 16) w := fun _ => by kernel_rfl
theorem ix2 : ∀ w : World, (Instr.index 97 (.agg #[.int .i64 8, .int .i64 16, .int .i64 24, .int .i64 32, .int .i64 48, .int .i64 64, .int .i64 96, .int .i64 120]) (.int .i64 2)).run Try.prog w = .ok (.int .i64 24) w := fun _ => by kernel_rfl
theorem ix3 : ∀ w : World, (Instr.index 97 (.agg #[.int .i64 8, .int .i64 16, .int .i64 24, .int .i64 32, .int .i64 48, .int .i64 64, .int .i64 96, .int .i64 120]) (.int .i64 3)).run Try.prog w = .ok (.int .i64 32) w := fun _ => by kernel_rfl
theorem ix4 : ∀ w : World, (Instr.index 97 (.agg #[.int .i64 8, .int .i64 16, .int .i64 24, .int .i64 32, .int .i64 48, .int .i64 64, .int .i64 96, .int .i64 120]) (.int .i64 4)).run Try.prog w = .ok (.int .i64 48) w := fun _ => by kernel_rfl
theorem ix5 : ∀ w : World, (Instr.index 97 (.agg #[.int .i64 8, .int .i64 16, .int .i64 24, .int .i64 32, .int .i64 48, .int .i64 64, .int .i64 96, .int .i64 120]) (.int .i64 5)).run Try.prog w = .ok (.int .i64 64) w := fun _ => by kernel_rfl
theorem ix6 : ∀ w : World, (Instr.index 97 (.agg #[.int .i64 8, .int .i64 16, .int .i64 24, .int .i64 32, .int .i64 48, .int .i64 64, .int .i64 96, .int .i64 120]) (.int .i64 6)).run Try.prog w = .ok (.int .i64 96) w := fun _ => by kernel_rfl
theorem ix7 : ∀ w : World, (Instr.index 97 (.agg #[.int .i64 8, .int .i64 16, .int .i64 24, .int .i64 32, .int .i64 48, .int .i64 64, .int .i64 96, .int .i64 120]) (.int .i64 7)).run Try.prog w = .ok (.int .i64 120) w := fun _ => by kernel_rfl

set_option maxHeartbeats 1000000 in
theorem size_any (c : Int) (w : World) :
    Calls Try.prog 53 #[.int .i64 c] w fun e w' => e = .returned (.int .i64 (sizeI c)) ∧ w = w' := by
  go_enter Try.func53, Try.ntmps53
  go_wp2_with fail
  go_loop [6] (fun i => ∃ k : Nat, k ≤ 8 ∧ i = .int .i64 k ∧ (c < 0 ∨ (k : Int) ≤ c)) (fun i => 8 - (intOf i).toNat)
  case atStart => exact ⟨0, by omega, rfl, by omega⟩
  case round =>
    obtain ⟨k, hk, rfl, hc⟩ := hrel
    have hcases : k = 0 ∨ k = 1 ∨ k = 2 ∨ k = 3 ∨ k = 4 ∨ k = 5 ∨ k = 6 ∨ k = 7 ∨ k = 8 := by omega
    rcases hcases with rfl | rfl | rfl | rfl | rfl | rfl | rfl | rfl | rfl
    · have hi := ix0
      by_cases hq : c = 0
      · subst hq
        clear hc
        go_wp2_with fail
        go_ret
        exact ⟨rfl, rfl⟩
      · have hq' : ((0 : Int) == c) = false := by simp; omega
        have hc' : c < 0 ∨ (0 : Int) + 1 ≤ c := by omega
        have hC := Lib.hid hc'
        clear hc hc' hq
        go_wp2_with fail
        go_round
        case rel => exact ⟨1, by omega, rfl, hC.out⟩
        case measure => simp [intOf]
    · have hi := ix1
      by_cases hq : c = 1
      · subst hq
        clear hc
        go_wp2_with fail
        go_ret
        exact ⟨rfl, rfl⟩
      · have hq' : ((1 : Int) == c) = false := by simp; omega
        have hc' : c < 0 ∨ (1 : Int) + 1 ≤ c := by omega
        have hC := Lib.hid hc'
        clear hc hc' hq
        go_wp2_with fail
        go_round
        case rel => exact ⟨2, by omega, rfl, hC.out⟩
        case measure => simp [intOf]
    · have hi := ix2
      by_cases hq : c = 2
      · subst hq
        clear hc
        go_wp2_with fail
        go_ret
        exact ⟨rfl, rfl⟩
      · have hq' : ((2 : Int) == c) = false := by simp; omega
        have hc' : c < 0 ∨ (2 : Int) + 1 ≤ c := by omega
        have hC := Lib.hid hc'
        clear hc hc' hq
        go_wp2_with fail
        go_round
        case rel => exact ⟨3, by omega, rfl, hC.out⟩
        case measure => simp [intOf]
    · have hi := ix3
      by_cases hq : c = 3
      · subst hq
        clear hc
        go_wp2_with fail
        go_ret
        exact ⟨rfl, rfl⟩
      · have hq' : ((3 : Int) == c) = false := by simp; omega
        have hc' : c < 0 ∨ (3 : Int) + 1 ≤ c := by omega
        have hC := Lib.hid hc'
        clear hc hc' hq
        go_wp2_with fail
        go_round
        case rel => exact ⟨4, by omega, rfl, hC.out⟩
        case measure => simp [intOf]
    · have hi := ix4
      by_cases hq : c = 4
      · subst hq
        clear hc
        go_wp2_with fail
        go_ret
        exact ⟨rfl, rfl⟩
      · have hq' : ((4 : Int) == c) = false := by simp; omega
        have hc' : c < 0 ∨ (4 : Int) + 1 ≤ c := by omega
        have hC := Lib.hid hc'
        clear hc hc' hq
        go_wp2_with fail
        go_round
        case rel => exact ⟨5, by omega, rfl, hC.out⟩
        case measure => simp [intOf]
    · have hi := ix5
      by_cases hq : c = 5
      · subst hq
        clear hc
        go_wp2_with fail
        go_ret
        exact ⟨rfl, rfl⟩
      · have hq' : ((5 : Int) == c) = false := by simp; omega
        have hc' : c < 0 ∨ (5 : Int) + 1 ≤ c := by omega
        have hC := Lib.hid hc'
        clear hc hc' hq
        go_wp2_with fail
        go_round
        case rel => exact ⟨6, by omega, rfl, hC.out⟩
        case measure => simp [intOf]
    · have hi := ix6
      by_cases hq : c = 6
      · subst hq
        clear hc
        go_wp2_with fail
        go_ret
        exact ⟨rfl, rfl⟩
      · have hq' : ((6 : Int) == c) = false := by simp; omega
        have hc' : c < 0 ∨ (6 : Int) + 1 ≤ c := by omega
        have hC := Lib.hid hc'
        clear hc hc' hq
        go_wp2_with fail
        go_round
        case rel => exact ⟨7, by omega, rfl, hC.out⟩
        case measure => simp [intOf]
    · have hi := ix7
      by_cases hq : c = 7
      · subst hq
        clear hc
        go_wp2_with fail
        go_ret
        exact ⟨rfl, rfl⟩
      · have hq' : ((7 : Int) == c) = false := by simp; omega
        have hc' : c < 0 ∨ (7 : Int) + 1 ≤ c := by omega
        have hC := Lib.hid hc'
        clear hc hc' hq
        go_wp2_with fail
        go_round
        case rel => exact ⟨8, by omega, rfl, hC.out⟩
        case measure => simp [intOf]
    · have hz := Lib.hid (sizeI_out c (by omega))
      clear hc
      go_wp2_with fail
      go_ret
      exact ⟨ret1 (int_eq hz.out.symm), rfl⟩
end Go.Proofs.Ytidlcplamgajpaa
