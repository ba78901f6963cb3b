/- Contracts of the functions on classes of sizes: the rest. -/
import Derived.Test.YtnocjjaebemkoaaClassP
namespace Go.Proofs.Ytnocjjaebemkoaa
open Go.RowKit

theorem slotsI_eq (c : Int) : slotsI c = if sizeI c = 0 then 0 else 256 / (sizeI c + 8) := by
  rcases classes c with h | rfl | rfl | rfl | rfl | rfl | rfl | rfl | rfl
  · rw [sizeI_out c h, if_pos rfl]
    unfold slotsI
    repeat (rw [if_neg (by omega)])
  all_goals decide
theorem slotsI_out (c : Int) (h : c < 0 ∨ 8 ≤ c) : slotsI c = 0 := by rw [slotsI_eq, sizeI_out c h, if_pos rfl]
theorem slotsI_range (c : Int) : 0 ≤ slotsI c ∧ slotsI c ≤ 16 := by
  rcases classes c with h | rfl | rfl | rfl | rfl | rfl | rfl | rfl | rfl
  · rw [slotsI_out c h]; omega
  all_goals decide

set_option maxHeartbeats 1000000 in
theorem slots_any (c : Int) (w : World) :
    Calls Try.prog 13 #[.int .i64 c] w fun e w' => e = .returned (.int .i64 (slotsI c)) ∧ w = w' := by
  have he := Lib.hid (slotsI_eq c)
  obtain ⟨h0, h1⟩ := sizeI_range c
  by_cases hz : sizeI c = 0
  · have hZ := Lib.hid hz
    have heq := Lib.hid (show slotsI c = 0 by rw [he.out, if_pos hz])
    clear hz h0 h1
    go_enter Try.func13, Try.ntmps13
    go_wp2_with fail
    refine (size_any c _).mono ?_
    rintro e w1 ⟨rfl, rfl⟩
    rw [hZ.out]
    go_wp2_with fail
    go_ret
    exact ⟨ret1 (int_eq heq.out.symm), rfl⟩
  · have heq := Lib.hid (show slotsI c = 256 / (sizeI c + 8) by rw [he.out, if_neg hz])
    obtain ⟨s, hs⟩ : ∃ s, s = sizeI c := ⟨_, rfl⟩
    rw [← hs] at heq h0 h1 hz
    have hS := Lib.hid hs
    have hb : (s == 0) = false := by simpa using hz
    have hs1 : 1 ≤ s := by omega
    clear hs hz
    go_enter Try.func13, Try.ntmps13
    go_wp2_with fail
    refine (size_any c _).mono ?_
    rintro e w1 ⟨rfl, rfl⟩
    rw [← hS.out]
    go_wp2_with fail
    refine (size_any c _).mono ?_
    rintro e w1 ⟨rfl, rfl⟩
    rw [← hS.out]
    go_wp2_with fail
    go_ret
    exact ⟨ret1 (int_eq heq.out.symm), rfl⟩

set_option maxRecDepth 100000 in
set_option maxHeartbeats 2000000 in
theorem rslots_any (c : Int) (w : World) :
    Calls Try.prog 14 #[.int .i64 c] w fun e w' => e = .returned (.int .i64 (slotsI c)) ∧ w = w' := by
  rcases classes c with h | rfl | rfl | rfl | rfl | rfl | rfl | rfl | rfl
  · have hz := Lib.hid (slotsI_out c h)
    rcases h with h | h
    all_goals
      go_enter Try.func14, Try.ntmps14
      go_wp2_with fail
      go_ret
      exact ⟨ret1 (int_eq hz.out.symm), rfl⟩
  · go_enter Try.func14, Try.ntmps14
    go_wp2_with fail
    go_loop [3] (fun i => ∃ k : Nat, k ≤ 16 ∧ i = .int .i64 k) (fun i => 16 - (intOf i).toNat)
    case atStart => exact ⟨0, by omega, rfl⟩
    case round =>
      obtain ⟨k, hk, rfl⟩ := hrel
      by_cases hlt : k < 16
      · go_wp2_with fail
        refine (rsize_any _ _).mono ?_
        rintro e w1 ⟨rfl, rfl⟩
        rw [show sizeI 0 = 8 from rfl]
        go_wp2_with fail
        go_round
        case rel => exact ⟨k + 1, by omega, by go_num⟩
        case measure => simp [intOf] <;> omega
      · obtain rfl : k = 16 := by omega
        go_wp2_with fail
        refine (rsize_any _ _).mono ?_
        rintro e w1 ⟨rfl, rfl⟩
        rw [show sizeI 0 = 8 from rfl]
        go_wp2_with fail
        go_ret
        exact ⟨rfl, rfl⟩
  · go_enter Try.func14, Try.ntmps14
    go_wp2_with fail
    go_loop [3] (fun i => ∃ k : Nat, k ≤ 10 ∧ i = .int .i64 k) (fun i => 10 - (intOf i).toNat)
    case atStart => exact ⟨0, by omega, rfl⟩
    case round =>
      obtain ⟨k, hk, rfl⟩ := hrel
      by_cases hlt : k < 10
      · go_wp2_with fail
        refine (rsize_any _ _).mono ?_
        rintro e w1 ⟨rfl, rfl⟩
        rw [show sizeI 1 = 16 from rfl]
        go_wp2_with fail
        go_round
        case rel => exact ⟨k + 1, by omega, by go_num⟩
        case measure => simp [intOf] <;> omega
      · obtain rfl : k = 10 := by omega
        go_wp2_with fail
        refine (rsize_any _ _).mono ?_
        rintro e w1 ⟨rfl, rfl⟩
        rw [show sizeI 1 = 16 from rfl]
        go_wp2_with fail
        go_ret
        exact ⟨rfl, rfl⟩
  · go_enter Try.func14, Try.ntmps14
    go_wp2_with fail
    go_loop [3] (fun i => ∃ k : Nat, k ≤ 8 ∧ i = .int .i64 k) (fun i => 8 - (intOf i).toNat)
    case atStart => exact ⟨0, by omega, rfl⟩
    case round =>
      obtain ⟨k, hk, rfl⟩ := hrel
      by_cases hlt : k < 8
      · go_wp2_with fail
        refine (rsize_any _ _).mono ?_
        rintro e w1 ⟨rfl, rfl⟩
        rw [show sizeI 2 = 24 from rfl]
        go_wp2_with fail
        go_round
        case rel => exact ⟨k + 1, by omega, by go_num⟩
        case measure => simp [intOf] <;> omega
      · obtain rfl : k = 8 := by omega
        go_wp2_with fail
        refine (rsize_any _ _).mono ?_
        rintro e w1 ⟨rfl, rfl⟩
        rw [show sizeI 2 = 24 from rfl]
        go_wp2_with fail
        go_ret
        exact ⟨rfl, rfl⟩
  · go_enter Try.func14, Try.ntmps14
    go_wp2_with fail
    go_loop [3] (fun i => ∃ k : Nat, k ≤ 6 ∧ i = .int .i64 k) (fun i => 6 - (intOf i).toNat)
    case atStart => exact ⟨0, by omega, rfl⟩
    case round =>
      obtain ⟨k, hk, rfl⟩ := hrel
      by_cases hlt : k < 6
      · go_wp2_with fail
        refine (rsize_any _ _).mono ?_
        rintro e w1 ⟨rfl, rfl⟩
        rw [show sizeI 3 = 32 from rfl]
        go_wp2_with fail
        go_round
        case rel => exact ⟨k + 1, by omega, by go_num⟩
        case measure => simp [intOf] <;> omega
      · obtain rfl : k = 6 := by omega
        go_wp2_with fail
        refine (rsize_any _ _).mono ?_
        rintro e w1 ⟨rfl, rfl⟩
        rw [show sizeI 3 = 32 from rfl]
        go_wp2_with fail
        go_ret
        exact ⟨rfl, rfl⟩
  · go_enter Try.func14, Try.ntmps14
    go_wp2_with fail
    go_loop [3] (fun i => ∃ k : Nat, k ≤ 4 ∧ i = .int .i64 k) (fun i => 4 - (intOf i).toNat)
    case atStart => exact ⟨0, by omega, rfl⟩
    case round =>
      obtain ⟨k, hk, rfl⟩ := hrel
      by_cases hlt : k < 4
      · go_wp2_with fail
        refine (rsize_any _ _).mono ?_
        rintro e w1 ⟨rfl, rfl⟩
        rw [show sizeI 4 = 48 from rfl]
        go_wp2_with fail
        go_round
        case rel => exact ⟨k + 1, by omega, by go_num⟩
        case measure => simp [intOf] <;> omega
      · obtain rfl : k = 4 := by omega
        go_wp2_with fail
        refine (rsize_any _ _).mono ?_
        rintro e w1 ⟨rfl, rfl⟩
        rw [show sizeI 4 = 48 from rfl]
        go_wp2_with fail
        go_ret
        exact ⟨rfl, rfl⟩
  · go_enter Try.func14, Try.ntmps14
    go_wp2_with fail
    go_loop [3] (fun i => ∃ k : Nat, k ≤ 3 ∧ i = .int .i64 k) (fun i => 3 - (intOf i).toNat)
    case atStart => exact ⟨0, by omega, rfl⟩
    case round =>
      obtain ⟨k, hk, rfl⟩ := hrel
      by_cases hlt : k < 3
      · go_wp2_with fail
        refine (rsize_any _ _).mono ?_
        rintro e w1 ⟨rfl, rfl⟩
        rw [show sizeI 5 = 64 from rfl]
        go_wp2_with fail
        go_round
        case rel => exact ⟨k + 1, by omega, by go_num⟩
        case measure => simp [intOf] <;> omega
      · obtain rfl : k = 3 := by omega
        go_wp2_with fail
        refine (rsize_any _ _).mono ?_
        rintro e w1 ⟨rfl, rfl⟩
        rw [show sizeI 5 = 64 from rfl]
        go_wp2_with fail
        go_ret
        exact ⟨rfl, rfl⟩
  · go_enter Try.func14, Try.ntmps14
    go_wp2_with fail
    go_loop [3] (fun i => ∃ k : Nat, k ≤ 2 ∧ i = .int .i64 k) (fun i => 2 - (intOf i).toNat)
    case atStart => exact ⟨0, by omega, rfl⟩
    case round =>
      obtain ⟨k, hk, rfl⟩ := hrel
      by_cases hlt : k < 2
      · go_wp2_with fail
        refine (rsize_any _ _).mono ?_
        rintro e w1 ⟨rfl, rfl⟩
        rw [show sizeI 6 = 96 from rfl]
        go_wp2_with fail
        go_round
        case rel => exact ⟨k + 1, by omega, by go_num⟩
        case measure => simp [intOf] <;> omega
      · obtain rfl : k = 2 := by omega
        go_wp2_with fail
        refine (rsize_any _ _).mono ?_
        rintro e w1 ⟨rfl, rfl⟩
        rw [show sizeI 6 = 96 from rfl]
        go_wp2_with fail
        go_ret
        exact ⟨rfl, rfl⟩
  · go_enter Try.func14, Try.ntmps14
    go_wp2_with fail
    go_loop [3] (fun i => ∃ k : Nat, k ≤ 2 ∧ i = .int .i64 k) (fun i => 2 - (intOf i).toNat)
    case atStart => exact ⟨0, by omega, rfl⟩
    case round =>
      obtain ⟨k, hk, rfl⟩ := hrel
      by_cases hlt : k < 2
      · go_wp2_with fail
        refine (rsize_any _ _).mono ?_
        rintro e w1 ⟨rfl, rfl⟩
        rw [show sizeI 7 = 120 from rfl]
        go_wp2_with fail
        go_round
        case rel => exact ⟨k + 1, by omega, by go_num⟩
        case measure => simp [intOf] <;> omega
      · obtain rfl : k = 2 := by omega
        go_wp2_with fail
        refine (rsize_any _ _).mono ?_
        rintro e w1 ⟨rfl, rfl⟩
        rw [show sizeI 7 = 120 from rfl]
        go_wp2_with fail
        go_ret
        exact ⟨rfl, rfl⟩

/-- The least class that has as many. -/
def ofC (n : Int) : Int := if n ≤ 8 then 0 else if n ≤ 16 then 1 else if n ≤ 24 then 2 else if n ≤ 32 then 3 else if n ≤ 48 then 4 else if n ≤ 64 then 5 else if n ≤ 96 then 6 else 7
/-- How many bytes the class ahead has. -/
def prevI (k : Nat) : Int := match k with
  | 0 => 0 | 1 => 8 | 2 => 16 | 3 => 24 | 4 => 32 | 5 => 48 | 6 => 64 | 7 => 96 | _ => 120
theorem ofC_eq (n : Int) (k : Nat) (hk : k ≤ 7) (h0 : prevI k < n) (h1 : n ≤ prevI (k + 1)) : ofC n = k := by
  have hc : k = 0 ∨ k = 1 ∨ k = 2 ∨ k = 3 ∨ k = 4 ∨ k = 5 ∨ k = 6 ∨ k = 7 := by omega
  rcases hc with rfl | rfl | rfl | rfl | rfl | rfl | rfl | rfl <;> simp only [prevI] at h0 h1 <;> unfold ofC <;> (repeat (first | rw [if_neg (by omega)] | rw [if_pos (by omega)])) <;> rfl

set_option maxHeartbeats 2000000 in
theorem of_yes' (n : Int) (w : World) (h1 : 1 ≤ n) (h2 : n ≤ 120) :
    Calls Try.prog 16 #[.int .i64 n] w fun e w' => e = .returned (.tuple #[.int .i64 (ofC n), .bool true]) ∧ w = w' := by
  go_enter Try.func16, Try.ntmps16
  go_wp2_with fail
  go_loop [5] (fun i => ∃ k : Nat, k ≤ 7 ∧ i = .int .i64 k ∧ prevI k < n) (fun i => 8 - (intOf i).toNat)
  case atStart => exact ⟨0, by omega, rfl, by simp only [prevI]; omega⟩
  case round =>
    obtain ⟨k, hk, rfl, hp⟩ := hrel
    have hcases : k = 0 ∨ k = 1 ∨ k = 2 ∨ k = 3 ∨ k = 4 ∨ k = 5 ∨ k = 6 ∨ k = 7 := by omega
    rcases hcases with rfl | rfl | rfl | rfl | rfl | rfl | rfl | rfl
    · by_cases hq : n ≤ 8
      · have ho := Lib.hid (ofC_eq n 0 (by omega) hp hq)
        clear hp
        go_wp2_with fail
        refine (size_any _ _).mono ?_
        rintro e w1 ⟨rfl, rfl⟩
        rw [show sizeI 0 = 8 from rfl]
        go_wp2_with fail
        go_ret2
        exact ⟨ret2 (int_eq ho.out.symm) rfl, rfl⟩
      · have hp' : prevI 1 < n := by simp only [prevI]; omega
        have hP := Lib.hid hp'
        clear hp hp'
        go_wp2_with fail
        refine (size_any _ _).mono ?_
        rintro e w1 ⟨rfl, rfl⟩
        rw [show sizeI 0 = 8 from rfl]
        go_wp2_with fail
        go_round
        case rel => exact ⟨1, by omega, rfl, hP.out⟩
        case measure => simp [intOf]
    · by_cases hq : n ≤ 16
      · have ho := Lib.hid (ofC_eq n 1 (by omega) hp hq)
        clear hp
        go_wp2_with fail
        refine (size_any _ _).mono ?_
        rintro e w1 ⟨rfl, rfl⟩
        rw [show sizeI 1 = 16 from rfl]
        go_wp2_with fail
        go_ret2
        exact ⟨ret2 (int_eq ho.out.symm) rfl, rfl⟩
      · have hp' : prevI 2 < n := by simp only [prevI]; omega
        have hP := Lib.hid hp'
        clear hp hp'
        go_wp2_with fail
        refine (size_any _ _).mono ?_
        rintro e w1 ⟨rfl, rfl⟩
        rw [show sizeI 1 = 16 from rfl]
        go_wp2_with fail
        go_round
        case rel => exact ⟨2, by omega, rfl, hP.out⟩
        case measure => simp [intOf]
    · by_cases hq : n ≤ 24
      · have ho := Lib.hid (ofC_eq n 2 (by omega) hp hq)
        clear hp
        go_wp2_with fail
        refine (size_any _ _).mono ?_
        rintro e w1 ⟨rfl, rfl⟩
        rw [show sizeI 2 = 24 from rfl]
        go_wp2_with fail
        go_ret2
        exact ⟨ret2 (int_eq ho.out.symm) rfl, rfl⟩
      · have hp' : prevI 3 < n := by simp only [prevI]; omega
        have hP := Lib.hid hp'
        clear hp hp'
        go_wp2_with fail
        refine (size_any _ _).mono ?_
        rintro e w1 ⟨rfl, rfl⟩
        rw [show sizeI 2 = 24 from rfl]
        go_wp2_with fail
        go_round
        case rel => exact ⟨3, by omega, rfl, hP.out⟩
        case measure => simp [intOf]
    · by_cases hq : n ≤ 32
      · have ho := Lib.hid (ofC_eq n 3 (by omega) hp hq)
        clear hp
        go_wp2_with fail
        refine (size_any _ _).mono ?_
        rintro e w1 ⟨rfl, rfl⟩
        rw [show sizeI 3 = 32 from rfl]
        go_wp2_with fail
        go_ret2
        exact ⟨ret2 (int_eq ho.out.symm) rfl, rfl⟩
      · have hp' : prevI 4 < n := by simp only [prevI]; omega
        have hP := Lib.hid hp'
        clear hp hp'
        go_wp2_with fail
        refine (size_any _ _).mono ?_
        rintro e w1 ⟨rfl, rfl⟩
        rw [show sizeI 3 = 32 from rfl]
        go_wp2_with fail
        go_round
        case rel => exact ⟨4, by omega, rfl, hP.out⟩
        case measure => simp [intOf]
    · by_cases hq : n ≤ 48
      · have ho := Lib.hid (ofC_eq n 4 (by omega) hp hq)
        clear hp
        go_wp2_with fail
        refine (size_any _ _).mono ?_
        rintro e w1 ⟨rfl, rfl⟩
        rw [show sizeI 4 = 48 from rfl]
        go_wp2_with fail
        go_ret2
        exact ⟨ret2 (int_eq ho.out.symm) rfl, rfl⟩
      · have hp' : prevI 5 < n := by simp only [prevI]; omega
        have hP := Lib.hid hp'
        clear hp hp'
        go_wp2_with fail
        refine (size_any _ _).mono ?_
        rintro e w1 ⟨rfl, rfl⟩
        rw [show sizeI 4 = 48 from rfl]
        go_wp2_with fail
        go_round
        case rel => exact ⟨5, by omega, rfl, hP.out⟩
        case measure => simp [intOf]
    · by_cases hq : n ≤ 64
      · have ho := Lib.hid (ofC_eq n 5 (by omega) hp hq)
        clear hp
        go_wp2_with fail
        refine (size_any _ _).mono ?_
        rintro e w1 ⟨rfl, rfl⟩
        rw [show sizeI 5 = 64 from rfl]
        go_wp2_with fail
        go_ret2
        exact ⟨ret2 (int_eq ho.out.symm) rfl, rfl⟩
      · have hp' : prevI 6 < n := by simp only [prevI]; omega
        have hP := Lib.hid hp'
        clear hp hp'
        go_wp2_with fail
        refine (size_any _ _).mono ?_
        rintro e w1 ⟨rfl, rfl⟩
        rw [show sizeI 5 = 64 from rfl]
        go_wp2_with fail
        go_round
        case rel => exact ⟨6, by omega, rfl, hP.out⟩
        case measure => simp [intOf]
    · by_cases hq : n ≤ 96
      · have ho := Lib.hid (ofC_eq n 6 (by omega) hp hq)
        clear hp
        go_wp2_with fail
        refine (size_any _ _).mono ?_
        rintro e w1 ⟨rfl, rfl⟩
        rw [show sizeI 6 = 96 from rfl]
        go_wp2_with fail
        go_ret2
        exact ⟨ret2 (int_eq ho.out.symm) rfl, rfl⟩
      · have hp' : prevI 7 < n := by simp only [prevI]; omega
        have hP := Lib.hid hp'
        clear hp hp'
        go_wp2_with fail
        refine (size_any _ _).mono ?_
        rintro e w1 ⟨rfl, rfl⟩
        rw [show sizeI 6 = 96 from rfl]
        go_wp2_with fail
        go_round
        case rel => exact ⟨7, by omega, rfl, hP.out⟩
        case measure => simp [intOf]
    · by_cases hq : n ≤ 120
      · have ho := Lib.hid (ofC_eq n 7 (by omega) hp hq)
        clear hp
        go_wp2_with fail
        refine (size_any _ _).mono ?_
        rintro e w1 ⟨rfl, rfl⟩
        rw [show sizeI 7 = 120 from rfl]
        go_wp2_with fail
        go_ret2
        exact ⟨ret2 (int_eq ho.out.symm) rfl, rfl⟩
      · omega

set_option maxHeartbeats 2000000 in
theorem of_no' (n : Int) (w : World) (h : n < 1 ∨ 120 < n) :
    Calls Try.prog 16 #[.int .i64 n] w fun e w' => e = .returned (.tuple #[.int .i64 0, .bool false]) ∧ w = w' := by
  rcases h with h | h
  · go_enter Try.func16, Try.ntmps16
    go_wp2_with fail
    go_loop [5] (fun i => ∃ k : Nat, k ≤ 8 ∧ i = .int .i64 k) (fun i => 8 - (intOf i).toNat)
    case atStart => exact ⟨0, by omega, rfl⟩
    case round =>
      obtain ⟨k, hk, rfl⟩ := hrel
      by_cases hlt : k < 8
      · go_wp2_with fail
        go_round
        case rel => exact ⟨k + 1, by omega, by go_num⟩
        case measure => simp [intOf] <;> omega
      · go_wp2_with fail
        go_ret2
        exact ⟨rfl, rfl⟩
  · go_enter Try.func16, Try.ntmps16
    go_wp2_with fail
    go_loop [5] (fun i => ∃ k : Nat, k ≤ 8 ∧ i = .int .i64 k) (fun i => 8 - (intOf i).toNat)
    case atStart => exact ⟨0, by omega, rfl⟩
    case round =>
      obtain ⟨k, hk, rfl⟩ := hrel
      by_cases hlt : k < 8
      · have hr := (sizeI_range k).2
        obtain ⟨s, hs⟩ : ∃ s, s = sizeI k := ⟨_, rfl⟩
        rw [← hs] at hr
        have hS := Lib.hid hs
        have hns : s < n := by omega
        clear hs
        go_wp2_with fail
        refine (size_any _ _).mono ?_
        rintro e w1 ⟨rfl, rfl⟩
        rw [← hS.out]
        go_wp2_with fail
        go_round
        case rel => exact ⟨k + 1, by omega, by go_num⟩
        case measure => simp [intOf] <;> omega
      · go_wp2_with fail
        go_ret2
        exact ⟨rfl, rfl⟩

set_option maxHeartbeats 2000000 in
theorem rof_yes (n : Int) (w : World) (h1 : 1 ≤ n) (h2 : n ≤ 120) :
    Calls Try.prog 17 #[.int .i64 n] w fun e w' => e = .returned (.tuple #[.int .i64 (ofC n), .bool true]) ∧ w = w' := by
  go_enter Try.func17, Try.ntmps17
  go_wp2_with fail
  go_loop [4] (fun i => ∃ k : Nat, k ≤ 7 ∧ i = .int .i64 k ∧ prevI k < n) (fun i => 8 - (intOf i).toNat)
  case atStart => exact ⟨0, by omega, rfl, by simp only [prevI]; omega⟩
  case round =>
    obtain ⟨k, hk, rfl, hp⟩ := hrel
    have hcases : k = 0 ∨ k = 1 ∨ k = 2 ∨ k = 3 ∨ k = 4 ∨ k = 5 ∨ k = 6 ∨ k = 7 := by omega
    rcases hcases with rfl | rfl | rfl | rfl | rfl | rfl | rfl | rfl
    · by_cases hq : n ≤ 8
      · have ho := Lib.hid (ofC_eq n 0 (by omega) hp hq)
        clear hp
        go_wp2_with fail
        refine (rsize_any _ _).mono ?_
        rintro e w1 ⟨rfl, rfl⟩
        rw [show sizeI 0 = 8 from rfl]
        go_wp2_with fail
        go_ret2
        exact ⟨ret2 (int_eq ho.out.symm) rfl, rfl⟩
      · have hp' : prevI 1 < n := by simp only [prevI]; omega
        have hP := Lib.hid hp'
        clear hp hp'
        go_wp2_with fail
        refine (rsize_any _ _).mono ?_
        rintro e w1 ⟨rfl, rfl⟩
        rw [show sizeI 0 = 8 from rfl]
        go_wp2_with fail
        go_round
        case rel => exact ⟨1, by omega, rfl, hP.out⟩
        case measure => simp [intOf]
    · by_cases hq : n ≤ 16
      · have ho := Lib.hid (ofC_eq n 1 (by omega) hp hq)
        clear hp
        go_wp2_with fail
        refine (rsize_any _ _).mono ?_
        rintro e w1 ⟨rfl, rfl⟩
        rw [show sizeI 1 = 16 from rfl]
        go_wp2_with fail
        go_ret2
        exact ⟨ret2 (int_eq ho.out.symm) rfl, rfl⟩
      · have hp' : prevI 2 < n := by simp only [prevI]; omega
        have hP := Lib.hid hp'
        clear hp hp'
        go_wp2_with fail
        refine (rsize_any _ _).mono ?_
        rintro e w1 ⟨rfl, rfl⟩
        rw [show sizeI 1 = 16 from rfl]
        go_wp2_with fail
        go_round
        case rel => exact ⟨2, by omega, rfl, hP.out⟩
        case measure => simp [intOf]
    · by_cases hq : n ≤ 24
      · have ho := Lib.hid (ofC_eq n 2 (by omega) hp hq)
        clear hp
        go_wp2_with fail
        refine (rsize_any _ _).mono ?_
        rintro e w1 ⟨rfl, rfl⟩
        rw [show sizeI 2 = 24 from rfl]
        go_wp2_with fail
        go_ret2
        exact ⟨ret2 (int_eq ho.out.symm) rfl, rfl⟩
      · have hp' : prevI 3 < n := by simp only [prevI]; omega
        have hP := Lib.hid hp'
        clear hp hp'
        go_wp2_with fail
        refine (rsize_any _ _).mono ?_
        rintro e w1 ⟨rfl, rfl⟩
        rw [show sizeI 2 = 24 from rfl]
        go_wp2_with fail
        go_round
        case rel => exact ⟨3, by omega, rfl, hP.out⟩
        case measure => simp [intOf]
    · by_cases hq : n ≤ 32
      · have ho := Lib.hid (ofC_eq n 3 (by omega) hp hq)
        clear hp
        go_wp2_with fail
        refine (rsize_any _ _).mono ?_
        rintro e w1 ⟨rfl, rfl⟩
        rw [show sizeI 3 = 32 from rfl]
        go_wp2_with fail
        go_ret2
        exact ⟨ret2 (int_eq ho.out.symm) rfl, rfl⟩
      · have hp' : prevI 4 < n := by simp only [prevI]; omega
        have hP := Lib.hid hp'
        clear hp hp'
        go_wp2_with fail
        refine (rsize_any _ _).mono ?_
        rintro e w1 ⟨rfl, rfl⟩
        rw [show sizeI 3 = 32 from rfl]
        go_wp2_with fail
        go_round
        case rel => exact ⟨4, by omega, rfl, hP.out⟩
        case measure => simp [intOf]
    · by_cases hq : n ≤ 48
      · have ho := Lib.hid (ofC_eq n 4 (by omega) hp hq)
        clear hp
        go_wp2_with fail
        refine (rsize_any _ _).mono ?_
        rintro e w1 ⟨rfl, rfl⟩
        rw [show sizeI 4 = 48 from rfl]
        go_wp2_with fail
        go_ret2
        exact ⟨ret2 (int_eq ho.out.symm) rfl, rfl⟩
      · have hp' : prevI 5 < n := by simp only [prevI]; omega
        have hP := Lib.hid hp'
        clear hp hp'
        go_wp2_with fail
        refine (rsize_any _ _).mono ?_
        rintro e w1 ⟨rfl, rfl⟩
        rw [show sizeI 4 = 48 from rfl]
        go_wp2_with fail
        go_round
        case rel => exact ⟨5, by omega, rfl, hP.out⟩
        case measure => simp [intOf]
    · by_cases hq : n ≤ 64
      · have ho := Lib.hid (ofC_eq n 5 (by omega) hp hq)
        clear hp
        go_wp2_with fail
        refine (rsize_any _ _).mono ?_
        rintro e w1 ⟨rfl, rfl⟩
        rw [show sizeI 5 = 64 from rfl]
        go_wp2_with fail
        go_ret2
        exact ⟨ret2 (int_eq ho.out.symm) rfl, rfl⟩
      · have hp' : prevI 6 < n := by simp only [prevI]; omega
        have hP := Lib.hid hp'
        clear hp hp'
        go_wp2_with fail
        refine (rsize_any _ _).mono ?_
        rintro e w1 ⟨rfl, rfl⟩
        rw [show sizeI 5 = 64 from rfl]
        go_wp2_with fail
        go_round
        case rel => exact ⟨6, by omega, rfl, hP.out⟩
        case measure => simp [intOf]
    · by_cases hq : n ≤ 96
      · have ho := Lib.hid (ofC_eq n 6 (by omega) hp hq)
        clear hp
        go_wp2_with fail
        refine (rsize_any _ _).mono ?_
        rintro e w1 ⟨rfl, rfl⟩
        rw [show sizeI 6 = 96 from rfl]
        go_wp2_with fail
        go_ret2
        exact ⟨ret2 (int_eq ho.out.symm) rfl, rfl⟩
      · have hp' : prevI 7 < n := by simp only [prevI]; omega
        have hP := Lib.hid hp'
        clear hp hp'
        go_wp2_with fail
        refine (rsize_any _ _).mono ?_
        rintro e w1 ⟨rfl, rfl⟩
        rw [show sizeI 6 = 96 from rfl]
        go_wp2_with fail
        go_round
        case rel => exact ⟨7, by omega, rfl, hP.out⟩
        case measure => simp [intOf]
    · by_cases hq : n ≤ 120
      · have ho := Lib.hid (ofC_eq n 7 (by omega) hp hq)
        clear hp
        go_wp2_with fail
        refine (rsize_any _ _).mono ?_
        rintro e w1 ⟨rfl, rfl⟩
        rw [show sizeI 7 = 120 from rfl]
        go_wp2_with fail
        go_ret2
        exact ⟨ret2 (int_eq ho.out.symm) rfl, rfl⟩
      · omega

theorem rof_no (n : Int) (w : World) (h : n < 1 ∨ 120 < n) :
    Calls Try.prog 17 #[.int .i64 n] w fun e w' => e = .returned (.tuple #[.int .i64 0, .bool false]) ∧ w = w' := by
  rcases h with h | h
  all_goals
    go_enter Try.func17, Try.ntmps17
    go_wp2_with fail
    go_ret2
    exact ⟨rfl, rfl⟩

theorem ret3 {a b c a' b' c' : Value} (h : a = a') (h' : b = b') (h'' : c = c') : Ending.returned (.tuple #[a, b, c]) = .returned (.tuple #[a', b', c']) := by rw [h, h', h'']

theorem place_fit (c k : Int) (h0 : 0 ≤ k) (h1 : k < slotsI c) : 16 ≤ sizeI c + 8 ∧ 0 ≤ k * (sizeI c + 8) ∧ k * (sizeI c + 8) + (sizeI c + 8) ≤ 256 := by
  rcases classes c with h | rfl | rfl | rfl | rfl | rfl | rfl | rfl | rfl
  · rw [slotsI_out c h] at h1; omega
  · rw [show slotsI 0 = 16 from rfl] at h1
    rw [show sizeI 0 = 8 from rfl]
    omega
  · rw [show slotsI 1 = 10 from rfl] at h1
    rw [show sizeI 1 = 16 from rfl]
    omega
  · rw [show slotsI 2 = 8 from rfl] at h1
    rw [show sizeI 2 = 24 from rfl]
    omega
  · rw [show slotsI 3 = 6 from rfl] at h1
    rw [show sizeI 3 = 32 from rfl]
    omega
  · rw [show slotsI 4 = 4 from rfl] at h1
    rw [show sizeI 4 = 48 from rfl]
    omega
  · rw [show slotsI 5 = 3 from rfl] at h1
    rw [show sizeI 5 = 64 from rfl]
    omega
  · rw [show slotsI 6 = 2 from rfl] at h1
    rw [show sizeI 6 = 96 from rfl]
    omega
  · rw [show slotsI 7 = 2 from rfl] at h1
    rw [show sizeI 7 = 120 from rfl]
    omega

set_option maxHeartbeats 1000000 in
theorem place_yes' (c k : Int) (w : World) (h0 : 0 ≤ k) (h1 : k < slotsI c) :
    Calls Try.prog 20 #[.int .i64 c, .int .i64 k] w fun e w' => e = .returned (.tuple #[.int .i64 (k * (sizeI c + 8)), .int .i64 (sizeI c + 8), .bool true]) ∧ w = w' := by
  obtain ⟨f1, f2, f3⟩ := place_fit c k h0 h1
  obtain ⟨r0, r1⟩ := sizeI_range c
  obtain ⟨s, hs⟩ : ∃ s, s = sizeI c := ⟨_, rfl⟩
  rw [← hs] at f1 f2 f3 r0 r1
  obtain ⟨m, hm⟩ : ∃ m, m = slotsI c := ⟨_, rfl⟩
  rw [← hm] at h1
  have hS := Lib.hid hs
  have hM := Lib.hid hm
  have hw : IntKind.i64.wrap (k * (s + 8)) = k * (s + 8) := IntWalk.i64_in _ (by omega)
  have hmul := Lib.hid hw
  clear hs hm hw
  go_enter Try.func20, Try.ntmps20
  go_wp2_with fail
  refine (slots_any c _).mono ?_
  rintro e w1 ⟨rfl, rfl⟩
  rw [← hM.out]
  go_wp2_with fail
  refine (size_any c _).mono ?_
  rintro e w1 ⟨rfl, rfl⟩
  rw [← hS.out]
  go_wp2_with fail
  go_ret3
  exact ⟨ret3 (int_eq (by first | rfl | (rw [hS.out]; done) | (rw [← hS.out]; exact hmul.out) | (rw [← hS.out]))) (int_eq (by rw [hS.out])) rfl, rfl⟩

set_option maxHeartbeats 1000000 in
theorem place_no' (c k : Int) (w : World) (h : k < 0 ∨ slotsI c ≤ k) :
    Calls Try.prog 20 #[.int .i64 c, .int .i64 k] w fun e w' => e = .returned (.tuple #[.int .i64 0, .int .i64 0, .bool false]) ∧ w = w' := by
  rcases h with h | h
  · go_enter Try.func20, Try.ntmps20
    go_wp2_with fail
    go_ret3
    exact ⟨rfl, rfl⟩
  · by_cases hk : k < 0
    · go_enter Try.func20, Try.ntmps20
      go_wp2_with fail
      go_ret3
      exact ⟨rfl, rfl⟩
    · obtain ⟨m, hm⟩ : ∃ m, m = slotsI c := ⟨_, rfl⟩
      rw [← hm] at h
      have hM := Lib.hid hm
      clear hm
      go_enter Try.func20, Try.ntmps20
      go_wp2_with fail
      refine (slots_any c _).mono ?_
      rintro e w1 ⟨rfl, rfl⟩
      rw [← hM.out]
      go_wp2_with fail
      go_ret3
      exact ⟨rfl, rfl⟩
end Go.Proofs.Ytnocjjaebemkoaa
