/- The walks of the statements ClassSizes, ClassOf, ClassPlace, ClassTight. -/
import Derived.Test.YtnocjjaebemkoaaClass2
namespace Go.Proofs.Ytnocjjaebemkoaa
open Go.RowKit

set_option maxHeartbeats 1000000 in
theorem cawake_any (w : World) :
    Calls Try.prog 15 #[] w fun e w' => e = .returned (.bool true) ∧ w = w' := by
  go_enter Try.func15, Try.ntmps15
  go_wp2_with fail
  refine (of_yes' 17 _ (by omega) (by omega)).mono ?_
  rintro e w1 ⟨rfl, rfl⟩
  rw [show ofC 17 = 2 from rfl]
  go_wp2_with fail
  refine (place_yes' 2 1 _ (by omega) (by decide)).mono ?_
  rintro e w1 ⟨rfl, rfl⟩
  rw [show sizeI 2 = 24 from rfl]
  go_wp2_with fail
  refine (pages_yes 300 _ (by omega) (by omega)).mono ?_
  rintro e w1 ⟨rfl, rfl⟩
  rw [show pagesC 300 = 2 from rfl]
  go_wp2_with fail
  refine (slots_any 2 _).mono ?_
  rintro e w1 ⟨rfl, rfl⟩
  rw [show slotsI 2 = 8 from rfl]
  go_wp2_with fail
  go_ret
  exact ⟨rfl, rfl⟩

set_option maxHeartbeats 1000000 in
theorem law_sizes (c : Int) (w : World) :
    Calls Try.prog 3 #[.int .i64 c] w fun e w' => e = .returned (.bool true) ∧ w = w' := by
  go_enter Try.func3, Try.ntmps3
  go_wp2_with fail
  refine (size_any c _).mono ?_
  rintro e w1 ⟨rfl, rfl⟩
  go_wp2_with fail
  refine (rsize_any c _).mono ?_
  rintro e w1 ⟨rfl, rfl⟩
  go_wp2_with fail
  refine (slots_any c _).mono ?_
  rintro e w1 ⟨rfl, rfl⟩
  go_wp2_with fail
  refine (rslots_any c _).mono ?_
  rintro e w1 ⟨rfl, rfl⟩
  go_wp2_with fail
  refine (cawake_any _).mono ?_
  rintro e w1 ⟨rfl, rfl⟩
  go_wp2_with fail
  go_ret
  exact ⟨rfl, rfl⟩

set_option maxHeartbeats 1000000 in
theorem law_of_lo (n : Int) (w : World) (h : n < 1) :
    Calls Try.prog 4 #[.int .i64 n] w fun e w' => e = .returned (.bool true) ∧ w = w' := by
  go_enter Try.func4, Try.ntmps4
  go_wp2_with fail
  refine (of_no' n _ (by omega)).mono ?_
  rintro e w1 ⟨rfl, rfl⟩
  go_wp2_with fail
  refine (rof_no n _ (by omega)).mono ?_
  rintro e w1 ⟨rfl, rfl⟩
  go_wp2_with fail
  refine (pages_no n _ (by omega)).mono ?_
  rintro e w1 ⟨rfl, rfl⟩
  go_wp2_with fail
  refine (rpages_no n _ (by omega)).mono ?_
  rintro e w1 ⟨rfl, rfl⟩
  go_wp2_with fail
  refine (cawake_any _).mono ?_
  rintro e w1 ⟨rfl, rfl⟩
  go_wp2_with fail
  go_ret
  exact ⟨rfl, rfl⟩

set_option maxHeartbeats 1000000 in
theorem law_of_small (n : Int) (w : World) (h1 : 1 ≤ n) (h2 : n ≤ 120) :
    Calls Try.prog 4 #[.int .i64 n] w fun e w' => e = .returned (.bool true) ∧ w = w' := by
  go_enter Try.func4, Try.ntmps4
  go_wp2_with fail
  refine (of_yes' n _ (by omega) (by omega)).mono ?_
  rintro e w1 ⟨rfl, rfl⟩
  go_wp2_with fail
  refine (rof_yes n _ (by omega) (by omega)).mono ?_
  rintro e w1 ⟨rfl, rfl⟩
  go_wp2_with fail
  refine (pages_no n _ (by omega)).mono ?_
  rintro e w1 ⟨rfl, rfl⟩
  go_wp2_with fail
  refine (rpages_no n _ (by omega)).mono ?_
  rintro e w1 ⟨rfl, rfl⟩
  go_wp2_with fail
  refine (cawake_any _).mono ?_
  rintro e w1 ⟨rfl, rfl⟩
  go_wp2_with fail
  go_ret
  exact ⟨rfl, rfl⟩

set_option maxHeartbeats 1000000 in
theorem law_of_big (n : Int) (w : World) (h1 : 121 ≤ n) (h2 : n ≤ 4096) :
    Calls Try.prog 4 #[.int .i64 n] w fun e w' => e = .returned (.bool true) ∧ w = w' := by
  go_enter Try.func4, Try.ntmps4
  go_wp2_with fail
  refine (of_no' n _ (by omega)).mono ?_
  rintro e w1 ⟨rfl, rfl⟩
  go_wp2_with fail
  refine (rof_no n _ (by omega)).mono ?_
  rintro e w1 ⟨rfl, rfl⟩
  go_wp2_with fail
  refine (pages_yes n _ (by omega) (by omega)).mono ?_
  rintro e w1 ⟨rfl, rfl⟩
  go_wp2_with fail
  refine (rpages_yes n _ (by omega) (by omega)).mono ?_
  rintro e w1 ⟨rfl, rfl⟩
  go_wp2_with fail
  refine (cawake_any _).mono ?_
  rintro e w1 ⟨rfl, rfl⟩
  go_wp2_with fail
  go_ret
  exact ⟨rfl, rfl⟩

set_option maxHeartbeats 1000000 in
theorem law_of_hi (n : Int) (w : World) (h : 4096 < n) :
    Calls Try.prog 4 #[.int .i64 n] w fun e w' => e = .returned (.bool true) ∧ w = w' := by
  go_enter Try.func4, Try.ntmps4
  go_wp2_with fail
  refine (of_no' n _ (by omega)).mono ?_
  rintro e w1 ⟨rfl, rfl⟩
  go_wp2_with fail
  refine (rof_no n _ (by omega)).mono ?_
  rintro e w1 ⟨rfl, rfl⟩
  go_wp2_with fail
  refine (pages_no n _ (by omega)).mono ?_
  rintro e w1 ⟨rfl, rfl⟩
  go_wp2_with fail
  refine (rpages_no n _ (by omega)).mono ?_
  rintro e w1 ⟨rfl, rfl⟩
  go_wp2_with fail
  refine (cawake_any _).mono ?_
  rintro e w1 ⟨rfl, rfl⟩
  go_wp2_with fail
  go_ret
  exact ⟨ret_bool (by simp; omega), rfl⟩

theorem law_of (n : Int) (w : World) :
    Calls Try.prog 4 #[.int .i64 n] w fun e w' => e = .returned (.bool true) ∧ w = w' := by
  by_cases h1 : n < 1
  · exact law_of_lo n w h1
  · by_cases h2 : n ≤ 120
    · exact law_of_small n w (by omega) h2
    · by_cases h3 : n ≤ 4096
      · exact law_of_big n w (by omega) h3
      · exact law_of_hi n w (by omega)

set_option maxHeartbeats 1000000 in
theorem law_place_c0 (c k : Int) (w : World) (h : c < 0) :
    Calls Try.prog 5 #[.int .i64 c, .int .i64 k] w fun e w' => e = .returned (.bool true) ∧ w = w' := by
  have hno := Lib.hid (show k < 0 ∨ slotsI c ≤ k by rw [slotsI_out c (by omega)]; omega)
  go_enter Try.func5, Try.ntmps5
  go_wp2_with fail
  refine (place_no' c k _ hno.out).mono ?_
  rintro e w1 ⟨rfl, rfl⟩
  go_wp2_with fail
  refine (cawake_any _).mono ?_
  rintro e w1 ⟨rfl, rfl⟩
  go_wp2_with fail
  go_ret
  exact ⟨rfl, rfl⟩

set_option maxHeartbeats 1000000 in
theorem law_place_c1 (c k : Int) (w : World) (h : 7 < c) :
    Calls Try.prog 5 #[.int .i64 c, .int .i64 k] w fun e w' => e = .returned (.bool true) ∧ w = w' := by
  have hno := Lib.hid (show k < 0 ∨ slotsI c ≤ k by rw [slotsI_out c (by omega)]; omega)
  go_enter Try.func5, Try.ntmps5
  go_wp2_with fail
  refine (place_no' c k _ hno.out).mono ?_
  rintro e w1 ⟨rfl, rfl⟩
  go_wp2_with fail
  refine (cawake_any _).mono ?_
  rintro e w1 ⟨rfl, rfl⟩
  go_wp2_with fail
  go_ret
  exact ⟨rfl, rfl⟩

set_option maxHeartbeats 1000000 in
theorem law_place_k0 (c k : Int) (w : World) (hc0 : 0 ≤ c) (hc1 : c ≤ 7) (h : k < 0) :
    Calls Try.prog 5 #[.int .i64 c, .int .i64 k] w fun e w' => e = .returned (.bool true) ∧ w = w' := by
  have hno := Lib.hid (show k < 0 ∨ slotsI c ≤ k from .inl h)
  go_enter Try.func5, Try.ntmps5
  go_wp2_with fail
  refine (place_no' c k _ hno.out).mono ?_
  rintro e w1 ⟨rfl, rfl⟩
  go_wp2_with fail
  refine (cawake_any _).mono ?_
  rintro e w1 ⟨rfl, rfl⟩
  go_wp2_with fail
  go_ret
  exact ⟨rfl, rfl⟩

set_option maxHeartbeats 1000000 in
theorem law_place_k1 (c k : Int) (w : World) (hc0 : 0 ≤ c) (hc1 : c ≤ 7) (hk0 : 0 ≤ k) (h : slotsI c ≤ k) :
    Calls Try.prog 5 #[.int .i64 c, .int .i64 k] w fun e w' => e = .returned (.bool true) ∧ w = w' := by
  have hno := Lib.hid (show k < 0 ∨ slotsI c ≤ k from .inr h)
  go_enter Try.func5, Try.ntmps5
  go_wp2_with fail
  refine (place_no' c k _ hno.out).mono ?_
  rintro e w1 ⟨rfl, rfl⟩
  go_wp2_with fail
  refine (rslots_any c _).mono ?_
  rintro e w1 ⟨rfl, rfl⟩
  go_wp2_with fail
  refine (cawake_any _).mono ?_
  rintro e w1 ⟨rfl, rfl⟩
  go_wp2_with fail
  go_ret
  exact ⟨rfl, rfl⟩

theorem slots_in (c k : Int) (h0 : 0 ≤ k) (h1 : k < slotsI c) : 0 ≤ c ∧ c ≤ 7 := by
  rcases classes c with h | h
  · rw [slotsI_out c h] at h1; omega
  · omega

set_option maxHeartbeats 2000000 in
theorem law_place_first (c k : Int) (w : World) (h0 : 0 ≤ k) (h1 : k < slotsI c) (hk : k = 0) :
    Calls Try.prog 5 #[.int .i64 c, .int .i64 k] w fun e w' => e = .returned (.bool true) ∧ w = w' := by
  obtain ⟨c0, c1⟩ := slots_in c k h0 h1
  obtain ⟨f1, f2, f3⟩ := place_fit c k h0 h1
  obtain ⟨r0, r1⟩ := sizeI_range c
  have hk16 : k ≤ 15 := by have := (slotsI_range c).2; omega
  have hp := Lib.hid (place_yes' c k)
  obtain ⟨s, hs⟩ : ∃ s, s = sizeI c := ⟨_, rfl⟩
  rw [← hs] at f1 f2 f3 r0 r1 hp
  obtain ⟨m, hm⟩ : ∃ m, m = slotsI c := ⟨_, rfl⟩
  rw [← hm] at h1 hp
  have hS := Lib.hid hs
  have hM := Lib.hid hm
  subst hk
  clear hs hm
  go_enter Try.func5, Try.ntmps5
  go_wp2_with fail
  refine (hp.out _ (by omega) h1).mono ?_
  rintro e w1 ⟨rfl, rfl⟩
  go_wp2_with fail
  refine (rslots_any c _).mono ?_
  rintro e w1 ⟨rfl, rfl⟩
  rw [← hM.out]
  go_wp2_with fail
  refine (rsize_any c _).mono ?_
  rintro e w1 ⟨rfl, rfl⟩
  rw [← hS.out]
  go_wp2_with fail
  refine (cawake_any _).mono ?_
  rintro e w1 ⟨rfl, rfl⟩
  go_wp2_with fail
  go_ret
  exact ⟨rfl, rfl⟩

set_option maxHeartbeats 2000000 in
theorem law_place_next (c k : Int) (w : World) (h0 : 0 ≤ k) (h1 : k < slotsI c) (hk : 0 < k) :
    Calls Try.prog 5 #[.int .i64 c, .int .i64 k] w fun e w' => e = .returned (.bool true) ∧ w = w' := by
  obtain ⟨c0, c1⟩ := slots_in c k h0 h1
  obtain ⟨f1, f2, f3⟩ := place_fit c k h0 h1
  have g3 := (place_fit c (k - 1) (by omega) (by omega))
  obtain ⟨r0, r1⟩ := sizeI_range c
  have hk16 : k ≤ 15 := by have := (slotsI_range c).2; omega
  have hp := Lib.hid (place_yes' c k)
  have hp1 := Lib.hid (fun W => place_yes' c (k - 1) W (by omega) (by omega))
  obtain ⟨s, hs⟩ : ∃ s, s = sizeI c := ⟨_, rfl⟩
  rw [← hs] at f1 f2 f3 r0 r1 hp hp1 g3
  obtain ⟨m, hm⟩ : ∃ m, m = slotsI c := ⟨_, rfl⟩
  rw [← hm] at h1 hp
  have hS := Lib.hid hs
  have hM := Lib.hid hm
  obtain ⟨p, hpp⟩ : ∃ p, p = k * (s + 8) := ⟨_, rfl⟩
  have hpe : (k - 1) * (s + 8) = p - (s + 8) := by rw [hpp, Int.sub_mul, Int.one_mul]
  rw [← hpp] at f2 f3 hp
  rw [hpe] at hp1 g3
  obtain ⟨g1, g2, g3'⟩ := g3
  have hw : IntKind.i64.wrap (k * (s + 8)) = p := by rw [← hpp]; exact IntWalk.i64_in _ (by omega)
  clear hpe hpp
  clear hs hm
  go_enter Try.func5, Try.ntmps5
  go_wp2_with fail
  refine (hp.out _ h0 h1).mono ?_
  rintro e w1 ⟨rfl, rfl⟩
  go_wp2_with fail
  refine (rslots_any c _).mono ?_
  rintro e w1 ⟨rfl, rfl⟩
  rw [← hM.out]
  go_wp2_with fail
  refine (hp1.out _).mono ?_
  rintro e w1 ⟨rfl, rfl⟩
  go_wp2_with fail
  refine (rsize_any c _).mono ?_
  rintro e w1 ⟨rfl, rfl⟩
  rw [← hS.out]
  go_wp2_with fail
  refine (cawake_any _).mono ?_
  rintro e w1 ⟨rfl, rfl⟩
  go_wp2_with fail
  go_ret
  exact ⟨rfl, rfl⟩

theorem law_place (c k : Int) (w : World) :
    Calls Try.prog 5 #[.int .i64 c, .int .i64 k] w fun e w' => e = .returned (.bool true) ∧ w = w' := by
  by_cases h1 : c < 0
  · exact law_place_c0 c k w h1
  · by_cases h2 : 7 < c
    · exact law_place_c1 c k w h2
    · by_cases h3 : k < 0
      · exact law_place_k0 c k w (by omega) (by omega) h3
      · by_cases h4 : slotsI c ≤ k
        · exact law_place_k1 c k w (by omega) (by omega) (by omega) h4
        · by_cases h5 : k = 0
          · exact law_place_first c k w (by omega) (by omega) h5
          · exact law_place_next c k w (by omega) (by omega) (by omega)

theorem and7 (c : Int) : bits .and .i64 c 7 = c % 8 := by
  have h : ((BitVec.ofInt 64 c &&& BitVec.ofInt 64 7).toNat : Int) = c % 8 := by
    rw [BitVec.toNat_and, show (BitVec.ofInt 64 7).toNat = 2 ^ 3 - 1 from rfl, Nat.and_two_pow_sub_one_eq_mod, BitVec.toNat_ofInt]
    omega
  show IntKind.i64.wrap ((BitVec.ofInt 64 c &&& BitVec.ofInt 64 7).toNat : Int) = _
  rw [h, IntKind.wrap_i64]
  omega

set_option maxHeartbeats 2000000 in
theorem law_tight (c : Int) (w : World) :
    Calls Try.prog 6 #[.int .i64 c] w fun e w' => e = .returned (.bool true) ∧ w = w' := by
  have ha := and7 c
  have hr : c % 8 = 0 ∨ c % 8 = 1 ∨ c % 8 = 2 ∨ c % 8 = 3 ∨ c % 8 = 4 ∨ c % 8 = 5 ∨ c % 8 = 6 ∨ c % 8 = 7 := by omega
  rcases hr with h | h | h | h | h | h | h | h
  · rw [h] at ha
    clear h
    go_enter Try.func6, Try.ntmps6
    go_wp2_with fail
    refine (slots_any _ _).mono ?_
    rintro e w1 ⟨rfl, rfl⟩
    rw [show slotsI 0 = 16 from rfl]
    go_wp2_with fail
    refine (size_any _ _).mono ?_
    rintro e w1 ⟨rfl, rfl⟩
    rw [show sizeI 0 = 8 from rfl]
    go_wp2_with fail
    refine (size_any _ _).mono ?_
    rintro e w1 ⟨rfl, rfl⟩
    rw [show sizeI 0 = 8 from rfl]
    go_wp2_with fail
    refine (cawake_any _).mono ?_
    rintro e w1 ⟨rfl, rfl⟩
    go_wp2_with fail
    go_ret
    exact ⟨rfl, rfl⟩
  · rw [h] at ha
    clear h
    go_enter Try.func6, Try.ntmps6
    go_wp2_with fail
    refine (slots_any _ _).mono ?_
    rintro e w1 ⟨rfl, rfl⟩
    rw [show slotsI 1 = 10 from rfl]
    go_wp2_with fail
    refine (size_any _ _).mono ?_
    rintro e w1 ⟨rfl, rfl⟩
    rw [show sizeI 1 = 16 from rfl]
    go_wp2_with fail
    refine (size_any _ _).mono ?_
    rintro e w1 ⟨rfl, rfl⟩
    rw [show sizeI 1 = 16 from rfl]
    go_wp2_with fail
    refine (size_any _ _).mono ?_
    rintro e w1 ⟨rfl, rfl⟩
    rw [show sizeI 1 = 16 from rfl]
    go_wp2_with fail
    refine (size_any _ _).mono ?_
    rintro e w1 ⟨rfl, rfl⟩
    rw [show sizeI 0 = 8 from rfl]
    go_wp2_with fail
    refine (cawake_any _).mono ?_
    rintro e w1 ⟨rfl, rfl⟩
    go_wp2_with fail
    go_ret
    exact ⟨rfl, rfl⟩
  · rw [h] at ha
    clear h
    go_enter Try.func6, Try.ntmps6
    go_wp2_with fail
    refine (slots_any _ _).mono ?_
    rintro e w1 ⟨rfl, rfl⟩
    rw [show slotsI 2 = 8 from rfl]
    go_wp2_with fail
    refine (size_any _ _).mono ?_
    rintro e w1 ⟨rfl, rfl⟩
    rw [show sizeI 2 = 24 from rfl]
    go_wp2_with fail
    refine (size_any _ _).mono ?_
    rintro e w1 ⟨rfl, rfl⟩
    rw [show sizeI 2 = 24 from rfl]
    go_wp2_with fail
    refine (size_any _ _).mono ?_
    rintro e w1 ⟨rfl, rfl⟩
    rw [show sizeI 2 = 24 from rfl]
    go_wp2_with fail
    refine (size_any _ _).mono ?_
    rintro e w1 ⟨rfl, rfl⟩
    rw [show sizeI 1 = 16 from rfl]
    go_wp2_with fail
    refine (cawake_any _).mono ?_
    rintro e w1 ⟨rfl, rfl⟩
    go_wp2_with fail
    go_ret
    exact ⟨rfl, rfl⟩
  · rw [h] at ha
    clear h
    go_enter Try.func6, Try.ntmps6
    go_wp2_with fail
    refine (slots_any _ _).mono ?_
    rintro e w1 ⟨rfl, rfl⟩
    rw [show slotsI 3 = 6 from rfl]
    go_wp2_with fail
    refine (size_any _ _).mono ?_
    rintro e w1 ⟨rfl, rfl⟩
    rw [show sizeI 3 = 32 from rfl]
    go_wp2_with fail
    refine (size_any _ _).mono ?_
    rintro e w1 ⟨rfl, rfl⟩
    rw [show sizeI 3 = 32 from rfl]
    go_wp2_with fail
    refine (size_any _ _).mono ?_
    rintro e w1 ⟨rfl, rfl⟩
    rw [show sizeI 3 = 32 from rfl]
    go_wp2_with fail
    refine (size_any _ _).mono ?_
    rintro e w1 ⟨rfl, rfl⟩
    rw [show sizeI 2 = 24 from rfl]
    go_wp2_with fail
    refine (cawake_any _).mono ?_
    rintro e w1 ⟨rfl, rfl⟩
    go_wp2_with fail
    go_ret
    exact ⟨rfl, rfl⟩
  · rw [h] at ha
    clear h
    go_enter Try.func6, Try.ntmps6
    go_wp2_with fail
    refine (slots_any _ _).mono ?_
    rintro e w1 ⟨rfl, rfl⟩
    rw [show slotsI 4 = 4 from rfl]
    go_wp2_with fail
    refine (size_any _ _).mono ?_
    rintro e w1 ⟨rfl, rfl⟩
    rw [show sizeI 4 = 48 from rfl]
    go_wp2_with fail
    refine (size_any _ _).mono ?_
    rintro e w1 ⟨rfl, rfl⟩
    rw [show sizeI 4 = 48 from rfl]
    go_wp2_with fail
    refine (size_any _ _).mono ?_
    rintro e w1 ⟨rfl, rfl⟩
    rw [show sizeI 4 = 48 from rfl]
    go_wp2_with fail
    refine (size_any _ _).mono ?_
    rintro e w1 ⟨rfl, rfl⟩
    rw [show sizeI 3 = 32 from rfl]
    go_wp2_with fail
    refine (cawake_any _).mono ?_
    rintro e w1 ⟨rfl, rfl⟩
    go_wp2_with fail
    go_ret
    exact ⟨rfl, rfl⟩
  · rw [h] at ha
    clear h
    go_enter Try.func6, Try.ntmps6
    go_wp2_with fail
    refine (slots_any _ _).mono ?_
    rintro e w1 ⟨rfl, rfl⟩
    rw [show slotsI 5 = 3 from rfl]
    go_wp2_with fail
    refine (size_any _ _).mono ?_
    rintro e w1 ⟨rfl, rfl⟩
    rw [show sizeI 5 = 64 from rfl]
    go_wp2_with fail
    refine (size_any _ _).mono ?_
    rintro e w1 ⟨rfl, rfl⟩
    rw [show sizeI 5 = 64 from rfl]
    go_wp2_with fail
    refine (size_any _ _).mono ?_
    rintro e w1 ⟨rfl, rfl⟩
    rw [show sizeI 5 = 64 from rfl]
    go_wp2_with fail
    refine (size_any _ _).mono ?_
    rintro e w1 ⟨rfl, rfl⟩
    rw [show sizeI 4 = 48 from rfl]
    go_wp2_with fail
    refine (cawake_any _).mono ?_
    rintro e w1 ⟨rfl, rfl⟩
    go_wp2_with fail
    go_ret
    exact ⟨rfl, rfl⟩
  · rw [h] at ha
    clear h
    go_enter Try.func6, Try.ntmps6
    go_wp2_with fail
    refine (slots_any _ _).mono ?_
    rintro e w1 ⟨rfl, rfl⟩
    rw [show slotsI 6 = 2 from rfl]
    go_wp2_with fail
    refine (size_any _ _).mono ?_
    rintro e w1 ⟨rfl, rfl⟩
    rw [show sizeI 6 = 96 from rfl]
    go_wp2_with fail
    refine (size_any _ _).mono ?_
    rintro e w1 ⟨rfl, rfl⟩
    rw [show sizeI 6 = 96 from rfl]
    go_wp2_with fail
    refine (size_any _ _).mono ?_
    rintro e w1 ⟨rfl, rfl⟩
    rw [show sizeI 6 = 96 from rfl]
    go_wp2_with fail
    refine (size_any _ _).mono ?_
    rintro e w1 ⟨rfl, rfl⟩
    rw [show sizeI 5 = 64 from rfl]
    go_wp2_with fail
    refine (cawake_any _).mono ?_
    rintro e w1 ⟨rfl, rfl⟩
    go_wp2_with fail
    go_ret
    exact ⟨rfl, rfl⟩
  · rw [h] at ha
    clear h
    go_enter Try.func6, Try.ntmps6
    go_wp2_with fail
    refine (slots_any _ _).mono ?_
    rintro e w1 ⟨rfl, rfl⟩
    rw [show slotsI 7 = 2 from rfl]
    go_wp2_with fail
    refine (size_any _ _).mono ?_
    rintro e w1 ⟨rfl, rfl⟩
    rw [show sizeI 7 = 120 from rfl]
    go_wp2_with fail
    refine (size_any _ _).mono ?_
    rintro e w1 ⟨rfl, rfl⟩
    rw [show sizeI 7 = 120 from rfl]
    go_wp2_with fail
    refine (size_any _ _).mono ?_
    rintro e w1 ⟨rfl, rfl⟩
    rw [show sizeI 7 = 120 from rfl]
    go_wp2_with fail
    refine (size_any _ _).mono ?_
    rintro e w1 ⟨rfl, rfl⟩
    rw [show sizeI 6 = 96 from rfl]
    go_wp2_with fail
    refine (cawake_any _).mono ?_
    rintro e w1 ⟨rfl, rfl⟩
    go_wp2_with fail
    go_ret
    exact ⟨rfl, rfl⟩

theorem still_below {P : Program} {f : FuncId} {args : Array Value} {w : World} {v : Value} (h : Calls P f args w fun e w' => e = .returned v ∧ w = w') : Calls P f args w fun e w' => e = .returned v ∧ Below w.heap.size w w' :=
  h.mono fun _ _ hh => ⟨hh.1, hh.2 ▸ Below.refl _ _⟩
end Go.Proofs.Ytnocjjaebemkoaa
