/- Scripts: the document's fields and numbers. -/
import Derived.Test.YthlgagjnlnakkaaScript9
namespace Go.Proofs.Ythlgagjnlnakkaa
open Go.RowKit

def numH (n : Int) (b : Bool) : Bool := numOk n && (b || decide (n = 0))
theorem rnum_any (n : Int) (b : Bool) (w : World) :
    Calls Try.prog 27 #[.int .i64 n, .bool b] w fun e w' => e = .returned (.bool (numH n b)) ∧ w = w' := by
  by_cases h : 0 ≤ n
  · by_cases h2 : n ≤ 65535
    · cases b with
      | true =>
        have hr := Lib.hid (show numH n true = true by simp [numH, numOk, h, h2])
        go_enter Try.func27, Try.ntmps27
        go_wp2_with fail
        go_ret
        exact ⟨by rw [hr.out]; rfl, rfl⟩
      | false =>
        obtain ⟨X, hX⟩ : ∃ X, X = (n == 0) := ⟨_, rfl⟩
        have hr := Lib.hid (show numH n false = X by rw [hX]; simp [numH, numOk, h, h2]; rfl)
        have hX2 := hX.symm
        clear hX
        go_enter Try.func27, Try.ntmps27
        go_wp2_with fail
        go_ret
        exact ⟨by rw [hr.out]; rfl, rfl⟩
    · have hr := Lib.hid (show numH n b = false by simp [numH, numOk, h2])
      go_enter Try.func27, Try.ntmps27
      go_wp2_with fail
      go_ret
      exact ⟨by rw [hr.out]; rfl, rfl⟩
  · have hr := Lib.hid (show numH n b = false by simp [numH, numOk, h])
    go_enter Try.func27, Try.ntmps27
    go_wp2_with fail
    go_ret
    exact ⟨by rw [hr.out]; rfl, rfl⟩

def fstr (k : Int) : ByteArray :=
  if k = 1 then ⟨#[121]⟩ else if k = 6 then ⟨#[110]⟩ else if k = 7 then ⟨#[119]⟩ else if k = 13 then ⟨#[119]⟩ else if k = 8 then ⟨#[119, 110]⟩ else if k = 9 then ⟨#[119, 97, 98]⟩ else if k = 10 then ⟨#[119, 97, 110]⟩
  else if k = 11 then ⟨#[107, 119, 121]⟩ else if k = 12 then ⟨#[107]⟩ else if k = 16 then ⟨#[98]⟩ else if k = 17 then ⟨#[110, 98]⟩ else if k = 18 then ⟨#[97, 98]⟩ else ⟨#[]⟩
set_option maxRecDepth 100000 in
set_option maxHeartbeats 4000000 in
theorem fields_any (k : Int) (h0 : 0 ≤ k) (h1 : k ≤ 19) (w : World) :
    Calls Try.prog 41 #[.int .i64 k] w fun e w' => e = .returned (.string (fstr k)) ∧ w = w' := by
  have h : k = 0 ∨ k = 1 ∨ k = 2 ∨ k = 3 ∨ k = 4 ∨ k = 5 ∨ k = 6 ∨ k = 7 ∨ k = 8 ∨ k = 9 ∨ k = 10 ∨ k = 11 ∨ k = 12 ∨ k = 13 ∨ k = 14 ∨ k = 15 ∨ k = 16 ∨ k = 17 ∨ k = 18 ∨ k = 19 := by omega
  rcases h with rfl | rfl | rfl | rfl | rfl | rfl | rfl | rfl | rfl | rfl | rfl | rfl | rfl | rfl | rfl | rfl | rfl | rfl | rfl | rfl
  · go_enter Try.func41, Try.ntmps41
    go_wp2_with fail
    go_ret
    exact ⟨rfl, rfl⟩
  · go_enter Try.func41, Try.ntmps41
    go_wp2_with fail
    go_ret
    exact ⟨rfl, rfl⟩
  · go_enter Try.func41, Try.ntmps41
    go_wp2_with fail
    go_ret
    exact ⟨rfl, rfl⟩
  · go_enter Try.func41, Try.ntmps41
    go_wp2_with fail
    go_ret
    exact ⟨rfl, rfl⟩
  · go_enter Try.func41, Try.ntmps41
    go_wp2_with fail
    go_ret
    exact ⟨rfl, rfl⟩
  · go_enter Try.func41, Try.ntmps41
    go_wp2_with fail
    go_ret
    exact ⟨rfl, rfl⟩
  · go_enter Try.func41, Try.ntmps41
    go_wp2_with fail
    go_ret
    exact ⟨rfl, rfl⟩
  · go_enter Try.func41, Try.ntmps41
    go_wp2_with fail
    go_ret
    exact ⟨rfl, rfl⟩
  · go_enter Try.func41, Try.ntmps41
    go_wp2_with fail
    go_ret
    exact ⟨rfl, rfl⟩
  · go_enter Try.func41, Try.ntmps41
    go_wp2_with fail
    go_ret
    exact ⟨rfl, rfl⟩
  · go_enter Try.func41, Try.ntmps41
    go_wp2_with fail
    go_ret
    exact ⟨rfl, rfl⟩
  · go_enter Try.func41, Try.ntmps41
    go_wp2_with fail
    go_ret
    exact ⟨rfl, rfl⟩
  · go_enter Try.func41, Try.ntmps41
    go_wp2_with fail
    go_ret
    exact ⟨rfl, rfl⟩
  · go_enter Try.func41, Try.ntmps41
    go_wp2_with fail
    go_ret
    exact ⟨rfl, rfl⟩
  · go_enter Try.func41, Try.ntmps41
    go_wp2_with fail
    go_ret
    exact ⟨rfl, rfl⟩
  · go_enter Try.func41, Try.ntmps41
    go_wp2_with fail
    go_ret
    exact ⟨rfl, rfl⟩
  · go_enter Try.func41, Try.ntmps41
    go_wp2_with fail
    go_ret
    exact ⟨rfl, rfl⟩
  · go_enter Try.func41, Try.ntmps41
    go_wp2_with fail
    go_ret
    exact ⟨rfl, rfl⟩
  · go_enter Try.func41, Try.ntmps41
    go_wp2_with fail
    go_ret
    exact ⟨rfl, rfl⟩
  · go_enter Try.func41, Try.ntmps41
    go_wp2_with fail
    go_ret
    exact ⟨rfl, rfl⟩

def hasC (s : ByteArray) (c : Int) : Bool := s.data.toList.any fun x => decide ((x.toNat : Int) = c)
theorem fstr_size (k : Int) (h0 : 0 ≤ k) (h1 : k ≤ 19) : (fstr k).size ≤ 3 := by
  have h : k = 0 ∨ k = 1 ∨ k = 2 ∨ k = 3 ∨ k = 4 ∨ k = 5 ∨ k = 6 ∨ k = 7 ∨ k = 8 ∨ k = 9 ∨ k = 10 ∨ k = 11 ∨ k = 12 ∨ k = 13 ∨ k = 14 ∨ k = 15 ∨ k = 16 ∨ k = 17 ∨ k = 18 ∨ k = 19 := by omega
  rcases h with rfl | rfl | rfl | rfl | rfl | rfl | rfl | rfl | rfl | rfl | rfl | rfl | rfl | rfl | rfl | rfl | rfl | rfl | rfl | rfl <;> decide
theorem has_fields (k : Int) (h0 : 0 ≤ k) (h1 : k ≤ 19) : hasC (fstr k) 119 = hasW k ∧ hasC (fstr k) 107 = hasK k ∧ hasC (fstr k) 110 = hasN k ∧ hasC (fstr k) 97 = hasA k ∧ hasC (fstr k) 121 = hasY k ∧ hasC (fstr k) 98 = hasB k := by
  have h : k = 0 ∨ k = 1 ∨ k = 2 ∨ k = 3 ∨ k = 4 ∨ k = 5 ∨ k = 6 ∨ k = 7 ∨ k = 8 ∨ k = 9 ∨ k = 10 ∨ k = 11 ∨ k = 12 ∨ k = 13 ∨ k = 14 ∨ k = 15 ∨ k = 16 ∨ k = 17 ∨ k = 18 ∨ k = 19 := by omega
  rcases h with rfl | rfl | rfl | rfl | rfl | rfl | rfl | rfl | rfl | rfl | rfl | rfl | rfl | rfl | rfl | rfl | rfl | rfl | rfl | rfl <;> decide
theorem hasC_yes {s : ByteArray} {c : Int} {k : Nat} (hk : k < s.size) (h : ((s[k]'hk).toNat : Int) = c) : hasC s c = true := by
  unfold hasC
  rw [List.any_eq_true]
  exact ⟨s.data[k]'hk, Array.getElem_mem_toList _, by simpa using (show ((s.data[k]'hk).toNat : Int) = c from h)⟩
theorem hasC_no {s : ByteArray} {c : Int} {n : Nat} (hn : s.size = n) (h : ∀ k (hk : k < s.size), k < n → ((s[k]'hk).toNat : Int) ≠ c) : hasC s c = false := by
  unfold hasC
  rw [List.any_eq_false]
  intro x hx
  obtain ⟨k, hk, rfl⟩ := List.getElem_of_mem hx
  have hk2 : k < s.size := by simpa using hk
  have : ((s.data[k]'hk2).toNat : Int) ≠ c := h k hk2 (by omega)
  simpa using this

theorem has_next {s : ByteArray} {c : Int} {j : Nat} (h : ∀ k (hk : k < s.size), k < j → ((s[k]'hk).toNat : Int) ≠ c) (hp : j < s.size) (hc : ((s[j]'hp).toNat : Int) ≠ c) : ∀ k (hk : k < s.size), k < j + 1 → ((s[k]'hk).toNat : Int) ≠ c := by
  intro k hk hlt
  rcases (show k < j ∨ k = j by omega) with h1 | rfl
  · exact h k hk h1
  · exact hc

set_option maxRecDepth 100000 in
set_option maxHeartbeats 4000000 in
theorem has_any (k c : Int) (h0 : 0 ≤ k) (h1 : k ≤ 19) (w : World) :
    Calls Try.prog 28 #[.int .i64 k, .int .u8 c] w fun e w' => e = .returned (.bool (hasC (fstr k) c)) ∧ w = w' := by
  go_enter Try.func28, Try.ntmps28
  go_wp2_with fail
  refine (fields_any k h0 h1 _).mono ?_
  rintro e w1 ⟨rfl, rfl⟩
  obtain ⟨s, hs⟩ : ∃ s, s = fstr k := ⟨_, rfl⟩
  have hs3 : s.size ≤ 3 := by rw [hs]; exact fstr_size k h0 h1
  have HS := Lib.hid hs
  rw [← hs]
  clear hs
  obtain ⟨n, hn⟩ : ∃ n, s.size = n := ⟨_, rfl⟩
  have HN := Lib.hid hn
  rw [hn] at hs3
  go_wp2_with fail
  go_loopw [6] (fun i wr => ∃ j : Nat, j ≤ n ∧ i = .int .i64 j ∧ (∀ k (hk : k < s.size), k < j → ((s[k]'hk).toNat : Int) ≠ c) ∧ w = wr) (fun i _ => n - (intOf i).toNat)
  case atStart => exact ⟨0, by omega, rfl, fun k hk h => absurd h (by omega), rfl⟩
  case round =>
    obtain ⟨j, hj, rfl, hno, rfl⟩ := hrel
    have HNO := Lib.hid hno
    clear hno
    by_cases hlt : j < n
    · have hp : j < s.size := by omega
      by_cases hc : ((s[j]'hp).toNat : Int) = c
      · have hr := Lib.hid (hasC_yes hp hc)
        go_wp2_with fail
        go_ret
        exact ⟨by rw [← HS.out, hr.out]; rfl, rfl⟩
      · have hst := Lib.hid (has_next HNO.out (by omega) (fun h => hc h))
        have hq : (((s[j]'hp).toNat : Int) == c) = false := by simpa using hc
        clear hc
        go_wp2_with fail
        go_roundw
        case rel => exact ⟨j + 1, by omega, by go_num, hst.out, trivial⟩
        case measure => simp [intOf] <;> omega
    · obtain rfl : j = n := by omega
      have hr := Lib.hid (hasC_no HN.out HNO.out)
      go_wp2_with fail
      go_ret
      exact ⟨by rw [← HS.out, hr.out]; rfl, rfl⟩
end Go.Proofs.Ythlgagjnlnakkaa
