/- Slots: a window, and what it tells. -/
import Derived.Test.YtnocjjaebemkoaaSlotM
import Derived.Test.YtnocjjaebemkoaaClass2
import Derived.Test.YtnocjjaebemkoaaKept
namespace Go.Proofs.Ytnocjjaebemkoaa
open Go.RowKit

/-- A class: N slots of z bytes. -/
structure ClassOK (c : Int) (z N : Nat) : Prop where
  size : sizeI c + 8 = z
  slots : slotsI c = N
  z16 : 16 ≤ z
  z128 : z ≤ 128
  fit : N * z ≤ 256
  pos : 1 ≤ N
  few : N ≤ 16
theorem ClassOK.of (c : Int) (h : sizeI c ≠ 0) : ∃ z N, ClassOK c z N := by
  rcases classes c with h1 | rfl | rfl | rfl | rfl | rfl | rfl | rfl | rfl
  · exact absurd (sizeI_out c h1) h
  · exact ⟨16, 16, ⟨rfl, rfl, by decide, by decide, by decide, by decide, by decide⟩⟩
  · exact ⟨24, 10, ⟨rfl, rfl, by decide, by decide, by decide, by decide, by decide⟩⟩
  · exact ⟨32, 8, ⟨rfl, rfl, by decide, by decide, by decide, by decide, by decide⟩⟩
  · exact ⟨40, 6, ⟨rfl, rfl, by decide, by decide, by decide, by decide, by decide⟩⟩
  · exact ⟨56, 4, ⟨rfl, rfl, by decide, by decide, by decide, by decide, by decide⟩⟩
  · exact ⟨72, 3, ⟨rfl, rfl, by decide, by decide, by decide, by decide, by decide⟩⟩
  · exact ⟨104, 2, ⟨rfl, rfl, by decide, by decide, by decide, by decide, by decide⟩⟩
  · exact ⟨128, 2, ⟨rfl, rfl, by decide, by decide, by decide, by decide, by decide⟩⟩
theorem ClassOK.at_ {c : Int} {z N : Nat} (h : ClassOK c z N) {k : Nat} (hk : k < N) : k * z + z ≤ 256 := by
  have h1 : (k + 1) * z ≤ N * z := Nat.mul_le_mul_right z hk
  have := h.fit
  rw [Nat.add_mul] at h1; omega

set_option maxHeartbeats 1000000 in
theorem window_yes {c : Int} {z N : Nat} (hc : ClassOK c z N) (b off cp k : Nat) (w : World) (hk : k < N) (hcp : 256 ≤ cp) :
    Calls Try.prog 39 #[.slice (some ⟨b, off, none⟩) 256 cp, .int .i64 c, .int .i64 k] w fun e w' => e = .returned (.slice (some ⟨b, off + k * z, none⟩) z z) ∧ w = w' := by
  have hfit := hc.at_ hk
  obtain ⟨K, hK⟩ : ∃ K, K = k * z := ⟨_, rfl⟩
  rw [← hK] at hfit ⊢
  have hp := place_yes' c k w (by omega) (by rw [hc.slots]; omega)
  rw [hc.size, show (k : Int) * (z : Int) = (K : Int) from by rw [hK]; push_cast; rfl] at hp
  have h16 := hc.z16
  clear hK hc
  go_enter Try.func39, Try.ntmps39
  go_wp2_with fail
  refine hp.mono ?_
  rintro e w1 ⟨rfl, rfl⟩
  go_wp2_with fail
  go_ret
  exact ⟨by rw [Nat.add_sub_cancel_left]; rfl, rfl⟩
theorem window_no {c : Int} (k : Int) (v : Value) (w : World) (hk : k < 0 ∨ slotsI c ≤ k) :
    Calls Try.prog 39 #[v, .int .i64 c, .int .i64 k] w fun e w' => e = .returned (.slice none 0 0) ∧ w = w' := by
  go_enter Try.func39, Try.ntmps39
  go_wp2_with fail
  refine (place_no' c k w hk).mono ?_
  rintro e w1 ⟨rfl, rfl⟩
  go_wp2_with fail
  go_ret
  exact ⟨rfl, rfl⟩
theorem addr_add (b off j : Nat) : (⟨b, off, none⟩ : Addr).add (j * 1) = ⟨b, off + j, none⟩ := by unfold Addr.add; split <;> simp_all
theorem Rd.head {w : World} {A : Option Addr} {n : Nat} {l : List UInt8} (h : Rd w A n l) (k : Nat) (hk : k ≤ n) : Rd w A k (l.take k) := by
  have hlen := h.len
  refine ⟨by rw [List.length_take]; omega, fun hk0 => ?_⟩
  obtain ⟨b, off, hA, hb, hc⟩ := h.2 (by omega)
  exact ⟨b, off, hA, hb, fun j c hj => hc j c (by rw [List.getElem?_take] at hj; split at hj; exact hj; cases hj)⟩
/-- The window's bytes. -/
theorem Rd.win {w : World} {b off z : Nat} {p : List UInt8} (h : Rd w (some ⟨b, off, none⟩) 256 p) (k : Nat) (hk : k * z + z ≤ 256) (hz : 0 < z) : Rd w (some ⟨b, off + k * z, none⟩) z (win z p k) := by
  have h1 := h.cut (k := k * z) (m := k * z + z) (cap := k * z + z) (by omega) hk (Nat.le_refl _)
  rw [if_neg (by omega), Nat.add_sub_cancel_left] at h1
  rw [Option.map_some, addr_add] at h1
  exact h1

set_option maxHeartbeats 1000000 in
theorem free_any (b off n cp : Nat) (l : List UInt8) (w : World) (hr : Rd w (some ⟨b, off, none⟩) n l) (h8 : 8 ≤ n) (hn : n ≤ cp) (hcm : n ≤ 1000) :
    Calls Try.prog 40 #[.slice (some ⟨b, off, none⟩) n cp] w fun e w' => e = .returned (.bool (freeW l)) ∧ w = w' := by
  go_enter Try.func40, Try.ntmps40
  go_wp2_with fail
  refine (zero_any _ _ _ _ _ (hr.head 8 h8) (by unfold maxLen; omega)).mono ?_
  rintro e w1 ⟨rfl, rfl⟩
  go_wp2_with fail
  go_ret
  exact ⟨rfl, rfl⟩
theorem lenW_lt (l : List UInt8) : lenW l < 65536 := by
  have h1 := getL_lt (l.take 2)
  have h2 : (l.take 2).length ≤ 2 := by simp; omega
  have h3 : 256 ^ (l.take 2).length ≤ 256 ^ 2 := Nat.pow_le_pow_right (by omega) h2
  unfold lenW
  omega
theorem serW_lt (l : List UInt8) : serW l < 281474976710656 := by
  have h1 := getL_lt ((l.take 8).drop 2)
  have h2 : ((l.take 8).drop 2).length ≤ 6 := by simp; omega
  have h3 : 256 ^ ((l.take 8).drop 2).length ≤ 256 ^ 6 := Nat.pow_le_pow_right (by omega) h2
  unfold serW
  omega
set_option maxHeartbeats 1000000 in
theorem wsize_any (b off n cp : Nat) (l : List UInt8) (w : World) (hr : Rd w (some ⟨b, off, none⟩) n l) (h8 : 8 ≤ n) (hn : n ≤ cp) (hcm : n ≤ 1000) :
    Calls Try.prog 44 #[.slice (some ⟨b, off, none⟩) n cp] w fun e w' => e = .returned (.int .i64 (lenW l : Int)) ∧ w = w' := by
  have hg := get_any (some ⟨b, off, none⟩) 2 cp (l.take 2) w (hr.head 2 (by omega)) (by unfold maxLen; omega)
  rw [List.take_of_length_le (show (l.take 2).length ≤ 8 by simp; omega)] at hg
  have hlt := lenW_lt l
  have hL := Lib.hid (show (getL (l.take 2) : Int) = (lenW l : Int) from rfl)
  rw [hL.out] at hg
  obtain ⟨N, hN⟩ : ∃ N, N = lenW l := ⟨_, rfl⟩
  rw [← hN] at hg hlt ⊢
  clear hN hL
  go_enter Try.func44, Try.ntmps44
  go_wp2_with fail
  refine hg.mono ?_
  rintro e w1 ⟨rfl, rfl⟩
  go_wp2_with fail
  go_ret
  exact ⟨rfl, rfl⟩
set_option maxHeartbeats 1000000 in
theorem serial_any (b off n cp : Nat) (l : List UInt8) (w : World) (hr : Rd w (some ⟨b, off, none⟩) n l) (h8 : 8 ≤ n) (hn : n ≤ cp) (hcm : n ≤ 1000) :
    Calls Try.prog 47 #[.slice (some ⟨b, off, none⟩) n cp] w fun e w' => e = .returned (.int .u64 (serW l : Int)) ∧ w = w' := by
  have h1 := hr.cut (k := 2) (m := 8) (cap := cp) (by omega) h8 (by omega)
  rw [if_neg (by omega)] at h1
  have hg := get_any _ 6 (cp - 2) _ w h1 (by unfold maxLen; omega)
  rw [List.take_of_length_le (show ((l.take 8).drop 2).length ≤ 8 by simp; omega)] at hg
  simp only [Option.map_some, Addr.add] at hg
  have hL := Lib.hid (show (getL ((l.take 8).drop 2) : Int) = (serW l : Int) from rfl)
  rw [hL.out] at hg
  clear hL
  go_enter Try.func47, Try.ntmps47
  go_wp2_with fail
  refine hg.mono ?_
  rintro e w1 ⟨rfl, rfl⟩
  go_wp2_with fail
  go_ret
  exact ⟨rfl, rfl⟩
set_option maxHeartbeats 2000000 in
theorem may_any (b off n : Nat) (l : List UInt8) (w : World) (hr : Rd w (some ⟨b, off, none⟩) n l) (h8 : 16 ≤ n) (hcm : n ≤ 1000) :
    Calls Try.prog 45 #[.slice (some ⟨b, off, none⟩) n n] w fun e w' => e = .returned (.bool (mayW l)) ∧ w = w' := by
  obtain ⟨M, hM⟩ : ∃ M, M = mayW l := ⟨_, rfl⟩
  rw [← hM]
  unfold mayW at hM
  have hlen := hr.len
  have hF := free_any b off n n l w hr (by omega) (Nat.le_refl _) hcm
  obtain ⟨L, hL⟩ : ∃ L, L = lenW l := ⟨_, rfl⟩
  obtain ⟨S, hS⟩ : ∃ S, S = serW l := ⟨_, rfl⟩
  have hls := lenW_lt l
  have hgs := wsize_any b off n n l w hr (by omega) (Nat.le_refl _) hcm
  have hgr := serial_any b off n n l w hr (by omega) (Nat.le_refl _) hcm
  rw [← hL] at hM hls hgs
  rw [← hS] at hM hgr
  clear hL hS
  cases hq : freeW l with
  | true =>
    rw [hq, if_pos rfl] at hM
    rw [hq] at hF
    have HM := Lib.hid hM
    clear hM hq hls hgs hgr
    go_enter Try.func45, Try.ntmps45
    go_wp2_with fail
    refine hF.mono ?_
    rintro e w1 ⟨rfl, rfl⟩
    go_wp2_with fail
    refine (zero_any _ _ _ _ _ hr (by unfold maxLen; omega)).mono ?_
    rintro e w1 ⟨rfl, rfl⟩
    go_wp2_with fail
    go_ret
    exact ⟨by rw [HM.out]; rfl, rfl⟩
  | false =>
    rw [hq, if_neg (by decide)] at hM
    rw [hq] at hF
    have HM := Lib.hid hM
    clear hM hq
    by_cases h1 : 0 < L
    · by_cases h2 : (L : Int) ≤ (n : Int) - 8
      · by_cases h3 : 0 < S
        · have hMz : M = zeroB (l.drop (8 + L)) := by rw [HM.out]; simp [h1, h3]; omega
          rw [hMz]
          clear HM hMz
          by_cases h : n = 8 + L
          · have e1 : l.drop (8 + L) = [] := List.drop_of_length_le (by omega)
            rw [e1]
            have HZ := zero_any (some ⟨b, off, none⟩) 0 0 [] w Rd.nil (by unfold maxLen; omega)
            subst h
            clear e1 hr hlen
            go_enter Try.func45, Try.ntmps45
            go_wp2_with fail
            refine hF.mono ?_
            rintro e w1 ⟨rfl, rfl⟩
            go_wp2_with fail
            refine hgs.mono ?_
            rintro e w1 ⟨rfl, rfl⟩
            go_wp2_with fail
            refine hgr.mono ?_
            rintro e w1 ⟨rfl, rfl⟩
            go_wp2_with fail
            refine HZ.mono ?_
            rintro e w1 ⟨rfl, rfl⟩
            go_wp2_with fail
            go_ret
            exact ⟨rfl, rfl⟩
          · have hcut := hr.cut (k := 8 + L) (m := n) (cap := n) (by omega) (Nat.le_refl _) (Nat.le_refl _)
            rw [if_neg h, Option.map_some, addr_add, List.take_of_length_le (by omega)] at hcut
            have HZ := zero_any _ _ (n - (8 + L)) _ w hcut (by unfold maxLen; omega)
            clear hcut
            go_enter Try.func45, Try.ntmps45
            go_wp2_with fail
            refine hF.mono ?_
            rintro e w1 ⟨rfl, rfl⟩
            go_wp2_with fail
            refine hgs.mono ?_
            rintro e w1 ⟨rfl, rfl⟩
            go_wp2_with fail
            refine hgr.mono ?_
            rintro e w1 ⟨rfl, rfl⟩
            go_wp2_with fail
            refine HZ.mono ?_
            rintro e w1 ⟨rfl, rfl⟩
            go_wp2_with fail
            go_ret
            exact ⟨rfl, rfl⟩
        · have hMz : M = false := by rw [HM.out]; simp [h3]
          rw [hMz]
          clear HM hMz
          obtain rfl : S = 0 := by omega
          go_enter Try.func45, Try.ntmps45
          go_wp2_with fail
          refine hF.mono ?_
          rintro e w1 ⟨rfl, rfl⟩
          go_wp2_with fail
          refine hgs.mono ?_
          rintro e w1 ⟨rfl, rfl⟩
          go_wp2_with fail
          refine hgr.mono ?_
          rintro e w1 ⟨rfl, rfl⟩
          go_wp2_with fail
          go_ret
          exact ⟨rfl, rfl⟩
      · have hMz : M = false := by rw [HM.out]; simp; omega
        rw [hMz]
        clear HM hMz hgr
        go_enter Try.func45, Try.ntmps45
        go_wp2_with fail
        refine hF.mono ?_
        rintro e w1 ⟨rfl, rfl⟩
        go_wp2_with fail
        refine hgs.mono ?_
        rintro e w1 ⟨rfl, rfl⟩
        go_wp2_with fail
        go_ret
        exact ⟨rfl, rfl⟩
    · have hMz : M = false := by rw [HM.out]; simp [h1]
      rw [hMz]
      clear HM hMz hgr
      obtain rfl : L = 0 := by omega
      go_enter Try.func45, Try.ntmps45
      go_wp2_with fail
      refine hF.mono ?_
      rintro e w1 ⟨rfl, rfl⟩
      go_wp2_with fail
      refine hgs.mono ?_
      rintro e w1 ⟨rfl, rfl⟩
      go_wp2_with fail
      go_ret
      exact ⟨rfl, rfl⟩
end Go.Proofs.Ytnocjjaebemkoaa
