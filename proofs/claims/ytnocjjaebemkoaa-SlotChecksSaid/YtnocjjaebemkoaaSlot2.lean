/- Slots: pages that may be. -/
import Derived.Test.YtnocjjaebemkoaaSlot1
namespace Go.Proofs.Ytnocjjaebemkoaa
open Go.RowKit

/-- May a page be, of whatever class and length. -/
def mayP (c : Int) (p : List UInt8) : Bool := decide (p.length = 256) && (decide (sizeI c ≠ 0) && checkP (sizeI c + 8).toNat (slotsI c).toNat p)
theorem mayP_class {c : Int} {z N : Nat} (hc : ClassOK c z N) {p : List UInt8} (hp : p.length = 256) : mayP c p = checkP z N p := by
  have h1 := hc.size
  have h2 := hc.slots
  have h3 := hc.z16
  unfold mayP
  rw [h1, h2, decide_eq_true hp, decide_eq_true (by omega : sizeI c ≠ 0)]
  simp
theorem mayP_len {c : Int} {p : List UInt8} (hp : p.length ≠ 256) : mayP c p = false := by
  unfold mayP
  rw [decide_eq_false hp, Bool.false_and]
theorem mayP_size {c : Int} {p : List UInt8} (h : sizeI c = 0) : mayP c p = false := by
  unfold mayP
  rw [h]
  simp
/-- The first windows may be. -/
def winsOK (z : Nat) (p : List UInt8) (k : Nat) : Bool := (List.range k).all fun j => mayW (win z p j)
theorem winsOK_step {z : Nat} {p : List UInt8} {k : Nat} : winsOK z p (k + 1) = (winsOK z p k && mayW (win z p k)) := by
  unfold winsOK
  rw [List.range_succ, List.all_append]
  simp
theorem winsOK_no {z N : Nat} {p : List UInt8} {k : Nat} (hk : k < N) (h : mayW (win z p k) = false) : checkP z N p = false := by
  unfold checkP
  have : ((List.range N).all fun j => mayW (win z p j)) = false := by
    rw [List.all_eq_false]
    exact ⟨k, List.mem_range.2 hk, by rw [h]; simp⟩
  rw [this, Bool.false_and]

set_option maxHeartbeats 2000000 in
theorem check_any (A : Option Addr) (n cp : Nat) (p : List UInt8) (c : Int) (w : World) (hr : Rd w A n p) (hn : n ≤ cp) (hcp : cp ≤ maxLen) :
    Calls Try.prog 31 #[.slice A n cp, .int .i64 c] w fun e w' => e = .returned (.int .i64 (if mayP c p = true then 0 else 4)) ∧ w = w' := by
  have hlen := hr.len
  obtain ⟨M, hM⟩ : ∃ M, M = mayP c p := ⟨_, rfl⟩
  rw [← hM]
  by_cases h256 : n = 256
  · subst h256
    by_cases hs : sizeI c = 0
    · rw [mayP_size hs] at hM
      subst hM
      have hS := size_any c w
      rw [hs] at hS
      go_enter Try.func31, Try.ntmps31
      go_wp2_with fail
      refine hS.mono ?_
      rintro e w1 ⟨rfl, rfl⟩
      go_wp2_with fail
      go_ret
      exact ⟨rfl, rfl⟩
    · obtain ⟨z, N, hc⟩ := ClassOK.of c hs
      rw [mayP_class hc hlen] at hM
      have HM := Lib.hid hM
      have hS := size_any c w
      have hN := slots_any c w
      rw [hc.slots] at hN
      obtain ⟨S, hS0⟩ : ∃ S, S = sizeI c := ⟨_, rfl⟩
      rw [← hS0] at hS hs
      clear hM hS0
      obtain ⟨b, off, rfl, hb, _⟩ := hr.2 (by omega)
      have hz1 := hc.z128
      have hz2 := hc.z16
      have hN1 := hc.few
      go_enter Try.func31, Try.ntmps31
      go_wp2_with fail
      refine hS.mono ?_
      rintro e w1 ⟨rfl, rfl⟩
      go_wp2_with fail
      refine hN.mono ?_
      rintro e w1 ⟨rfl, rfl⟩
      go_wp2_with fail
      go_loop [5, 18] (fun en i => ∃ k : Nat, k ≤ N ∧ i = .int .i64 k ∧ en = .int .i64 ((k * z : Nat) : Int) ∧ Hid (winsOK z p k = true)) (fun _ i => N - (intOf i).toNat)
      case atStart => exact ⟨0, by omega, rfl, by simp, Lib.hid rfl⟩
      case round =>
        obtain ⟨k, hk, rfl, rfl, hG⟩ := hrel
        by_cases hlt : k < N
        · have hfit := hc.at_ hlt
          have hW := window_yes hc b off cp k w hlt (by omega)
          have hMw := may_any b (off + k * z) z (win z p k) w (hr.win k hfit (by omega)) hz2 (by omega)
          obtain ⟨K, hK⟩ : ∃ K, K = k * z := ⟨_, rfl⟩
          rw [← hK] at hfit hW hMw ⊢
          have HK := Lib.hid hK
          clear hK
          cases hq : mayW (win z p k) with
          | false =>
            rw [hq] at hMw
            have hF : M = false := by rw [HM.out]; exact winsOK_no hlt hq
            subst hF
            clear hq HM
            go_wp2_with fail
            refine hW.mono ?_
            rintro e w1 ⟨rfl, rfl⟩
            go_wp2_with fail
            refine hMw.mono ?_
            rintro e w1 ⟨rfl, rfl⟩
            go_wp2_with fail
            go_ret
            exact ⟨rfl, rfl⟩
          | true =>
            rw [hq] at hMw
            have hG' : winsOK z p (k + 1) = true := by rw [winsOK_step, hG.out, hq]; rfl
            have HG := Lib.hid hG'
            clear hq hG hG'
            go_wp2_with fail
            refine hW.mono ?_
            rintro e w1 ⟨rfl, rfl⟩
            go_wp2_with fail
            refine hMw.mono ?_
            rintro e w1 ⟨rfl, rfl⟩
            go_wp2_with fail
            go_round
            case rel => exact ⟨k + 1, by omega, by go_num, by rw [Nat.add_mul, ← HK.out]; simp, HG⟩
            case measure => simp [intOf] <;> omega
        · obtain rfl : k = N := by omega
          have hfit := hc.fit
          obtain ⟨K, hK⟩ : ∃ K, K = k * z := ⟨_, rfl⟩
          have hMz : M = zeroB (p.drop K) := by
            rw [HM.out, hK]
            have := hG.out
            unfold winsOK at this
            unfold checkP
            rw [this, Bool.true_and]
          rw [← hK] at hfit ⊢
          clear hK HM hc hN hS
          by_cases h : cp = K
          · obtain rfl : K = 256 := by omega
            subst h
            have HZ := zero_any (some ⟨b, off, none⟩) 0 0 [] w Rd.nil (by unfold maxLen; omega)
            have e1 : zeroB [] = M := by rw [hMz, List.drop_of_length_le (by omega)]
            rw [e1] at HZ
            clear hMz e1
            cases M with
            | false =>
              go_wp2_with fail
              refine HZ.mono ?_
              rintro e w1 ⟨rfl, rfl⟩
              go_wp2_with fail
              go_ret
              exact ⟨rfl, rfl⟩
            | true =>
              go_wp2_with fail
              refine HZ.mono ?_
              rintro e w1 ⟨rfl, rfl⟩
              go_wp2_with fail
              go_ret
              exact ⟨rfl, rfl⟩
          · have hcut := hr.cut (k := K) (m := 256) (cap := cp) hfit (Nat.le_refl _) hn
            rw [if_neg h, Option.map_some, addr_add, List.take_of_length_le (by omega)] at hcut
            have HZ := zero_any _ _ (cp - K) _ w hcut (by unfold maxLen; omega)
            rw [← hMz] at HZ
            clear hcut hMz
            cases M with
            | false =>
              go_wp2_with fail
              refine HZ.mono ?_
              rintro e w1 ⟨rfl, rfl⟩
              go_wp2_with fail
              go_ret
              exact ⟨rfl, rfl⟩
            | true =>
              go_wp2_with fail
              refine HZ.mono ?_
              rintro e w1 ⟨rfl, rfl⟩
              go_wp2_with fail
              go_ret
              exact ⟨rfl, rfl⟩
  · rw [mayP_len (by omega)] at hM
    subst hM
    have hq : ((n : Int) != 256) = true := by simp; omega
    go_enter Try.func31, Try.ntmps31
    go_wp2_with fail
    go_ret
    exact ⟨rfl, rfl⟩
end Go.Proofs.Ytnocjjaebemkoaa
