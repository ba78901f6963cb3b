/- Slots: Take. -/
import Derived.Test.YtnocjjaebemkoaaSlot6
namespace Go.Proofs.Ytnocjjaebemkoaa
open Go.RowKit

/-- The first free window. -/
def noneFree (z : Nat) (p : List UInt8) (k : Nat) : Prop := ∀ j, j < k → freeW (win z p j) = false
theorem noneFree_step {z : Nat} {p : List UInt8} {k : Nat} (h : noneFree z p k) (hk : freeW (win z p k) = false) : noneFree z p (k + 1) := by
  intro j hj
  rcases Nat.lt_or_ge j k with h1 | h1
  · exact h j h1
  · obtain rfl : j = k := by omega
    exact hk
set_option maxHeartbeats 4000000 in
theorem take_full {c : Int} {z N : Nat} (hc : ClassOK c z N) (A : Option Addr) (cp : Nat) (p : List UInt8) (s : Int) (m : Nat) (w : World) (hr : Rd w A 256 p) (hn : 256 ≤ cp) (hcp : cp ≤ maxLen) (hm : mayP c p = true) (hnf : noneFree z p N) (hs1 : 1 ≤ s) (hs2 : s ≤ 281474976710655) (hm1 : 1 ≤ m) (hm2 : m + 8 ≤ z) :
    Calls Try.prog 23 #[.slice A 256 cp, .int .i64 c, .int .u64 s, .int .i64 m] w (ErrT 5 w) := by
  have hC := check_any A 256 cp p c w hr hn hcp
  rw [hm, if_pos rfl] at hC
  have hlen := hr.len
  have hCl := clone_any A 256 cp p w hr (by omega)
  have hS := fun W => size_any c W
  have hN := fun W => slots_any c W
  have hz1 := hc.z128
  have hz2 := hc.z16
  have hN1 := hc.few
  have hcz := hc.size
  rw [hc.slots] at hN
  obtain ⟨S, hS0⟩ : ∃ S, S = sizeI c := ⟨_, rfl⟩
  rw [← hS0] at hS hcz
  have HNF := Lib.hid hnf
  clear hm hS0 hnf
  go_enter Try.func23, Try.ntmps23
  go_wp2_with fail
  refine hC.mono ?_
  rintro e w1 ⟨rfl, rfl⟩
  go_wp2_with fail
  refine (hS _).mono ?_
  rintro e w2 ⟨rfl, rfl⟩
  go_wp2_with fail
  refine hCl.mono ?_
  rintro e w1 ⟨v1, rfl, hF1, hb1⟩
  obtain ⟨A1, c1, rfl, hR1, hown1, hn1, hm1⟩ := hF1.rdn 256 hlen
  obtain ⟨g, cur, rfl, hbg, hBlk, hcs, hcc, _⟩ := hF1.open_ hlen (by omega)
  go_wp2_with fail
  refine (hN _).mono ?_
  rintro e w2 ⟨rfl, rfl⟩
  go_wp2_with fail
  clear hC hCl hS hN
  go_loop [41] (fun i => ∃ j : Nat, j ≤ N ∧ i = .int .i64 j) (fun i => N - (intOf i).toNat)
  case atStart => exact ⟨0, by omega, rfl⟩
  case round =>
    obtain ⟨j, hj, rfl⟩ := hrel
    by_cases hlt : j < N
    · have hqf := HNF.out j hlt
      have hfit := hc.at_ hlt
      have hW := window_yes hc g 0 c1 j w1 hlt (by omega)
      have hFr := free_any g (0 + j * z) z z (win z p j) w1 (hR1.win j hfit (by omega)) (by omega) (Nat.le_refl _) (by omega)
      rw [hqf] at hFr
      rw [Nat.zero_add] at hW hFr
      obtain ⟨K, hK⟩ : ∃ K, K = j * z := ⟨_, rfl⟩
      rw [← hK] at hW hFr
      clear hK hqf
      go_wp2_with fail
      refine hW.mono ?_
      rintro e w2 ⟨rfl, rfl⟩
      go_wp2_with fail
      refine hFr.mono ?_
      rintro e w2 ⟨rfl, rfl⟩
      go_wp2_with fail
      go_round
      case rel => exact ⟨j + 1, by omega, by go_num⟩
      case measure => simp [intOf] <;> omega
    · obtain rfl : j = N := by omega
      go_wp2_with fail
      go_ret3
      exact ⟨rfl, hb1⟩
set_option maxHeartbeats 4000000 in
theorem take_yes {c : Int} {z N : Nat} (hc : ClassOK c z N) (A : Option Addr) (cp : Nat) (p : List UInt8) (s : Int) (k m : Nat) (w : World) (hr : Rd w A 256 p) (hn : 256 ≤ cp) (hcp : cp ≤ maxLen) (hm : mayP c p = true) (hk : k < N) (hnf : noneFree z p k) (hf : freeW (win z p k) = true) (hs1 : 1 ≤ s) (hs2 : s ≤ 281474976710655) (hm1 : 1 ≤ m) (hm2 : m + 8 ≤ z) :
    Calls Try.prog 23 #[.slice A 256 cp, .int .i64 c, .int .u64 s, .int .i64 m] w (GivesT 5 (layL p (k * z) (putL 2 (m : Int) ++ putL 6 s)) k w) := by
  have hC := check_any A 256 cp p c w hr hn hcp
  rw [hm, if_pos rfl] at hC
  have hlen := hr.len
  have hCl := clone_any A 256 cp p w hr (by omega)
  have hS := fun W => size_any c W
  have hN := fun W => slots_any c W
  have hz1 := hc.z128
  have hz2 := hc.z16
  have hN1 := hc.few
  have hcz := hc.size
  rw [hc.slots] at hN
  obtain ⟨S, hS0⟩ : ∃ S, S = sizeI c := ⟨_, rfl⟩
  rw [← hS0] at hS hcz
  have HNF := Lib.hid hnf
  have HFF := Lib.hid hf
  clear hm hS0 hnf hf
  obtain ⟨PF, hPF⟩ : ∃ PF, PF = layL p (k * z) (putL 2 (m : Int) ++ putL 6 s) := ⟨_, rfl⟩
  rw [← hPF]
  have HPF := Lib.hid hPF
  clear hPF
  go_enter Try.func23, Try.ntmps23
  go_wp2_with fail
  refine hC.mono ?_
  rintro e w1 ⟨rfl, rfl⟩
  go_wp2_with fail
  refine (hS _).mono ?_
  rintro e w2 ⟨rfl, rfl⟩
  go_wp2_with fail
  refine hCl.mono ?_
  rintro e w1 ⟨v1, rfl, hF1, hb1⟩
  obtain ⟨A1, c1, rfl, hR1, hown1, hn1, hm1⟩ := hF1.rdn 256 hlen
  obtain ⟨g, cur, rfl, hbg, hBlk, hcs, hcc, _⟩ := hF1.open_ hlen (by omega)
  go_wp2_with fail
  refine (hN _).mono ?_
  rintro e w2 ⟨rfl, rfl⟩
  go_wp2_with fail
  clear hC hCl hS hN
  go_loop [41] (fun i => ∃ j : Nat, j ≤ k ∧ i = .int .i64 j) (fun i => N - (intOf i).toNat)
  case atStart => exact ⟨0, by omega, rfl⟩
  case round =>
    obtain ⟨j, hj, rfl⟩ := hrel
    by_cases hlt : j < k
    · have hqf := HNF.out j hlt
      have hjk := hlt
      replace hlt : j < N := by omega
      have hfit := hc.at_ hlt
      have hW := window_yes hc g 0 c1 j w1 hlt (by omega)
      have hFr := free_any g (0 + j * z) z z (win z p j) w1 (hR1.win j hfit (by omega)) (by omega) (Nat.le_refl _) (by omega)
      rw [hqf] at hFr
      rw [Nat.zero_add] at hW hFr
      obtain ⟨K, hK⟩ : ∃ K, K = j * z := ⟨_, rfl⟩
      rw [← hK] at hW hFr
      clear hK hqf
      go_wp2_with fail
      refine hW.mono ?_
      rintro e w2 ⟨rfl, rfl⟩
      go_wp2_with fail
      refine hFr.mono ?_
      rintro e w2 ⟨rfl, rfl⟩
      go_wp2_with fail
      go_round
      case rel => exact ⟨j + 1, by omega, by go_num⟩
      case measure => simp [intOf] <;> omega
    · obtain rfl : j = k := by omega
      have hfit := hc.at_ hk
      have hW := window_yes hc g 0 c1 j w1 hk (by omega)
      have hFr := free_any g (0 + j * z) z z (win z p j) w1 (hR1.win j hfit (by omega)) (by omega) (Nat.le_refl _) (by omega)
      rw [HFF.out] at hFr
      rw [Nat.zero_add] at hW hFr
      have hPF := HPF.out
      obtain ⟨K, hK⟩ : ∃ K, K = j * z := ⟨_, rfl⟩
      rw [← hK] at hW hFr hPF hfit
      clear hK HPF
      go_wp2_with fail
      refine hW.mono ?_
      rintro e w2 ⟨rfl, rfl⟩
      go_wp2_with fail
      refine hFr.mono ?_
      rintro e w2 ⟨rfl, rfl⟩
      clear hW hFr
      go_wp2_with fail
      refine (put_any 2 (m : Int) w1 (by omega) (by omega) (by omega) (by omega)).mono ?_
      rintro e w2 ⟨v2, rfl, hF2, hb2⟩
      obtain ⟨A2, c2, rfl, hR2, _, hn2, hm2'⟩ := hF2.rdn 2 (putL_len _ _)
      go_wp2_with fail
      refine (put_any 6 s w2 (by omega) (by omega) (by omega) (by omega)).mono ?_
      rintro e w3 ⟨v3, rfl, hF3, hb3⟩
      obtain ⟨A3, c3, rfl, hR3, _, hn3, hm3'⟩ := hF3.rdn 6 (putL_len _ _)
      replace hR2 := hR2.below hb3
      have hb13 := hb2.trans (hb3.mono hb2.size)
      clear hF2 hF3
      go_wp2_with fail
      have hfl : [putL 2 (m : Int), putL 6 s].flatten = putL 2 (m : Int) ++ putL 6 s := by simp
      have hll : (putL 2 (m : Int) ++ putL 6 s).length = 8 := by simp [putL_len]
      refine (concat_any _ 2 _ [putL 2 (m : Int), putL 6 s] _ (RdSS.of_blk (cs := #[.slice A2 2 c2, .slice A3 6 c3]) (Blk.new _ _ _) ⟨⟨_, _, _, rfl, hR2.alloc _, by omega, by omega⟩, ⟨_, _, _, rfl, hR3.alloc _, by omega, by omega⟩, trivial⟩ rfl) (by omega) (by rw [hfl, hll]; omega)).mono ?_
      rintro e w4 ⟨v4, rfl, hF4, hb4⟩
      rw [hfl] at hF4
      obtain ⟨A4, c4, rfl, hR4, _, hn4, hm4'⟩ := hF4.rdn 8 hll
      have hb14 : Below w1.heap.size w1 w4 := (by (have q_hb4 := Below.size hb4; (try simp at q_hb4); have q_hb13 := Below.size hb13; (try simp at q_hb13); repeat (first | exact Below.refl _ _ | (refine Below.trans ?_ (Below.mono hb4 (by first | omega | (simp; omega) | simp))) | (refine Below.trans ?_ (Below.mono hb13 (by first | omega | (simp; omega) | simp))) | (refine Below.setCell ?_ (by first | omega | (simp; omega) | simp) _) | (refine Below.alloc ?_ (by first | omega | (simp; omega) | simp) _) | apply Below.drew | apply below_drewN)))
      replace hF1 := hF1.below hb14
      have hb := hb1.trans (hb14.mono hb1.size)
      replace hBlk := hBlk.on hb14
      have hF5 := hF1.lay_ hlen rfl hBlk K (putL 2 (m : Int) ++ putL 6 s) (by omega)
      have hcpy := run_copy_bytes (P := Try.prog) hBlk hR4 Try.underlying32 info8 3 K z z c4 (by omega)
      rw [List.take_of_length_le (by omega)] at hcpy
      rw [← hPF] at hF5
      have hb5 := Below.row hb hbg (lay cur K (putL 2 (m : Int) ++ putL 6 s))
      clear hPF hfl hF4 hF1
      obtain ⟨R, hR⟩ : ∃ R, R = putL 2 (m : Int) ++ putL 6 s := ⟨_, rfl⟩
      rw [← hR] at hF5 hcpy hb5
      clear hR
      go_wp2_with fail
      go_ret3
      exact ⟨_, rfl, hF5, hb5⟩
end Go.Proofs.Ytnocjjaebemkoaa
