/- Slots: Free, Resize, Write. -/
import Derived.Test.YtnocjjaebemkoaaSlot4
namespace Go.Proofs.Ytnocjjaebemkoaa
open Go.RowKit

/-- A call that gives a page of its own; one that gives an error. -/
def GivesP (T : TypeId) (p : List UInt8) (w : World) (e : Ending) (w' : World) : Prop := ∃ v, e = .returned (.tuple #[v, .int .i64 0]) ∧ Fresh T w.heap.size w' v p ∧ Below w.heap.size w w'
def ErrP (x : Int) (w : World) (e : Ending) (w' : World) : Prop := e = .returned (.tuple #[.slice none 0 0, .int .i64 x]) ∧ Below w.heap.size w w'

set_option maxHeartbeats 1000000 in
theorem sfree_no (A : Option Addr) (n cp : Nat) (c k x : Int) (w : World) (ho : Calls Try.prog 43 #[.slice A n cp, .int .i64 c, .int .i64 k] w (NoObj x w)) :
    Calls Try.prog 27 #[.slice A n cp, .int .i64 c, .int .i64 k] w (ErrP x w) := by
  have hcl := run_clear_nil (P := Try.prog) Try.underlying32
  go_enter Try.func27, Try.ntmps27
  go_wp2_with fail
  refine ho.mono ?_
  rintro e w1 ⟨rfl, hb1⟩
  go_wp2_with fail
  go_ret2
  exact ⟨rfl, hb1⟩
set_option maxHeartbeats 1000000 in
theorem sfree_yes {c : Int} {z N : Nat} (hc : ClassOK c z N) (A : Option Addr) (cp : Nat) (p : List UInt8) (k : Nat) (w : World) (hr : Rd w A 256 p) (hn : 256 ≤ cp) (hcp : cp ≤ maxLen) (hm : mayP c p = true) (hk : k < N) (hf : freeW (win z p k) = false) :
    Calls Try.prog 27 #[.slice A 256 cp, .int .i64 c, .int .i64 k] w (GivesP 5 (layL p (k * z) (List.replicate z 0)) w) := by
  have hfit := hc.at_ hk
  have hlen := hr.len
  have hO := object_yes hc A cp p k w hr hn hcp hm hk hf
  go_enter Try.func27, Try.ntmps27
  go_wp2_with fail
  refine hO.mono ?_
  rintro e w1 ⟨g, c1, rfl, hF1, hb1⟩
  obtain ⟨g', cur, e1, hbg, hBlk, hcs, hcc, _⟩ := hF1.open_ hlen (by omega)
  obtain rfl : g = g' := by injection e1 with e1; injection e1
  have hF2 := hF1.lay_ hlen rfl hBlk (k * z) (List.replicate z 0) (by rw [List.length_replicate]; exact hfit)
  have hcl := run_clear_bytes (P := Try.prog) Try.underlying32 info8 hBlk (k * z) z z (by omega)
  clear hm hf hO e1
  go_wp2_with fail
  go_ret2
  exact ⟨_, rfl, hF2, Below.row hb1 hbg _⟩

set_option maxHeartbeats 1000000 in
theorem resize_no (A : Option Addr) (n cp : Nat) (c k x m : Int) (w : World) (hx : x = 4 ∨ x = 6) (ho : Calls Try.prog 43 #[.slice A n cp, .int .i64 c, .int .i64 k] w (NoObj x w)) :
    Calls Try.prog 26 #[.slice A n cp, .int .i64 c, .int .i64 k, .int .i64 m] w (ErrP x w) := by
  rcases hx with rfl | rfl
  all_goals
    go_enter Try.func26, Try.ntmps26
    go_wp2_with fail
    refine ho.mono ?_
    rintro e w1 ⟨rfl, hb1⟩
    go_wp2_with fail
    go_ret2
    exact ⟨rfl, hb1⟩
set_option maxHeartbeats 1000000 in
theorem resize_arg {c : Int} {z N : Nat} (hc : ClassOK c z N) (A : Option Addr) (cp : Nat) (p : List UInt8) (k : Nat) (m : Int) (w : World) (hr : Rd w A 256 p) (hn : 256 ≤ cp) (hcp : cp ≤ maxLen) (hm : mayP c p = true) (hk : k < N) (hf : freeW (win z p k) = false) (hm1 : m < 1 ∨ sizeI c < m) :
    Calls Try.prog 26 #[.slice A 256 cp, .int .i64 c, .int .i64 k, .int .i64 m] w (ErrP 1 w) := by
  have hO := object_yes hc A cp p k w hr hn hcp hm hk hf
  have hS := fun W => size_any c W
  clear hm hf
  by_cases h1 : m < 1
  · go_enter Try.func26, Try.ntmps26
    go_wp2_with fail
    refine hO.mono ?_
    rintro e w1 ⟨g, c1, rfl, hF1, hb1⟩
    go_wp2_with fail
    go_ret2
    exact ⟨rfl, hb1⟩
  · have h2 : sizeI c < m := by omega
    go_enter Try.func26, Try.ntmps26
    go_wp2_with fail
    refine hO.mono ?_
    rintro e w1 ⟨g, c1, rfl, hF1, hb1⟩
    go_wp2_with fail
    refine (hS _).mono ?_
    rintro e w2 ⟨rfl, rfl⟩
    go_wp2_with fail
    go_ret2
    exact ⟨rfl, hb1⟩
set_option maxHeartbeats 4000000 in
theorem resize_yes {c : Int} {z N : Nat} (hc : ClassOK c z N) (A : Option Addr) (cp : Nat) (p : List UInt8) (k m : Nat) (w : World) (hr : Rd w A 256 p) (hn : 256 ≤ cp) (hcp : cp ≤ maxLen) (hm : mayP c p = true) (hk : k < N) (hf : freeW (win z p k) = false) (hm1 : 1 ≤ m) (hm2 : m + 8 ≤ z) :
    Calls Try.prog 26 #[.slice A 256 cp, .int .i64 c, .int .i64 k, .int .i64 m] w (GivesP 5 (layL (layL p (k * z) (putL 2 (m : Int))) (k * z + (8 + m)) (List.replicate (z - 8 - m) 0)) w) := by
  have hfit := hc.at_ hk
  have hlen := hr.len
  have hz1 := hc.z128
  have hz2 := hc.z16
  have hO := object_yes hc A cp p k w hr hn hcp hm hk hf
  have hS := fun W => size_any c W
  obtain ⟨S, hS0⟩ : ∃ S, S = sizeI c := ⟨_, rfl⟩
  have hcz := hc.size
  rw [← hS0] at hS hcz
  obtain ⟨K, hK⟩ : ∃ K, K = k * z := ⟨_, rfl⟩
  unfold IsObj at hO
  rw [← hK] at hfit hO ⊢
  obtain ⟨PF, hPF⟩ : ∃ PF, PF = layL (layL p K (putL 2 (m : Int))) (K + (8 + m)) (List.replicate (z - 8 - m) 0) := ⟨_, rfl⟩
  rw [← hPF]
  clear hm hf hS0 hK hc
  go_enter Try.func26, Try.ntmps26
  go_wp2_with fail
  refine hO.mono ?_
  rintro e w1 ⟨g, c1, rfl, hF1, hb1⟩
  clear hO
  go_wp2_with fail
  refine (hS _).mono ?_
  rintro e w2 ⟨rfl, rfl⟩
  go_wp2_with fail
  refine (put_any 2 (m : Int) w1 (by omega) (by omega) (by omega) (by omega)).mono ?_
  rintro e w3 ⟨v3, rfl, hF3, hb3⟩
  obtain ⟨A3, c3, rfl, hR3, _, hn3, hm3⟩ := hF3.rdn 2 (putL_len _ _)
  replace hF1 := hF1.below hb3
  have hb := hb1.trans (hb3.mono hb1.size)
  obtain ⟨g', cur, e1, hbg, hBlk, hcs, hcc, _⟩ := hF1.open_ hlen (by omega)
  obtain rfl : g = g' := by injection e1 with e1; injection e1
  have ht : (putL 2 (m : Int)).take z = putL 2 (m : Int) := List.take_of_length_le (by rw [putL_len]; omega)
  have hF4 := hF1.lay_ hlen rfl hBlk K (putL 2 (m : Int)) (by rw [putL_len]; omega)
  have hcpy := run_copy_bytes (P := Try.prog) hBlk hR3 Try.underlying32 info8 3 K z z c3 (by omega)
  rw [ht] at hcpy
  have hBlk4 := hBlk.row (lay cur K (putL 2 (m : Int)))
  have hsz4 := lay_size cur K (putL 2 (m : Int)) (by rw [putL_len]; omega)
  obtain ⟨cur4, hcur4⟩ : ∃ cur4, cur4 = lay cur K (putL 2 (m : Int)) := ⟨_, rfl⟩
  have hlen4 : (layL p K (putL 2 (m : Int))).length = 256 := by rw [layL_len _ _ _ (by rw [putL_len]; omega)]; exact hlen
  obtain ⟨p4, hp4⟩ : ∃ p4, p4 = layL p K (putL 2 (m : Int)) := ⟨_, rfl⟩
  rw [← hp4] at hF4 hlen4 hPF
  rw [← hcur4] at hF4 hBlk4 hsz4 hcpy
  have hb4 := Below.row hb hbg cur4
  obtain ⟨w4, hw4⟩ : ∃ w4, w4 = w3.setRow g cur4 := ⟨_, rfl⟩
  rw [← hw4] at hF4 hBlk4 hb4 hcpy
  have hF5 := hF4.lay_ hlen4 rfl hBlk4 (K + (8 + m)) (List.replicate (z - 8 - m) 0) (by rw [List.length_replicate]; omega)
  clear hcur4 hp4 hw4 ht e1 hS hF3 hF1
  by_cases h : z = 8 + m
  · subst h
    rw [show 8 + m - 8 - m = 0 from by omega, List.replicate_zero, lay_nil] at hF5
    have hcl := run_clear_bytes (P := Try.prog) Try.underlying32 info8 hBlk4 K 0 0 (by omega)
    rw [List.replicate_zero, lay_nil] at hcl
    rw [show 8 + m - 8 - m = 0 from by omega, List.replicate_zero] at hPF
    rw [← hPF] at hF5
    clear hPF
    have hb5 := Below.row hb4 hbg cur4
    go_wp2_with fail
    go_ret2
    exact ⟨_, rfl, hF5, hb5⟩
  · have hcl := run_clear_bytes (P := Try.prog) Try.underlying32 info8 hBlk4 (K + (8 + m)) (z - (8 + m)) (z - (8 + m)) (by omega)
    rw [show z - 8 - m = z - (8 + m) from by omega] at hF5 hPF
    rw [← hPF] at hF5
    clear hPF
    have hb5 := Below.row hb4 hbg (lay cur4 (K + (8 + m)) (List.replicate (z - (8 + m)) 0))
    obtain ⟨R, hR⟩ : ∃ R, R = List.replicate (z - (8 + m)) (0 : UInt8) := ⟨_, rfl⟩
    rw [← hR] at hF5 hcl hb5
    clear hR
    go_wp2_with fail
    go_ret2
    exact ⟨_, rfl, hF5, hb5⟩
end Go.Proofs.Ytnocjjaebemkoaa
