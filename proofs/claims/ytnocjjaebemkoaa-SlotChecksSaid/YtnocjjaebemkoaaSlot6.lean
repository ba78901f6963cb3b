/- Slots: Write, Take. -/
import Derived.Test.YtnocjjaebemkoaaSlot5
namespace Go.Proofs.Ytnocjjaebemkoaa
open Go.RowKit

set_option maxHeartbeats 1000000 in
theorem write_no (A : Option Addr) (n cp : Nat) (c k x at_ : Int) (v : Value) (w : World) (hx : x = 4 ∨ x = 6) (ho : Calls Try.prog 43 #[.slice A n cp, .int .i64 c, .int .i64 k] w (NoObj x w)) :
    Calls Try.prog 25 #[.slice A n cp, .int .i64 c, .int .i64 k, .int .i64 at_, v] w (ErrP x w) := by
  rcases hx with rfl | rfl
  all_goals
    go_enter Try.func25, Try.ntmps25
    go_wp2_with fail
    refine ho.mono ?_
    rintro e w1 ⟨rfl, hb1⟩
    go_wp2_with fail
    go_ret2
    exact ⟨rfl, hb1⟩
set_option maxHeartbeats 4000000 in
theorem write_range {c : Int} {z N : Nat} (hc : ClassOK c z N) (A : Option Addr) (cp : Nat) (p : List UInt8) (k : Nat) (at_ : Int) (Ab : Option Addr) (nb cb : Nat) (w : World) (hr : Rd w A 256 p) (hn : 256 ≤ cp) (hcp : cp ≤ maxLen) (hm : mayP c p = true) (hk : k < N) (hf : freeW (win z p k) = false)
    (hb : at_ < 0 ∨ (lenW (win z p k) : Int) < nb ∨ (lenW (win z p k) : Int) - nb < at_) (hnb : nb ≤ 1000000) :
    Calls Try.prog 25 #[.slice A 256 cp, .int .i64 c, .int .i64 k, .int .i64 at_, .slice Ab nb cb] w (ErrP 3 w) := by
  have hO := object_yes hc A cp p k w hr hn hcp hm hk hf
  have hfit := hc.at_ hk
  have hlen := hr.len
  have hz1 := hc.z128
  have hz2 := hc.z16
  obtain ⟨hL0, hL1, _⟩ := may_facts hc hm hk hf
  obtain ⟨s, hs⟩ : ∃ s, s = win z p k := ⟨_, rfl⟩
  rw [← hs] at hb hL0 hL1
  obtain ⟨L, hL⟩ : ∃ L, L = lenW s := ⟨_, rfl⟩
  rw [← hL] at hb hL0 hL1
  have HL := Lib.hid hL
  have HB := Lib.hid hb
  have HS := Lib.hid hs
  clear hm hf hb hL hs
  go_enter Try.func25, Try.ntmps25
  go_wp2_with fail
  refine hO.mono ?_
  rintro e w1 ⟨g, c1, rfl, hF1, hb1⟩
  obtain ⟨A1, c1', e1, hR1, hown1, hn1, hm1⟩ := hF1.rdn 256 hlen
  injection e1 with e1 e2 e3
  subst e1 e3
  have hR := hR1.win k hfit (by omega)
  rw [← HS.out, Nat.zero_add] at hR
  have hSz := wsize_any g (k * z) z z s w1 hR (by omega) (Nat.le_refl _) (by omega)
  rw [← HL.out] at hSz
  go_wp2_with fail
  refine hSz.mono ?_
  rintro e w2 ⟨rfl, rfl⟩
  clear hO hSz
  by_cases h1 : at_ < 0
  · go_wp2_with fail
    go_ret2
    exact ⟨rfl, hb1⟩
  · by_cases h2 : (L : Int) < nb
    · go_wp2_with fail
      go_ret2
      exact ⟨rfl, hb1⟩
    · have h3 : (L : Int) - nb < at_ := by have := HB.out; omega
      go_wp2_with fail
      go_ret2
      exact ⟨rfl, hb1⟩
set_option maxHeartbeats 4000000 in
theorem write_yes {c : Int} {z N : Nat} (hc : ClassOK c z N) (A : Option Addr) (cp : Nat) (p : List UInt8) (k a : Nat) (Ab : Option Addr) (nb cb : Nat) (b : List UInt8) (w : World) (hr : Rd w A 256 p) (hn : 256 ≤ cp) (hcp : cp ≤ maxLen) (hm : mayP c p = true) (hk : k < N) (hf : freeW (win z p k) = false)
    (hb : Rd w Ab nb b) (ha : a + nb ≤ lenW (win z p k)) :
    Calls Try.prog 25 #[.slice A 256 cp, .int .i64 c, .int .i64 k, .int .i64 a, .slice Ab nb cb] w (GivesP 5 (layL p (k * z + (8 + a)) b) w) := by
  have hO := object_yes hc A cp p k w hr hn hcp hm hk hf
  have hfit := hc.at_ hk
  have hlen := hr.len
  have hblen := hb.len
  have hz1 := hc.z128
  have hz2 := hc.z16
  obtain ⟨hL0, hL1, _⟩ := may_facts hc hm hk hf
  obtain ⟨s, hs⟩ : ∃ s, s = win z p k := ⟨_, rfl⟩
  rw [← hs] at ha hL0 hL1
  obtain ⟨L, hL⟩ : ∃ L, L = lenW s := ⟨_, rfl⟩
  rw [← hL] at ha hL0 hL1
  have HL := Lib.hid hL
  have HS := Lib.hid hs
  obtain ⟨PF, hPF⟩ : ∃ PF, PF = layL p (k * z + (8 + a)) b := ⟨_, rfl⟩
  rw [← hPF]
  clear hm hf hL hs
  go_enter Try.func25, Try.ntmps25
  go_wp2_with fail
  refine hO.mono ?_
  rintro e w1 ⟨g, c1, rfl, hF1, hb1⟩
  obtain ⟨A1, c1', e1, hR1, hown1, hn1, hm1⟩ := hF1.rdn 256 hlen
  injection e1 with e1 e2 e3
  subst e1 e3
  have hR := hR1.win k hfit (by omega)
  rw [← HS.out, Nat.zero_add] at hR
  have hSz := wsize_any g (k * z) z z s w1 hR (by omega) (Nat.le_refl _) (by omega)
  rw [← HL.out] at hSz
  go_wp2_with fail
  refine hSz.mono ?_
  rintro e w2 ⟨rfl, rfl⟩
  clear hO hSz
  obtain ⟨g', cur, e1, hbg, hBlk, hcs, hcc, _⟩ := hF1.open_ hlen (by omega)
  obtain rfl : g = g' := by injection e1 with e1; injection e1
  have hF2 := hF1.lay_ hlen rfl hBlk (k * z + (8 + a)) b (by omega)
  rw [← hPF] at hF2
  obtain ⟨K, hK⟩ : ∃ K, K = k * z := ⟨_, rfl⟩
  rw [← hK] at hF2 hfit hPF ⊢
  clear hPF hK
  have hb' := hb.below hb1
  by_cases h : z = 8 + a
  · obtain rfl : nb = 0 := by omega
    obtain rfl : b = [] := List.eq_nil_of_length_eq_zero hblen
    rw [lay_nil] at hF2
    have hcpy := run_copy_bytes (P := Try.prog) hBlk hb' Try.underlying32 info8 3 K 0 0 cb (by omega)
    rw [List.take_nil, lay_nil] at hcpy
    subst h
    have hbb := Below.row hb1 hbg cur
    go_wp2_with fail
    go_ret2
    exact ⟨_, rfl, hF2, hbb⟩
  · have hcpy := run_copy_bytes (P := Try.prog) hBlk hb' Try.underlying32 info8 3 (K + (8 + a)) (z - (8 + a)) (z - (8 + a)) cb (by omega)
    rw [List.take_of_length_le (by omega)] at hcpy
    have hbb := Below.row hb1 hbg (lay cur (K + (8 + a)) b)
    have q1 : (a : Int) ≤ (L : Int) - nb := by omega
    go_wp2_with fail
    go_ret2
    exact ⟨_, rfl, hF2, hbb⟩

/-- What Take says. -/
def ErrT (x : Int) (w : World) (e : Ending) (w' : World) : Prop := e = .returned (.tuple #[.slice none 0 0, .int .i64 0, .int .i64 x]) ∧ Below w.heap.size w w'
def GivesT (T : TypeId) (p : List UInt8) (k : Nat) (w : World) (e : Ending) (w' : World) : Prop := ∃ v, e = .returned (.tuple #[v, .int .i64 k, .int .i64 0]) ∧ Fresh T w.heap.size w' v p ∧ Below w.heap.size w w'
set_option maxHeartbeats 1000000 in
theorem take_bad (A : Option Addr) (n cp : Nat) (p : List UInt8) (c s m : Int) (w : World) (hr : Rd w A n p) (hn : n ≤ cp) (hcp : cp ≤ maxLen) (hm : mayP c p = false) :
    Calls Try.prog 23 #[.slice A n cp, .int .i64 c, .int .u64 s, .int .i64 m] w (ErrT 4 w) := by
  have hC := check_any A n cp p c w hr hn hcp
  rw [hm, if_neg (by decide)] at hC
  go_enter Try.func23, Try.ntmps23
  go_wp2_with fail
  refine hC.mono ?_
  rintro e w1 ⟨rfl, rfl⟩
  go_wp2_with fail
  go_ret3
  exact ⟨rfl, Below.refl _ _⟩
set_option maxHeartbeats 2000000 in
theorem take_arg (A : Option Addr) (n cp : Nat) (p : List UInt8) (c s m : Int) (w : World) (hr : Rd w A n p) (hn : n ≤ cp) (hcp : cp ≤ maxLen) (hm : mayP c p = true) (h : s < 1 ∨ 281474976710655 < s ∨ m < 1 ∨ sizeI c < m) :
    Calls Try.prog 23 #[.slice A n cp, .int .i64 c, .int .u64 s, .int .i64 m] w (ErrT 1 w) := by
  have hC := check_any A n cp p c w hr hn hcp
  rw [hm, if_pos rfl] at hC
  have hS := fun W => size_any c W
  clear hm
  have HQ := Lib.hid h
  clear h
  by_cases h1 : s < 1
  · go_enter Try.func23, Try.ntmps23
    go_wp2_with fail
    refine hC.mono ?_
    rintro e w1 ⟨rfl, rfl⟩
    go_wp2_with fail
    go_ret3
    exact ⟨rfl, Below.refl _ _⟩
  · by_cases h2 : 281474976710655 < s
    · go_enter Try.func23, Try.ntmps23
      go_wp2_with fail
      refine hC.mono ?_
      rintro e w1 ⟨rfl, rfl⟩
      go_wp2_with fail
      go_ret3
      exact ⟨rfl, Below.refl _ _⟩
    · by_cases h3 : m < 1
      · go_enter Try.func23, Try.ntmps23
        go_wp2_with fail
        refine hC.mono ?_
        rintro e w1 ⟨rfl, rfl⟩
        go_wp2_with fail
        go_ret3
        exact ⟨rfl, Below.refl _ _⟩
      · have h4 : sizeI c < m := by have := HQ.out; omega
        go_enter Try.func23, Try.ntmps23
        go_wp2_with fail
        refine hC.mono ?_
        rintro e w1 ⟨rfl, rfl⟩
        go_wp2_with fail
        refine (hS _).mono ?_
        rintro e w2 ⟨rfl, rfl⟩
        go_wp2_with fail
        go_ret3
        exact ⟨rfl, Below.refl _ _⟩
end Go.Proofs.Ytnocjjaebemkoaa
