/- The walk of the statement ScriptSame. -/
import Derived.Test.YthlgagjnlnakkaaScript9
namespace Go.Proofs.Ythlgagjnlnakkaa
open Go.RowKit

theorem likeA_refl (li : Bool) (x : ActD) : likeA li x x = true := by simp [likeA]
theorem likeA_up {x y : ActD} (h : likeA false x y = true) : likeA true x y = true := by
  simp only [likeA, Bool.and_eq_true, Bool.or_eq_true, decide_eq_true_eq, Bool.false_and, Bool.false_eq_true, false_or] at h ⊢
  exact ⟨h.1, .inr h.2⟩
theorem zipA_refl (li : Bool) : ∀ a : List ActD, zipA li a a = true
  | [] => rfl
  | x :: a => by
    have := zipA_refl li a
    unfold zipA at this ⊢
    simp only [List.zipWith_cons_cons, List.all_cons, likeA_refl, this]
    rfl
theorem allA_refl (li : Bool) (a : List ActD) : allA li a a = true := by simp [allA, zipA_refl]
theorem zipA_up : ∀ a b : List ActD, zipA false a b = true → zipA true a b = true
  | [], _, _ => rfl
  | _ :: _, [], _ => rfl
  | x :: a, y :: b, h => by
    unfold zipA at h ⊢
    simp only [List.zipWith_cons_cons, List.all_cons, Bool.and_eq_true, id] at h ⊢
    exact ⟨likeA_up h.1, zipA_up a b h.2⟩
theorem allA_up {a b : List ActD} (h : allA false a b = true) : allA true a b = true := by
  simp only [allA, Bool.and_eq_true] at h ⊢
  exact ⟨h.1, zipA_up a b h.2⟩

set_option maxRecDepth 100000 in
set_option maxHeartbeats 8000000 in
theorem law_scriptsame (A1 A2 : Option Addr) (n m c d : Nat) (es fs : List ActD) (w : World) (h1 : RdR actK w.heap.size 5 w A1 n es) (h2 : RdR actK w.heap.size 5 w A2 m fs) :
    Calls Try.prog 3 #[.slice A1 n c, .slice A2 m d] w fun e w' => e = .returned (.bool true) ∧ Below w.heap.size w w' := by
  obtain ⟨a, ha⟩ : ∃ a, a = cutA 8 es := ⟨_, rfl⟩
  obtain ⟨b, hb⟩ : ∃ b, b = cutA 8 fs := ⟨_, rfl⟩
  obtain ⟨na, hna⟩ : ∃ k, a.length = k := ⟨_, rfl⟩
  obtain ⟨nb, hnb⟩ : ∃ k, b.length = k := ⟨_, rfl⟩
  have hna8 : na ≤ 8 := by rw [← hna, ha, cutA_len]; omega
  have hnb8 : nb ≤ 8 := by rw [← hnb, hb, cutA_len]; omega
  have HLa := Lib.hid (show ∀ e ∈ a, e.2.length ≤ 1000000 by intro e he; rw [ha] at he; have := cutA_le e he; omega)
  have HLb := Lib.hid (show ∀ e ∈ b, e.2.length ≤ 1000000 by intro e he; rw [hb] at he; have := cutA_le e he; omega)
  obtain ⟨X, hX⟩ : ∃ X, X = allA false a b := ⟨_, rfl⟩
  obtain ⟨Y, hY⟩ : ∃ Y, Y = allA true a b := ⟨_, rfl⟩
  have hXY : X = true → Y = true := fun h => by rw [hY]; rw [hX] at h; exact allA_up h
  have HXY := Lib.hid hXY
  have HA := Lib.hid ha
  have HB := Lib.hid hb
  have HNA := Lib.hid hna
  have HNB := Lib.hid hnb
  have HX := Lib.hid hX
  have HY := Lib.hid hY
  clear hXY ha hb hna hnb hX hY
  go_enter Try.func3, Try.ntmps3
  go_wp2_with fail
  refine (acut_any A1 n c w.heap.size 8 es _ h1 (Nat.le_refl _) (by omega)).mono ?_
  rintro e w1 ⟨v1, rfl, hO1, hb1⟩
  rw [← HA.out] at hO1
  obtain ⟨A1', c1, rfl, hR1, hn1, hm1⟩ := hO1.rd na HNA.out
  have hz1 := hb1.size
  go_wp2_with fail
  refine (acut_any A2 m d w.heap.size 8 fs _ (h2.below hb1) (by omega) (by omega)).mono ?_
  rintro e w2 ⟨v2, rfl, hO2, hb2⟩
  rw [← HB.out] at hO2
  obtain ⟨A2', c2, rfl, hR2, hn2, hm2⟩ := hO2.rd nb HNB.out
  have hz2 := hb2.size
  clear hO1 hO2
  go_wp2_with fail
  refine (aours_any A1' na c1 w.heap.size a _ (hR1.below hb2) (by omega) (by omega) HLa.out).mono ?_
  rintro e w3 ⟨v3, rfl, hO3, hb3⟩
  obtain ⟨A3, c3, rfl, hR3, hn3, hm3⟩ := hO3.rd na HNA.out
  have hz3 := hb3.size
  go_wp2_with fail
  refine (aours_any A2' nb c2 w.heap.size b _ (hR2.below hb3) (by omega) (by omega) HLb.out).mono ?_
  rintro e w4 ⟨v4, rfl, hO4, hb4⟩
  obtain ⟨A4, c4, rfl, hR4, hn4, hm4⟩ := hO4.rd nb HNB.out
  have hz4 := hb4.size
  go_wp2_with fail
  refine (scrsame_any A3 A4 na nb c3 c4 _ _ _ _ a b _ (hR3.below hb4) hR4 (by omega)).mono ?_
  rintro e w5 ⟨rfl, hb5⟩
  rw [← HX.out]
  have hz5 := hb5.size
  go_wp2_with fail
  refine (aours_any A1' na c1 w.heap.size a _ (hR1.below (by (have q_hb5 := Below.size hb5; (try simp at q_hb5); have q_hb4 := Below.size hb4; (try simp at q_hb4); have q_hb3 := Below.size hb3; (try simp at q_hb3); have q_hb2 := Below.size hb2; (try simp at q_hb2); repeat (first | exact Below.refl _ _ | (refine Below.trans ?_ (Below.mono hb5 (by first | omega | (simp; omega) | simp))) | (refine Below.trans ?_ (Below.mono hb4 (by first | omega | (simp; omega) | simp))) | (refine Below.trans ?_ (Below.mono hb3 (by first | omega | (simp; omega) | simp))) | (refine Below.trans ?_ (Below.mono hb2 (by first | omega | (simp; omega) | simp))) | (refine Below.setCell ?_ (by first | omega | (simp; omega) | simp) _) | (refine Below.alloc ?_ (by first | omega | (simp; omega) | simp) _) | apply Below.drew | apply below_drewN)))) (by omega) (by omega) HLa.out).mono ?_
  rintro e w6 ⟨v6, rfl, hO6, hb6⟩
  obtain ⟨A6, c6, rfl, hR6, hn6, hm6⟩ := hO6.rd na HNA.out
  have hz6 := hb6.size
  go_wp2_with fail
  refine (aours_any A2' nb c2 w.heap.size b _ (hR2.below (by (have q_hb6 := Below.size hb6; (try simp at q_hb6); have q_hb5 := Below.size hb5; (try simp at q_hb5); have q_hb4 := Below.size hb4; (try simp at q_hb4); have q_hb3 := Below.size hb3; (try simp at q_hb3); repeat (first | exact Below.refl _ _ | (refine Below.trans ?_ (Below.mono hb6 (by first | omega | (simp; omega) | simp))) | (refine Below.trans ?_ (Below.mono hb5 (by first | omega | (simp; omega) | simp))) | (refine Below.trans ?_ (Below.mono hb4 (by first | omega | (simp; omega) | simp))) | (refine Below.trans ?_ (Below.mono hb3 (by first | omega | (simp; omega) | simp))) | (refine Below.setCell ?_ (by first | omega | (simp; omega) | simp) _) | (refine Below.alloc ?_ (by first | omega | (simp; omega) | simp) _) | apply Below.drew | apply below_drewN)))) (by omega) (by omega) HLb.out).mono ?_
  rintro e w7 ⟨v7, rfl, hO7, hb7⟩
  obtain ⟨A7, c7, rfl, hR7, hn7, hm7⟩ := hO7.rd nb HNB.out
  have hz7 := hb7.size
  go_wp2_with fail
  refine (scrlike_any A6 A7 na nb c6 c7 _ _ _ _ a b _ (hR6.below hb7) hR7 (by omega)).mono ?_
  rintro e w8 ⟨rfl, hb8⟩
  rw [← HY.out]
  have hz8 := hb8.size
  have bw8 : Below w.heap.size w w8 := (by (have q_hb8 := Below.size hb8; (try simp at q_hb8); have q_hb7 := Below.size hb7; (try simp at q_hb7); have q_hb6 := Below.size hb6; (try simp at q_hb6); have q_hb5 := Below.size hb5; (try simp at q_hb5); have q_hb4 := Below.size hb4; (try simp at q_hb4); have q_hb3 := Below.size hb3; (try simp at q_hb3); have q_hb2 := Below.size hb2; (try simp at q_hb2); have q_hb1 := Below.size hb1; (try simp at q_hb1); repeat (first | exact Below.refl _ _ | (refine Below.trans ?_ (Below.mono hb8 (by first | omega | (simp; omega) | simp))) | (refine Below.trans ?_ (Below.mono hb7 (by first | omega | (simp; omega) | simp))) | (refine Below.trans ?_ (Below.mono hb6 (by first | omega | (simp; omega) | simp))) | (refine Below.trans ?_ (Below.mono hb5 (by first | omega | (simp; omega) | simp))) | (refine Below.trans ?_ (Below.mono hb4 (by first | omega | (simp; omega) | simp))) | (refine Below.trans ?_ (Below.mono hb3 (by first | omega | (simp; omega) | simp))) | (refine Below.trans ?_ (Below.mono hb2 (by first | omega | (simp; omega) | simp))) | (refine Below.trans ?_ (Below.mono hb1 (by first | omega | (simp; omega) | simp))) | (refine Below.setCell ?_ (by first | omega | (simp; omega) | simp) _) | (refine Below.alloc ?_ (by first | omega | (simp; omega) | simp) _) | apply Below.drew | apply below_drewN)))
  have R1 : RdR actK w.heap.size 5 w8 A1' na a := hR1.below (by (have q_hb8 := Below.size hb8; (try simp at q_hb8); have q_hb7 := Below.size hb7; (try simp at q_hb7); have q_hb6 := Below.size hb6; (try simp at q_hb6); have q_hb5 := Below.size hb5; (try simp at q_hb5); have q_hb4 := Below.size hb4; (try simp at q_hb4); have q_hb3 := Below.size hb3; (try simp at q_hb3); have q_hb2 := Below.size hb2; (try simp at q_hb2); repeat (first | exact Below.refl _ _ | (refine Below.trans ?_ (Below.mono hb8 (by first | omega | (simp; omega) | simp))) | (refine Below.trans ?_ (Below.mono hb7 (by first | omega | (simp; omega) | simp))) | (refine Below.trans ?_ (Below.mono hb6 (by first | omega | (simp; omega) | simp))) | (refine Below.trans ?_ (Below.mono hb5 (by first | omega | (simp; omega) | simp))) | (refine Below.trans ?_ (Below.mono hb4 (by first | omega | (simp; omega) | simp))) | (refine Below.trans ?_ (Below.mono hb3 (by first | omega | (simp; omega) | simp))) | (refine Below.trans ?_ (Below.mono hb2 (by first | omega | (simp; omega) | simp))) | (refine Below.setCell ?_ (by first | omega | (simp; omega) | simp) _) | (refine Below.alloc ?_ (by first | omega | (simp; omega) | simp) _) | apply Below.drew | apply below_drewN)))
  have R2 : RdR actK w.heap.size 5 w8 A2' nb b := hR2.below (by (have q_hb8 := Below.size hb8; (try simp at q_hb8); have q_hb7 := Below.size hb7; (try simp at q_hb7); have q_hb6 := Below.size hb6; (try simp at q_hb6); have q_hb5 := Below.size hb5; (try simp at q_hb5); have q_hb4 := Below.size hb4; (try simp at q_hb4); have q_hb3 := Below.size hb3; (try simp at q_hb3); repeat (first | exact Below.refl _ _ | (refine Below.trans ?_ (Below.mono hb8 (by first | omega | (simp; omega) | simp))) | (refine Below.trans ?_ (Below.mono hb7 (by first | omega | (simp; omega) | simp))) | (refine Below.trans ?_ (Below.mono hb6 (by first | omega | (simp; omega) | simp))) | (refine Below.trans ?_ (Below.mono hb5 (by first | omega | (simp; omega) | simp))) | (refine Below.trans ?_ (Below.mono hb4 (by first | omega | (simp; omega) | simp))) | (refine Below.trans ?_ (Below.mono hb3 (by first | omega | (simp; omega) | simp))) | (refine Below.setCell ?_ (by first | omega | (simp; omega) | simp) _) | (refine Below.alloc ?_ (by first | omega | (simp; omega) | simp) _) | apply Below.drew | apply below_drewN)))
  clear hb1 hb2 hb3 hb4 hb5 hb6 hb7 hb8 hO3 hO4 hO6 hO7 hR1 hR2 hR3 hR4 hR6 hR7 hz1 hz2 hz3 hz4 hz5 hz6 hz7
  go_wp2_with fail
  refine (rall_any false A1' A2' na nb c1 c2 _ _ _ _ a b _ R1 R2 (by omega)).mono ?_
  rintro e w9 ⟨rfl, hb9⟩
  rw [← HX.out]
  have hz9 := hb9.size
  have hXX : (X == X) = true := by simp
  go_wp2_with fail
  refine (rall_any true A1' A2' na nb c1 c2 _ _ _ _ a b _ (R1.below hb9) (R2.below hb9) (by omega)).mono ?_
  rintro e w10 ⟨rfl, hb10⟩
  rw [← HY.out]
  have hz10 := hb10.size
  have hYY : (Y == Y) = true := by simp
  have b10 : Below w.heap.size w w10 := (by (have q_hb10 := Below.size hb10; (try simp at q_hb10); have q_hb9 := Below.size hb9; (try simp at q_hb9); have q_bw8 := Below.size bw8; (try simp at q_bw8); repeat (first | exact Below.refl _ _ | (refine Below.trans ?_ (Below.mono hb10 (by first | omega | (simp; omega) | simp))) | (refine Below.trans ?_ (Below.mono hb9 (by first | omega | (simp; omega) | simp))) | (refine Below.trans ?_ (Below.mono bw8 (by first | omega | (simp; omega) | simp))) | (refine Below.setCell ?_ (by first | omega | (simp; omega) | simp) _) | (refine Below.alloc ?_ (by first | omega | (simp; omega) | simp) _) | apply Below.drew | apply below_drewN)))
  have S1 : RdR actK w.heap.size 5 w10 A1' na a := R1.below (by (have q_hb10 := Below.size hb10; (try simp at q_hb10); have q_hb9 := Below.size hb9; (try simp at q_hb9); repeat (first | exact Below.refl _ _ | (refine Below.trans ?_ (Below.mono hb10 (by first | omega | (simp; omega) | simp))) | (refine Below.trans ?_ (Below.mono hb9 (by first | omega | (simp; omega) | simp))) | (refine Below.setCell ?_ (by first | omega | (simp; omega) | simp) _) | (refine Below.alloc ?_ (by first | omega | (simp; omega) | simp) _) | apply Below.drew | apply below_drewN)))
  clear R1 R2 hb9 hb10 bw8
  have hcase : X = false ∨ (X = true ∧ Y = true) := by
    cases hx : X
    · exact .inl rfl
    · exact .inr ⟨rfl, HXY.out hx⟩
  clear HX HY HXY
  rcases hcase with rfl | ⟨rfl, rfl⟩
  · skip
    go_wp2_with fail
    refine (aours_any A1' na c1 w.heap.size a _ S1 (by have := b10.size; omega) (by omega) HLa.out).mono ?_
    rintro e w11 ⟨v11, rfl, hO11, hb11⟩
    obtain ⟨A11, c11, rfl, hR11, hn11, hm11⟩ := hO11.rd na HNA.out
    have hz11 := hb11.size
    go_wp2_with fail
    refine (aours_any A1' na c1 w.heap.size a _ (S1.below hb11) (by have := b10.size; omega) (by omega) HLa.out).mono ?_
    rintro e w12 ⟨v12, rfl, hO12, hb12⟩
    obtain ⟨A12, c12, rfl, hR12, hn12, hm12⟩ := hO12.rd na HNA.out
    have hz12 := hb12.size
    go_wp2_with fail
    refine (scrsame_any A11 A12 na na c11 c12 _ _ _ _ a a _ (hR11.below hb12) hR12 (by omega)).mono ?_
    rintro e w13 ⟨rfl, hb13⟩
    rw [allA_refl]
    go_wp2_with fail
    refine (sawake_any _).mono ?_
    rintro e w14 ⟨rfl, hb14⟩
    go_wp2_with fail
    go_ret
    exact ⟨rfl, (by (have q_hb14 := Below.size hb14; (try simp at q_hb14); have q_hb13 := Below.size hb13; (try simp at q_hb13); have q_hb12 := Below.size hb12; (try simp at q_hb12); have q_hb11 := Below.size hb11; (try simp at q_hb11); have q_b10 := Below.size b10; (try simp at q_b10); repeat (first | exact Below.refl _ _ | (refine Below.trans ?_ (Below.mono hb14 (by first | omega | (simp; omega) | simp))) | (refine Below.trans ?_ (Below.mono hb13 (by first | omega | (simp; omega) | simp))) | (refine Below.trans ?_ (Below.mono hb12 (by first | omega | (simp; omega) | simp))) | (refine Below.trans ?_ (Below.mono hb11 (by first | omega | (simp; omega) | simp))) | (refine Below.trans ?_ (Below.mono b10 (by first | omega | (simp; omega) | simp))) | (refine Below.setCell ?_ (by first | omega | (simp; omega) | simp) _) | (refine Below.alloc ?_ (by first | omega | (simp; omega) | simp) _) | apply Below.drew | apply below_drewN)))⟩
  · skip
    go_wp2_with fail
    refine (aours_any A1' na c1 w.heap.size a _ S1 (by have := b10.size; omega) (by omega) HLa.out).mono ?_
    rintro e w11 ⟨v11, rfl, hO11, hb11⟩
    obtain ⟨A11, c11, rfl, hR11, hn11, hm11⟩ := hO11.rd na HNA.out
    have hz11 := hb11.size
    go_wp2_with fail
    refine (aours_any A1' na c1 w.heap.size a _ (S1.below hb11) (by have := b10.size; omega) (by omega) HLa.out).mono ?_
    rintro e w12 ⟨v12, rfl, hO12, hb12⟩
    obtain ⟨A12, c12, rfl, hR12, hn12, hm12⟩ := hO12.rd na HNA.out
    have hz12 := hb12.size
    go_wp2_with fail
    refine (scrsame_any A11 A12 na na c11 c12 _ _ _ _ a a _ (hR11.below hb12) hR12 (by omega)).mono ?_
    rintro e w13 ⟨rfl, hb13⟩
    rw [allA_refl]
    go_wp2_with fail
    refine (sawake_any _).mono ?_
    rintro e w14 ⟨rfl, hb14⟩
    go_wp2_with fail
    go_ret
    exact ⟨rfl, (by (have q_hb14 := Below.size hb14; (try simp at q_hb14); have q_hb13 := Below.size hb13; (try simp at q_hb13); have q_hb12 := Below.size hb12; (try simp at q_hb12); have q_hb11 := Below.size hb11; (try simp at q_hb11); have q_b10 := Below.size b10; (try simp at q_b10); repeat (first | exact Below.refl _ _ | (refine Below.trans ?_ (Below.mono hb14 (by first | omega | (simp; omega) | simp))) | (refine Below.trans ?_ (Below.mono hb13 (by first | omega | (simp; omega) | simp))) | (refine Below.trans ?_ (Below.mono hb12 (by first | omega | (simp; omega) | simp))) | (refine Below.trans ?_ (Below.mono hb11 (by first | omega | (simp; omega) | simp))) | (refine Below.trans ?_ (Below.mono b10 (by first | omega | (simp; omega) | simp))) | (refine Below.setCell ?_ (by first | omega | (simp; omega) | simp) _) | (refine Below.alloc ?_ (by first | omega | (simp; omega) | simp) _) | apply Below.drew | apply below_drewN)))⟩
end Go.Proofs.Ythlgagjnlnakkaa
