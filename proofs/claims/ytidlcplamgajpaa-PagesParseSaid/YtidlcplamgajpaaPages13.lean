/- Pages: the document's Take, Give, Turn. -/
import Derived.Test.YtidlcplamgajpaaPages12
namespace Go.Proofs.Ytidlcplamgajpaa
open Go.RowKit

theorem freeN_in {l : List Pg} {k P : Nat} (h : k + P ≤ l.length) : freeN l k P = !((l.take (k + P)).drop k).any takenB := by
  have key : (l.take (k + P)).drop k = (l.drop k).take P := by rw [List.drop_take, show k + P - k = P from by omega]
  unfold freeN
  rw [decide_eq_true h, Bool.true_and, key, List.all_eq_not_any_not]
  rfl

set_option maxRecDepth 100000 in
set_option maxHeartbeats 8000000 in
theorem rtake_any (A : Option Addr) (n c : Nat) (l : List Pg) (a size s : Int) (w : World) (hr : RdG pgE w A n l) (hn : n ≤ 1000000) (ha0 : -9223372036854775808 ≤ a) (ha1 : a ≤ 9223372036854775807) :
    Calls Try.prog 30 #[.slice A n c, .int .i64 a, .int .i64 size, .int .u64 s] w (GivesP 33 w (takeR l a size s) (takeErr l a size s)) := by
  have hlen := hr.len
  cases hl : longB size
  · have hlong : size < 121 ∨ 4096 < size := by unfold longB at hl; simp at hl; omega
    go_enter Try.func30, Try.ntmps30
    go_wp2_with fail
    refine (rpages_no size _ hlong).mono ?_
    rintro e w1 ⟨rfl, rfl⟩
    go_wp2_with fail
    refine (rmay_any A n c l _ hr hn).mono ?_
    rintro e w1 ⟨rfl, hb1⟩
    cases hk : okL l
    · obtain ⟨e1, e2⟩ := tk4 (a := a) (size := size) (s := s) hk
      have HX := Lib.hid e1
      have HR := Lib.hid e2
      clear e1 e2
      go_wp2_with fail
      go_ret2
      rw [HX.out, HR.out]
      exact GivesP.none rfl rfl hb1
    · obtain ⟨e1, e2⟩ := tk1 (a := a) (size := size) (s := s) hk (.inl hl)
      have HX := Lib.hid e1
      have HR := Lib.hid e2
      clear e1 e2
      go_wp2_with fail
      go_ret2
      rw [HX.out, HR.out]
      exact GivesP.none rfl rfl hb1
  · obtain ⟨hp1, hp2⟩ := pagesC_range hl
    have hlong : 121 ≤ size ∧ size ≤ 4096 := by unfold longB at hl; simpa using hl
    obtain ⟨P, hP⟩ := Int.eq_ofNat_of_zero_le (show 0 ≤ pagesC size by omega)
    have HP := Lib.hid hP
    rw [hP] at hp1 hp2
    clear hP
    go_enter Try.func30, Try.ntmps30
    go_wp2_with fail
    refine (rpages_yes size _ hlong.1 hlong.2).mono ?_
    rintro e w1 ⟨rfl, rfl⟩
    rw [HP.out]
    go_wp2_with fail
    refine (rmay_any A n c l _ hr hn).mono ?_
    rintro e w1 ⟨rfl, hb1⟩
    have hr1 := hr.below hb1
    cases hk : okL l
    · obtain ⟨e1, e2⟩ := tk4 (a := a) (size := size) (s := s) hk
      have HX := Lib.hid e1
      have HR := Lib.hid e2
      clear e1 e2
      go_wp2_with fail
      go_ret2
      rw [HX.out, HR.out]
      exact GivesP.none rfl rfl hb1
    · cases hs : serB s
      · obtain ⟨e1, e2⟩ := tk1 (a := a) (size := size) (s := s) hk (.inr hs)
        have HX := Lib.hid e1
        have HR := Lib.hid e2
        clear e1 e2
        have hsc : s < 1 ∨ (1 ≤ s ∧ 281474976710656 ≤ s) := by unfold serB at hs; simp at hs; omega
        rcases hsc with h | ⟨h, h'⟩
        all_goals
          go_wp2_with fail
          go_ret2
          rw [HX.out, HR.out]
          exact GivesP.none rfl rfl hb1
      · have hsc : 1 ≤ s ∧ s < 281474976710656 := by unfold serB at hs; simp at hs; omega
        obtain ⟨hs1, hs2⟩ := hsc
        by_cases hin : 0 ≤ a ∧ a + P ≤ l.length
        · obtain ⟨k, rfl⟩ := Int.eq_ofNat_of_zero_le hin.1
          have hkP : k + P ≤ n := by omega
          have q2 : (k : Int) < n := by omega
          have q3 : (P : Int) ≤ (n : Int) - k := by omega
          clear hin
          cases ht : ((l.take (k + P)).drop k).any takenB
          · obtain ⟨e1, e2⟩ := tk0 hk hl hs HP.out (by omega) ht
            have HX := Lib.hid e1
            have HR := Lib.hid e2
            have HT := Lib.hid (show freeN l k P = true by rw [freeN_in (by omega), ht]; rfl)
            clear e1 e2 ht
            go_wp2_with fail
            refine (rfree_any A n c l k P _ hr1 hn (by omega) (by omega) (by omega)).mono ?_
            rintro e w2 ⟨rfl, rfl⟩
            rw [HT.out]
            go_wp2_with fail
            refine (rlay_any A n c l k P (2, 0, (P : Int), size, s) (3, 0, 0, 0, 0) _ hr1 hn (by omega) hkP).mono ?_
            rintro e w3 ⟨v, rfl, hF3, hb3⟩
            rw [show ((2, 0, (P : Int), size, s) : Pg) = headP size s by unfold headP; rw [HP.out]] at hF3
            have hz := hb1.size
            go_wp2_with fail
            go_ret2
            rw [HX.out, HR.out]
            exact ⟨_, rfl, hF3.from_ hz, (by (have q_hb3 := Below.size hb3; (try simp at q_hb3); have q_hb1 := Below.size hb1; (try simp at q_hb1); repeat (first | exact Below.refl _ _ | (refine Below.trans ?_ (Below.mono hb3 (by first | omega | (simp; omega) | simp))) | (refine Below.trans ?_ (Below.mono hb1 (by first | omega | (simp; omega) | simp))) | (refine Below.setCell ?_ (by first | omega | (simp; omega) | simp) _) | (refine Below.alloc ?_ (by first | omega | (simp; omega) | simp) _) | apply Below.drew | apply below_drewN)))⟩
          · obtain ⟨e1, e2⟩ := tk7 hk hl hs HP.out (by omega) ht
            have HX := Lib.hid e1
            have HR := Lib.hid e2
            have HT := Lib.hid (show freeN l k P = false by rw [freeN_in (by omega), ht]; rfl)
            clear e1 e2 ht
            go_wp2_with fail
            refine (rfree_any A n c l k P _ hr1 hn (by omega) (by omega) (by omega)).mono ?_
            rintro e w2 ⟨rfl, rfl⟩
            rw [HT.out]
            go_wp2_with fail
            go_ret2
            rw [HX.out, HR.out]
            exact GivesP.none rfl rfl hb1
        · obtain ⟨e1, e2⟩ := tk3 (a := a) hk hl hs (by rw [HP.out]; exact hin)
          have HX := Lib.hid e1
          have HR := Lib.hid e2
          clear e1 e2
          have hcase : a < 0 ∨ (0 ≤ a ∧ (n : Int) ≤ a) ∨ (0 ≤ a ∧ a < n ∧ (n : Int) - a < P) := by omega
          clear hin
          rcases hcase with h | ⟨h, h'⟩ | ⟨h, h', h''⟩
          all_goals
            go_wp2_with fail
            go_ret2
            rw [HX.out, HR.out]
            exact GivesP.none rfl rfl hb1

set_option maxRecDepth 100000 in
set_option maxHeartbeats 8000000 in
theorem rgive_any (A : Option Addr) (n c : Nat) (l : List Pg) (a : Int) (w : World) (hr : RdG pgE w A n l) (hn : n ≤ 1000000) :
    Calls Try.prog 31 #[.slice A n c, .int .i64 a] w (GivesP 33 w (giveR l a) (giveErr l a)) := by
  have hlen := hr.len
  go_enter Try.func31, Try.ntmps31
  go_wp2_with fail
  refine (rmay_any A n c l _ hr hn).mono ?_
  rintro e w1 ⟨rfl, hb1⟩
  have hr1 := hr.below hb1
  cases hk : okL l
  · obtain ⟨e1, e2⟩ := gv4 (a := a) hk
    have HX := Lib.hid e1
    have HR := Lib.hid e2
    clear e1 e2
    go_wp2_with fail
    go_ret2
    rw [HX.out, HR.out]
    exact GivesP.none rfl rfl hb1
  · by_cases hin : 0 ≤ a ∧ a < n
    · obtain ⟨k, rfl⟩ := Int.eq_ofNat_of_zero_le hin.1
      obtain ⟨b, off, p, rfl, hbk, hp, hcell⟩ := hr1.at_ (show k < n by omega)
      have c0 := hcell 0 _ rfl
      have c1 := hcell 1 _ rfl
      have c2 := hcell 2 _ rfl
      have c3 := hcell 3 _ rfl
      have c4 := hcell 4 _ rfl
      simp only [show pgE.sz = 5 from rfl, Nat.add_zero] at c0 c1 c2 c3 c4
      clear hcell
      obtain ⟨p1, p2, p3, p4, p5⟩ := p
      simp only at c0 c1 c2 c3 c4
      have q2 : (k : Int) < n := by omega
      by_cases h2 : p1 = 2
      · subst h2
        obtain ⟨r1, r2, r3⟩ := head_room hk hp rfl
        obtain ⟨e1, e2⟩ := gv0 hk hp rfl
        simp only at r1 r2 r3 e2
        obtain ⟨R, rfl⟩ := Int.eq_ofNat_of_zero_le (show 0 ≤ p3 by omega)
        simp only [Int.toNat_natCast] at r3 e2
        rw [← layP_layQ _ _ _ _ (by omega)] at e2
        have HX := Lib.hid e1
        have HR := Lib.hid e2
        clear e1 e2
        clear hp
        go_wp2_with fail
        refine (rlay_any _ n c l k R (0, 0, 0, 0, 0) (0, 0, 0, 0, 0) _ hr1 hn (by omega) (by omega)).mono ?_
        rintro e w3 ⟨v, rfl, hF3, hb3⟩
        have hz := hb1.size
        go_wp2_with fail
        go_ret2
        rw [HX.out, HR.out]
        exact ⟨_, rfl, hF3.from_ hz, (by (have q_hb3 := Below.size hb3; (try simp at q_hb3); have q_hb1 := Below.size hb1; (try simp at q_hb1); repeat (first | exact Below.refl _ _ | (refine Below.trans ?_ (Below.mono hb3 (by first | omega | (simp; omega) | simp))) | (refine Below.trans ?_ (Below.mono hb1 (by first | omega | (simp; omega) | simp))) | (refine Below.setCell ?_ (by first | omega | (simp; omega) | simp) _) | (refine Below.alloc ?_ (by first | omega | (simp; omega) | simp) _) | apply Below.drew | apply below_drewN)))⟩
      · obtain ⟨e1, e2⟩ := gv6 (a := (k : Int)) hk (by rw [nth_get hp]; exact fun h => h2 h.2.2)
        have HX := Lib.hid e1
        have HR := Lib.hid e2
        clear e1 e2
        have e3 : (p1 != 2) = true := by simp [h2]
        clear hp
        go_wp2_with fail
        go_ret2
        rw [HX.out, HR.out]
        exact GivesP.none rfl rfl hb1
    · obtain ⟨e1, e2⟩ := gv6 (a := a) hk (by rw [hlen]; exact fun h => hin ⟨h.1, h.2.1⟩)
      have HX := Lib.hid e1
      have HR := Lib.hid e2
      clear e1 e2
      have hcase : a < 0 ∨ (0 ≤ a ∧ (n : Int) ≤ a) := by omega
      clear hin
      rcases hcase with h | ⟨h, h'⟩
      all_goals
        go_wp2_with fail
        go_ret2
        rw [HX.out, HR.out]
        exact GivesP.none rfl rfl hb1

set_option maxRecDepth 100000 in
set_option maxHeartbeats 8000000 in
theorem rturn_any (A : Option Addr) (n c : Nat) (l : List Pg) (a cl : Int) (w : World) (hr : RdG pgE w A n l) (hn : n ≤ 1000000) :
    Calls Try.prog 33 #[.slice A n c, .int .i64 a, .int .i64 cl] w (GivesP 33 w (turnR l a cl) (turnErr l a cl)) := by
  have hlen := hr.len
  go_enter Try.func33, Try.ntmps33
  go_wp2_with fail
  refine (rmay_any A n c l _ hr hn).mono ?_
  rintro e w1 ⟨rfl, hb1⟩
  have hr1 := hr.below hb1
  cases hk : okL l
  · obtain ⟨e1, e2⟩ := tn4 (a := a) (c := cl) hk
    have HX := Lib.hid e1
    have HR := Lib.hid e2
    clear e1 e2
    go_wp2_with fail
    go_ret2
    rw [HX.out, HR.out]
    exact GivesP.none rfl rfl hb1
  · by_cases hin : 0 ≤ a ∧ a < n
    · obtain ⟨k, rfl⟩ := Int.eq_ofNat_of_zero_le hin.1
      obtain ⟨b, off, p, rfl, hbk, hp, hcell⟩ := hr1.at_ (show k < n by omega)
      have c0 := hcell 0 _ rfl
      have c1 := hcell 1 _ rfl
      have c2 := hcell 2 _ rfl
      have c3 := hcell 3 _ rfl
      have c4 := hcell 4 _ rfl
      simp only [show pgE.sz = 5 from rfl, Nat.add_zero] at c0 c1 c2 c3 c4
      clear hcell
      obtain ⟨p1, p2, p3, p4, p5⟩ := p
      simp only at c0 c1 c2 c3 c4
      have q2 : (k : Int) < n := by omega
      by_cases hc : cl = -1
      · subst hc
        by_cases h1 : p1 = 1
        · subst h1
          obtain ⟨e1, e2⟩ := tn0 hk hp rfl
          rw [layP_one l k zeroPg (0, 0, 0, 0, 0)] at e2
          have HX := Lib.hid e1
          have HR := Lib.hid e2
          clear e1 e2
          clear hp
          go_wp2_with fail
          refine (rlay_any _ n c l k 1 (0, 0, 0, 0, 0) (0, 0, 0, 0, 0) _ hr1 hn (by omega) (by omega)).mono ?_
          rintro e w3 ⟨v, rfl, hF3, hb3⟩
          have hz := hb1.size
          go_wp2_with fail
          go_ret2
          rw [HX.out, HR.out]
          exact ⟨_, rfl, hF3.from_ hz, (by (have q_hb3 := Below.size hb3; (try simp at q_hb3); have q_hb1 := Below.size hb1; (try simp at q_hb1); repeat (first | exact Below.refl _ _ | (refine Below.trans ?_ (Below.mono hb3 (by first | omega | (simp; omega) | simp))) | (refine Below.trans ?_ (Below.mono hb1 (by first | omega | (simp; omega) | simp))) | (refine Below.setCell ?_ (by first | omega | (simp; omega) | simp) _) | (refine Below.alloc ?_ (by first | omega | (simp; omega) | simp) _) | apply Below.drew | apply below_drewN)))⟩
        · obtain ⟨e1, e2⟩ := tn6 hk hp h1
          have HX := Lib.hid e1
          have HR := Lib.hid e2
          clear e1 e2
          have e3 : (p1 == 1) = false := by simp [h1]
          clear hp
          go_wp2_with fail
          go_ret2
          rw [HX.out, HR.out]
          exact GivesP.none rfl rfl hb1
      · have hc' : (cl == -1) = false := by simp [hc]
        by_cases hs : sizeI cl = 0
        · obtain ⟨e1, e2⟩ := tn1 hk hp hc hs
          have HX := Lib.hid e1
          have HR := Lib.hid e2
          clear e1 e2
          clear hp
          have HS := Lib.hid hs
          clear hs
          go_wp2_with fail
          refine (rsize_any cl _).mono ?_
          rintro e w2 ⟨rfl, rfl⟩
          rw [HS.out]
          go_wp2_with fail
          go_ret2
          rw [HX.out, HR.out]
          exact GivesP.none rfl rfl hb1
        · by_cases h0 : p1 = 0
          · subst h0
            obtain ⟨e1, e2⟩ := tn0' hk hp hc hs rfl
            rw [layP_one l k (1, cl, 0, 0, 0) (0, 0, 0, 0, 0)] at e2
            have HX := Lib.hid e1
            have HR := Lib.hid e2
            clear e1 e2
            have e3 : (sizeI cl == 0) = false := by simp [hs]
            clear hp hs
            go_wp2_with fail
            refine (rsize_any cl _).mono ?_
            rintro e w2 ⟨rfl, rfl⟩
            go_wp2_with fail
            refine (rlay_any _ n c l k 1 (1, cl, 0, 0, 0) (0, 0, 0, 0, 0) _ hr1 hn (by omega) (by omega)).mono ?_
            rintro e w3 ⟨v, rfl, hF3, hb3⟩
            have hz := hb1.size
            go_wp2_with fail
            go_ret2
            rw [HX.out, HR.out]
            exact ⟨_, rfl, hF3.from_ hz, (by (have q_hb3 := Below.size hb3; (try simp at q_hb3); have q_hb1 := Below.size hb1; (try simp at q_hb1); repeat (first | exact Below.refl _ _ | (refine Below.trans ?_ (Below.mono hb3 (by first | omega | (simp; omega) | simp))) | (refine Below.trans ?_ (Below.mono hb1 (by first | omega | (simp; omega) | simp))) | (refine Below.setCell ?_ (by first | omega | (simp; omega) | simp) _) | (refine Below.alloc ?_ (by first | omega | (simp; omega) | simp) _) | apply Below.drew | apply below_drewN)))⟩
          · obtain ⟨e1, e2⟩ := tn7 hk hp hc hs h0
            have HX := Lib.hid e1
            have HR := Lib.hid e2
            clear e1 e2
            have e3 : (sizeI cl == 0) = false := by simp [hs]
            have e4 : (p1 == 0) = false := by simp [h0]
            clear hp hs
            go_wp2_with fail
            refine (rsize_any cl _).mono ?_
            rintro e w2 ⟨rfl, rfl⟩
            go_wp2_with fail
            go_ret2
            rw [HX.out, HR.out]
            exact GivesP.none rfl rfl hb1
    · obtain ⟨e1, e2⟩ := tn3 (a := a) (c := cl) hk (by rw [hlen]; exact hin)
      have HX := Lib.hid e1
      have HR := Lib.hid e2
      clear e1 e2
      have hcase : a < 0 ∨ (0 ≤ a ∧ (n : Int) ≤ a) := by omega
      clear hin
      rcases hcase with h | ⟨h, h'⟩
      all_goals
        go_wp2_with fail
        go_ret2
        rw [HX.out, HR.out]
        exact GivesP.none rfl rfl hb1
end Go.Proofs.Ytidlcplamgajpaa
