/- The walks of the statements PagesUndo, PagesFirst. -/
import Derived.Test.YtidlcplamgajpaaPages16
import Derived.Test.YtidlcplamgajpaaPages9
namespace Go.Proofs.Ytidlcplamgajpaa
open Go.RowKit

theorem and4095 (n : Int) : bits .and .i64 n 4095 = n % 4096 := by
  have h127 : (BitVec.ofInt 64 4095).toNat = 2 ^ 12 - 1 := by decide
  have key : (BitVec.ofInt 64 n &&& BitVec.ofInt 64 4095).toNat = (n % ((2 ^ 64 : Nat) : Int)).toNat % 2 ^ 12 := by
    rw [BitVec.toNat_and, BitVec.toNat_ofInt, h127, Nat.and_two_pow_sub_one_eq_mod]
  show IntKind.i64.wrap ((BitVec.ofInt 64 n &&& BitVec.ofInt 64 4095).toNat : Nat) = n % 4096
  rw [key, IntKind.wrap_i64]
  omega
theorem and2047 (n : Int) : bits .and .i64 n 2047 = n % 2048 := by
  have h127 : (BitVec.ofInt 64 2047).toNat = 2 ^ 11 - 1 := by decide
  have key : (BitVec.ofInt 64 n &&& BitVec.ofInt 64 2047).toNat = (n % ((2 ^ 64 : Nat) : Int)).toNat % 2 ^ 11 := by
    rw [BitVec.toNat_and, BitVec.toNat_ofInt, h127, Nat.and_two_pow_sub_one_eq_mod]
  show IntKind.i64.wrap ((BitVec.ofInt 64 n &&& BitVec.ofInt 64 2047).toNat : Nat) = n % 2048
  rw [key, IntKind.wrap_i64]
  omega
theorem firstFI_neg {l : List Pg} {m : Int} (h : firstFI l m = -1) (hm : 0 < m) : ∀ k, k < l.length → freeN l k m.toNat = false := by
  intro k hk
  unfold firstFI at h
  rw [if_neg (by omega)] at h
  unfold firstF at h
  cases hf : (List.range l.length).find? (fun k => freeN l k m.toNat) with
  | some i => rw [hf] at h; simp only at h; omega
  | none =>
    rw [List.find?_eq_none] at hf
    have := hf k (List.mem_range.2 hk)
    simpa using this
theorem firstFI_pos {l : List Pg} {m Y : Int} (h : firstFI l m = Y) (hY : 0 ≤ Y) : freeN l Y.toNat m.toNat = true ∧ Y < l.length ∧ ∀ j, j < Y.toNat → freeN l j m.toNat = false := by
  unfold firstFI at h
  split at h
  · omega
  · unfold firstF at h
    cases hf : (List.range l.length).find? (fun k => freeN l k m.toNat) with
    | none => rw [hf] at h; simp only at h; omega
    | some i =>
      rw [hf] at h
      simp only at h
      subst h
      rw [List.find?_range_eq_some] at hf
      obtain ⟨h1, h2, h3⟩ := hf
      rw [List.mem_range] at h2
      simp only [Int.toNat_natCast]
      exact ⟨h1, by omega, fun j hj => by simpa using h3 j hj⟩
theorem undo_is {l : List Pg} {s x X Y : Int} {b : Bool} (hr : firstR (runsR l l.length) (pagesC s) = (X, b)) (hY : firstFI l (pagesC s) = Y) (hf : b = false → X = 0 ∧ Y = -1) (h : takeErr l X s x = 0) : b = true := by
  cases b
  · exfalso
    obtain ⟨rfl, rfl⟩ := hf rfl
    obtain ⟨h1, h2, h3, h4, h5, h6⟩ := takeErr_zero h
    obtain ⟨p1, p2⟩ := pagesC_range h2
    have h' : takeErr l ((0 : Nat) : Int) s x = 0 := h
    rw [take_free h1 h2 h3] at h'
    rw [firstFI_neg hY (by omega) 0 (by omega)] at h'
    cases h'
  · rfl

set_option maxRecDepth 100000 in
set_option maxHeartbeats 8000000 in
theorem law_undo (y : UInt8) (A : Option Addr) (n c : Nat) (l : List Pg) (z ser : Int) (w : World) (hr : RdG pgE w A n l) (hnc : n ≤ c) (_hc : c ≤ maxLen) (ho : ∀ a ∈ l, inPg a) (hs0 : 0 ≤ ser) :
    Calls Try.prog 6 #[.int .u8 (y.toNat : Int), .slice A n c, .int .i64 z, .int .u64 ser] w fun e w' => e = .returned (.bool true) ∧ Below w.heap.size w w' := by
  obtain ⟨m, hm⟩ : ∃ m, m = y.toNat % 65 := ⟨_, rfl⟩
  have hm64 : m ≤ 64 := by omega
  have e2 : ((y.toNat : Nat) : Int).tmod 65 = (m : Int) := by rw [hm]; rfl
  obtain ⟨cs, hmk0, hcs⟩ := make_pages (P := Try.prog) Try.underlying22 infoRP .i64 .i64 m (by omega) w
  have hmk : (Instr.makeSlice 22 (.int .i64 (m : Int)) (.int .i64 (m : Int))).run Try.prog w = .ok (.slice (some ⟨w.heap.size, 0, none⟩) m m) (w.alloc (.cells cs 33)) := hmk0
  clear hmk0
  have F0 : FreshG pgE 33 w.heap.size (w.alloc (.cells cs 33)) (.slice (some ⟨w.heap.size, 0, none⟩) m m) (List.replicate m zeroPg) := FreshG.of_blk (Blk.new _ _ _) (Nat.le_refl _) (by unfold maxLen; omega) (by simp) hcs
  have I0 : PlayI w m (.slice (some ⟨w.heap.size, 0, none⟩) m m) (w.alloc (.cells cs 33)) := by
    obtain ⟨A, c, e, hR, _, h1, h2⟩ := F0.rdn m (by simp)
    exact ⟨A, c, _, e, hR, okL_zero m hm64, h1, h2, (by (repeat (first | exact Below.refl _ _ | (refine Below.setCell ?_ (by first | omega | (simp; omega) | simp) _) | (refine Below.alloc ?_ (by first | omega | (simp; omega) | simp) _) | apply Below.drew | apply below_drewN)))⟩
  clear hcs F0 hm
  have hw64 : wrap64 (y.toNat : Int) = (y.toNat : Int) := IntWalk.wrap64_in _ (by have := y.toNat_lt; omega)
  unfold maxLen at _hc
  go_enter Try.func6, Try.ntmps6
  go_wp2_with fail
  clear hmk e2 hw64
  go_loopw [9, 10, 25] (fun v k i wr => ∃ j : Nat, j ≤ n ∧ i = .int .i64 j ∧ k = .bool true ∧ PlayI w m v wr) (fun _ _ i _ => n - (intOf i).toNat)
  case atStart => exact ⟨0, by omega, rfl, rfl, I0⟩
  case round =>
    clear I0
    obtain ⟨j, hj, rfl, rfl, Ap, cp, lp, rfl, hRp, hok, hp1, hp2, hbp⟩ := hrel
    have hlen := hRp.len
    by_cases hlt : j < n
    · skip
      obtain ⟨b, off, x, rfl, hb, hx, hcell⟩ := (hr.on hbp (Nat.le_refl _)).at_ hlt
      have c0 := hcell 0 _ rfl
      have c1 := hcell 1 _ rfl
      have c2 := hcell 2 _ rfl
      have c3 := hcell 3 _ rfl
      have c4 := hcell 4 _ rfl
      simp only [show pgE.sz = 5 from rfl, Nat.add_zero] at c0 c1 c2 c3 c4
      have hin := ho x (List.mem_of_getElem? hx)
      obtain ⟨o1, o2, o3, o4, o5⟩ := x
      simp only at c0 c1 c2 c3 c4
      clear hcell hx
      by_cases h30 : j < 30
      · have h30' : (j : Int) < 30 := by omega
        have hltI : (j : Int) < n := by omega
        go_wp2_with fail
        refine (step_any Ap m cp lp o1 o2 o3 o4 o5 _ (hRp.below (by (repeat (first | exact Below.refl _ _ | (refine Below.setCell ?_ (by first | omega | (simp; omega) | simp) _) | (refine Below.alloc ?_ (by first | omega | (simp; omega) | simp) _) | apply Below.drew | apply below_drewN)))) (by omega) hp1 hp2 hin).mono ?_
        rintro e w2 ⟨A2, c2', l2, rfl, hR2, h21, h22, hk2, hb2⟩
        have hI : PlayI w m (.slice A2 m c2') w2 := ⟨A2, c2', l2, rfl, hR2, hk2 hok, h21, h22, (by (have q_hb2 := Below.size hb2; (try simp at q_hb2); have q_hbp := Below.size hbp; (try simp at q_hbp); repeat (first | exact Below.refl _ _ | (refine Below.trans ?_ (Below.mono hb2 (by first | omega | (simp; omega) | simp))) | (refine Below.trans ?_ (Below.mono hbp (by first | omega | (simp; omega) | simp))) | (refine Below.setCell ?_ (by first | omega | (simp; omega) | simp) _) | (refine Below.alloc ?_ (by first | omega | (simp; omega) | simp) _) | apply Below.drew | apply below_drewN)))⟩
        go_wp2_with fail
        go_roundw
        case rel => exact ⟨j + 1, by omega, by go_num, rfl, hI⟩
        case measure => simp [intOf] <;> omega
      · have h30' : ¬ (j : Int) < 30 := by omega
        have hltI : (j : Int) < n := by omega
        go_wp2_with fail
        go_roundw
        case rel => exact ⟨j + 1, by omega, by go_num, rfl, Ap, cp, lp, rfl, hRp.below (by (repeat (first | exact Below.refl _ _ | (refine Below.setCell ?_ (by first | omega | (simp; omega) | simp) _) | (refine Below.alloc ?_ (by first | omega | (simp; omega) | simp) _) | apply Below.drew | apply below_drewN))), hok, hp1, hp2, (by (have q_hbp := Below.size hbp; (try simp at q_hbp); repeat (first | exact Below.refl _ _ | (refine Below.trans ?_ (Below.mono hbp (by first | omega | (simp; omega) | simp))) | (refine Below.setCell ?_ (by first | omega | (simp; omega) | simp) _) | (refine Below.alloc ?_ (by first | omega | (simp; omega) | simp) _) | apply Below.drew | apply below_drewN)))⟩
        case measure => simp [intOf] <;> omega
    · obtain rfl : j = n := by omega
      have h4 := and4095 z
      obtain ⟨s, hs⟩ : ∃ s, s = z % 4096 := ⟨_, rfl⟩
      rw [← hs] at h4
      have hs1 : 0 ≤ s := by omega
      have hs2 : s ≤ 4095 := by omega
      clear hs
      have hpc : (s + 255) / 256 = pagesC s := rfl
      go_wp2_with fail
      refine (ours_any Ap m cp lp _ hRp (by omega)).mono ?_
      rintro e w2 ⟨v2, rfl, hF2, hb2⟩
      obtain ⟨A2, c2, rfl, hR2, _, _, _⟩ := hF2.rdn m hlen
      go_wp2_with fail
      rw [hpc]
      refine (first_any A2 m c2 lp (pagesC s) _ hR2 (by omega)).mono ?_
      rintro e w3 ⟨rfl, hb3⟩
      obtain ⟨bb, X, Y, f1, f2, f3, f4⟩ := first_both lp (pagesC s)
      have fr := firstFI_range lp (pagesC s)
      rw [f2, hlen] at fr
      have HF := Lib.hid f1
      have HF2 := Lib.hid f2
      rw [hlen] at f1
      rw [f1]
      have hX1 : -1 ≤ X ∧ X ≤ 64 := by
        cases bb
        · have := (f4 rfl).1; omega
        · have := (f3 rfl).1; omega
      have hRp3 := (hRp.below hb2).below hb3
      have b3 : Below w.heap.size w w3 := (by (have q_hb3 := Below.size hb3; (try simp at q_hb3); have q_hb2 := Below.size hb2; (try simp at q_hb2); have q_hbp := Below.size hbp; (try simp at q_hbp); repeat (first | exact Below.refl _ _ | (refine Below.trans ?_ (Below.mono hb3 (by first | omega | (simp; omega) | simp))) | (refine Below.trans ?_ (Below.mono hb2 (by first | omega | (simp; omega) | simp))) | (refine Below.trans ?_ (Below.mono hbp (by first | omega | (simp; omega) | simp))) | (refine Below.setCell ?_ (by first | omega | (simp; omega) | simp) _) | (refine Below.alloc ?_ (by first | omega | (simp; omega) | simp) _) | apply Below.drew | apply below_drewN)))
      clear f1 f2 hF2 hR2 hb2 hb3
      go_wp2_with fail
      refine (ours_any Ap m cp lp _ hRp3 (by omega)).mono ?_
      rintro e w4 ⟨v4, rfl, hF4, hb4⟩
      obtain ⟨A4, c4, rfl, hR4, _, hc41, hc42⟩ := hF4.rdn m hlen
      have hRp4 := hRp3.below hb4
      obtain ⟨E, hE⟩ : ∃ E, E = takeErr lp X s ser := ⟨_, rfl⟩
      have hU := fun h : E = 0 => undo_ok (l := lp) (a := X) (size := s) (s := ser) (by rw [← hE]; exact h)
      have hT := fun h : E = 0 => take_ok (l := lp) (a := X) (size := s) (s := ser) (by rw [← hE]; exact h)
      have hB := fun h : E = 0 => undo_is HF.out HF2.out f4 (by rw [← hE]; exact h)
      obtain ⟨L, hL⟩ : ∃ L, L = takeR lp X s ser := ⟨_, rfl⟩
      rw [← hL] at hU hT
      have HU := Lib.hid hU
      have HT := Lib.hid hT
      have HB := Lib.hid hB
      clear hU hT hB f3 f4
      go_wp2_with fail
      refine (take_any A4 m c4 lp X s ser _ hR4 (by omega) hc41 hc42 hs0 (by omega) (by omega)).mono ?_
      rintro e w5 ⟨v5, rfl, hF5, hb5⟩
      rw [← hE]
      rw [← hL] at hF5
      have hRp5 := hRp4.below hb5
      have b5 : Below w.heap.size w w5 := (by (have q_hb5 := Below.size hb5; (try simp at q_hb5); have q_hb4 := Below.size hb4; (try simp at q_hb4); have q_b3 := Below.size b3; (try simp at q_b3); repeat (first | exact Below.refl _ _ | (refine Below.trans ?_ (Below.mono hb5 (by first | omega | (simp; omega) | simp))) | (refine Below.trans ?_ (Below.mono hb4 (by first | omega | (simp; omega) | simp))) | (refine Below.trans ?_ (Below.mono b3 (by first | omega | (simp; omega) | simp))) | (refine Below.setCell ?_ (by first | omega | (simp; omega) | simp) _) | (refine Below.alloc ?_ (by first | omega | (simp; omega) | simp) _) | apply Below.drew | apply below_drewN)))
      clear hE hL hF4 hR4 hRp3 hRp4 hb4 hb5
      by_cases hE0 : E = 0
      · have hu := HU.out hE0
        have ht := HT.out hE0
        obtain rfl := HB.out hE0
        have HU1 := Lib.hid hu.1
        have HU2 := Lib.hid hu.2
        obtain ⟨A5, c5, rfl, hR5, _, _, _⟩ := hF5.rdn m (by rw [ht.2, hlen])
        subst hE0
        clear HU HT HB hu ht hF5
        go_wp2_with fail
        refine (give_any A5 m c5 L X _ hR5 (by omega)).mono ?_
        rintro e w6 ⟨v6, rfl, hF6, hb6⟩
        rw [HU1.out]
        rw [HU2.out] at hF6
        obtain ⟨A6, c6, rfl, hR6, _, _, _⟩ := hF6.rdn m hlen
        go_wp2_with fail
        refine (plainL_any A6 m c6 lp _ hR6 (by omega)).mono ?_
        rintro e w7 ⟨v7, rfl, hF7, hb7⟩
        obtain ⟨A7, c7, rfl, hR7, _, _, _⟩ := hF7.rdn m hlen
        go_wp2_with fail
        refine (same_any A7 Ap m c7 cp lp _ hR7 ((hRp5.below hb6).below hb7) (by omega)).mono ?_
        rintro e w8 ⟨rfl, hb8⟩
        go_wp2_with fail
        refine (pawake_any _).mono ?_
        rintro e w9 ⟨rfl, hb9⟩
        go_wp2_with fail
        go_ret
        exact ⟨rfl, (by (have q_hb9 := Below.size hb9; (try simp at q_hb9); have q_hb8 := Below.size hb8; (try simp at q_hb8); have q_hb7 := Below.size hb7; (try simp at q_hb7); have q_hb6 := Below.size hb6; (try simp at q_hb6); have q_b5 := Below.size b5; (try simp at q_b5); repeat (first | exact Below.refl _ _ | (refine Below.trans ?_ (Below.mono hb9 (by first | omega | (simp; omega) | simp))) | (refine Below.trans ?_ (Below.mono hb8 (by first | omega | (simp; omega) | simp))) | (refine Below.trans ?_ (Below.mono hb7 (by first | omega | (simp; omega) | simp))) | (refine Below.trans ?_ (Below.mono hb6 (by first | omega | (simp; omega) | simp))) | (refine Below.trans ?_ (Below.mono b5 (by first | omega | (simp; omega) | simp))) | (refine Below.setCell ?_ (by first | omega | (simp; omega) | simp) _) | (refine Below.alloc ?_ (by first | omega | (simp; omega) | simp) _) | apply Below.drew | apply below_drewN)))⟩
      · have hEb : (E != 0) = true := by simp [hE0]
        clear HU HT HB hE0
        go_wp2_with fail
        refine (pawake_any _).mono ?_
        rintro e w9 ⟨rfl, hb9⟩
        go_wp2_with fail
        go_ret
        exact ⟨rfl, (by (have q_hb9 := Below.size hb9; (try simp at q_hb9); have q_b5 := Below.size b5; (try simp at q_b5); repeat (first | exact Below.refl _ _ | (refine Below.trans ?_ (Below.mono hb9 (by first | omega | (simp; omega) | simp))) | (refine Below.trans ?_ (Below.mono b5 (by first | omega | (simp; omega) | simp))) | (refine Below.setCell ?_ (by first | omega | (simp; omega) | simp) _) | (refine Below.alloc ?_ (by first | omega | (simp; omega) | simp) _) | apply Below.drew | apply below_drewN)))⟩

set_option maxRecDepth 100000 in
set_option maxHeartbeats 8000000 in
theorem law_first (y : UInt8) (A : Option Addr) (n c : Nat) (l : List Pg) (z : Int) (w : World) (hr : RdG pgE w A n l) (hnc : n ≤ c) (_hc : c ≤ maxLen) (ho : ∀ a ∈ l, inPg a) :
    Calls Try.prog 7 #[.int .u8 (y.toNat : Int), .slice A n c, .int .i64 z] w fun e w' => e = .returned (.bool true) ∧ Below w.heap.size w w' := by
  obtain ⟨m, hm⟩ : ∃ m, m = y.toNat % 65 := ⟨_, rfl⟩
  have hm64 : m ≤ 64 := by omega
  have e2 : ((y.toNat : Nat) : Int).tmod 65 = (m : Int) := by rw [hm]; rfl
  obtain ⟨cs, hmk0, hcs⟩ := make_pages (P := Try.prog) Try.underlying22 infoRP .i64 .i64 m (by omega) w
  have hmk : (Instr.makeSlice 22 (.int .i64 (m : Int)) (.int .i64 (m : Int))).run Try.prog w = .ok (.slice (some ⟨w.heap.size, 0, none⟩) m m) (w.alloc (.cells cs 33)) := hmk0
  clear hmk0
  have F0 : FreshG pgE 33 w.heap.size (w.alloc (.cells cs 33)) (.slice (some ⟨w.heap.size, 0, none⟩) m m) (List.replicate m zeroPg) := FreshG.of_blk (Blk.new _ _ _) (Nat.le_refl _) (by unfold maxLen; omega) (by simp) hcs
  have I0 : PlayI w m (.slice (some ⟨w.heap.size, 0, none⟩) m m) (w.alloc (.cells cs 33)) := by
    obtain ⟨A, c, e, hR, _, h1, h2⟩ := F0.rdn m (by simp)
    exact ⟨A, c, _, e, hR, okL_zero m hm64, h1, h2, (by (repeat (first | exact Below.refl _ _ | (refine Below.setCell ?_ (by first | omega | (simp; omega) | simp) _) | (refine Below.alloc ?_ (by first | omega | (simp; omega) | simp) _) | apply Below.drew | apply below_drewN)))⟩
  clear hcs F0 hm
  have hw64 : wrap64 (y.toNat : Int) = (y.toNat : Int) := IntWalk.wrap64_in _ (by have := y.toNat_lt; omega)
  unfold maxLen at _hc
  go_enter Try.func7, Try.ntmps7
  go_wp2_with fail
  clear hmk e2 hw64
  go_loopw [7, 8, 22] (fun v k i wr => ∃ j : Nat, j ≤ n ∧ i = .int .i64 j ∧ k = .bool true ∧ PlayI w m v wr) (fun _ _ i _ => n - (intOf i).toNat)
  case atStart => exact ⟨0, by omega, rfl, rfl, I0⟩
  case round =>
    clear I0
    obtain ⟨j, hj, rfl, rfl, Ap, cp, lp, rfl, hRp, hok, hp1, hp2, hbp⟩ := hrel
    have hlen := hRp.len
    by_cases hlt : j < n
    · skip
      obtain ⟨b, off, x, rfl, hb, hx, hcell⟩ := (hr.on hbp (Nat.le_refl _)).at_ hlt
      have c0 := hcell 0 _ rfl
      have c1 := hcell 1 _ rfl
      have c2 := hcell 2 _ rfl
      have c3 := hcell 3 _ rfl
      have c4 := hcell 4 _ rfl
      simp only [show pgE.sz = 5 from rfl, Nat.add_zero] at c0 c1 c2 c3 c4
      have hin := ho x (List.mem_of_getElem? hx)
      obtain ⟨o1, o2, o3, o4, o5⟩ := x
      simp only at c0 c1 c2 c3 c4
      clear hcell hx
      by_cases h30 : j < 30
      · have h30' : (j : Int) < 30 := by omega
        have hltI : (j : Int) < n := by omega
        go_wp2_with fail
        refine (step_any Ap m cp lp o1 o2 o3 o4 o5 _ (hRp.below (by (repeat (first | exact Below.refl _ _ | (refine Below.setCell ?_ (by first | omega | (simp; omega) | simp) _) | (refine Below.alloc ?_ (by first | omega | (simp; omega) | simp) _) | apply Below.drew | apply below_drewN)))) (by omega) hp1 hp2 hin).mono ?_
        rintro e w2 ⟨A2, c2', l2, rfl, hR2, h21, h22, hk2, hb2⟩
        have hI : PlayI w m (.slice A2 m c2') w2 := ⟨A2, c2', l2, rfl, hR2, hk2 hok, h21, h22, (by (have q_hb2 := Below.size hb2; (try simp at q_hb2); have q_hbp := Below.size hbp; (try simp at q_hbp); repeat (first | exact Below.refl _ _ | (refine Below.trans ?_ (Below.mono hb2 (by first | omega | (simp; omega) | simp))) | (refine Below.trans ?_ (Below.mono hbp (by first | omega | (simp; omega) | simp))) | (refine Below.setCell ?_ (by first | omega | (simp; omega) | simp) _) | (refine Below.alloc ?_ (by first | omega | (simp; omega) | simp) _) | apply Below.drew | apply below_drewN)))⟩
        go_wp2_with fail
        go_roundw
        case rel => exact ⟨j + 1, by omega, by go_num, rfl, hI⟩
        case measure => simp [intOf] <;> omega
      · have h30' : ¬ (j : Int) < 30 := by omega
        have hltI : (j : Int) < n := by omega
        go_wp2_with fail
        go_roundw
        case rel => exact ⟨j + 1, by omega, by go_num, rfl, Ap, cp, lp, rfl, hRp.below (by (repeat (first | exact Below.refl _ _ | (refine Below.setCell ?_ (by first | omega | (simp; omega) | simp) _) | (refine Below.alloc ?_ (by first | omega | (simp; omega) | simp) _) | apply Below.drew | apply below_drewN))), hok, hp1, hp2, (by (have q_hbp := Below.size hbp; (try simp at q_hbp); repeat (first | exact Below.refl _ _ | (refine Below.trans ?_ (Below.mono hbp (by first | omega | (simp; omega) | simp))) | (refine Below.setCell ?_ (by first | omega | (simp; omega) | simp) _) | (refine Below.alloc ?_ (by first | omega | (simp; omega) | simp) _) | apply Below.drew | apply below_drewN)))⟩
        case measure => simp [intOf] <;> omega
    · obtain rfl : j = n := by omega
      have h4 := and2047 z
      obtain ⟨s', hs⟩ : ∃ s', s' = z % 2048 := ⟨_, rfl⟩
      rw [← hs] at h4
      obtain ⟨s, rfl⟩ : ∃ s, s' = s - 121 := ⟨s' + 121, by omega⟩
      have hs1 : 121 ≤ s := by omega
      have hs2 : s ≤ 2168 := by omega
      clear hs
      have hs4 : 121 + (s - 121) = s := by omega
      have hpc : (s + 255) / 256 = pagesC s := rfl
      have hlo : longB s = true := by unfold longB; simp; omega
      obtain ⟨pp1, pp2⟩ := pagesC_range hlo
      have key := fun k : Nat => take_free (l := lp) (k := k) (size := s) (s := 1) hok hlo (by decide)
      have KEY := Lib.hid key
      clear key
      go_wp2_with fail
      refine (ours_any Ap m cp lp _ hRp (by omega)).mono ?_
      rintro e w2 ⟨v2, rfl, hF2, hb2⟩
      obtain ⟨A2, c2, rfl, hR2, _, _, _⟩ := hF2.rdn m hlen
      go_wp2_with fail
      rw [hpc]
      refine (first_any A2 m c2 lp (pagesC s) _ hR2 (by omega)).mono ?_
      rintro e w3 ⟨rfl, hb3⟩
      obtain ⟨bb, X, Y, f1, f2, f3, f4⟩ := first_both lp (pagesC s)
      rw [hlen] at f1
      rw [f1]
      have hRp3 := (hRp.below hb2).below hb3
      have b3 : Below w.heap.size w w3 := (by (have q_hb3 := Below.size hb3; (try simp at q_hb3); have q_hb2 := Below.size hb2; (try simp at q_hb2); have q_hbp := Below.size hbp; (try simp at q_hbp); repeat (first | exact Below.refl _ _ | (refine Below.trans ?_ (Below.mono hb3 (by first | omega | (simp; omega) | simp))) | (refine Below.trans ?_ (Below.mono hb2 (by first | omega | (simp; omega) | simp))) | (refine Below.trans ?_ (Below.mono hbp (by first | omega | (simp; omega) | simp))) | (refine Below.setCell ?_ (by first | omega | (simp; omega) | simp) _) | (refine Below.alloc ?_ (by first | omega | (simp; omega) | simp) _) | apply Below.drew | apply below_drewN)))
      have hfree : ∀ k : Nat, k < m → (bb = true → (k : Int) < X) → takeErr lp k s 1 ≠ 0 := by
        intro k hk hkx h0
        rw [KEY.out k] at h0
        cases bb
        · obtain ⟨_, rfl⟩ := f4 rfl
          rw [firstFI_neg f2 (by omega) k (by omega)] at h0
          cases h0
        · obtain ⟨rfl, h1⟩ := f3 rfl
          have := (firstFI_pos f2 h1).2.2 k (by have := hkx rfl; omega)
          rw [this] at h0
          cases h0
      have hhit : bb = true → 0 ≤ X ∧ X < m ∧ takeErr lp X s 1 = 0 := by
        intro hb
        obtain ⟨rfl, h1⟩ := f3 hb
        obtain ⟨g1, g2, _⟩ := firstFI_pos f2 h1
        obtain ⟨q, rfl⟩ := Int.eq_ofNat_of_zero_le h1
        refine ⟨h1, by omega, (KEY.out q).2 ?_⟩
        simpa using g1
      have HFR := Lib.hid hfree
      have HHIT := Lib.hid hhit
      clear f1 f2 f3 f4 hF2 hR2 hb2 hb3 hfree hhit KEY
      go_wp2_with fail
      go_loopw [55] (fun i wr => ∃ k : Nat, k ≤ m ∧ i = .int .i64 k ∧ (bb = true → (k : Int) ≤ X) ∧ Below w3.heap.size w3 wr) (fun i _ => m - (intOf i).toNat)
      case atStart => exact ⟨0, by omega, rfl, fun h => (HHIT.out h).1, Below.refl _ _⟩
      case round =>
        obtain ⟨k, hk, rfl, hkx, hbk⟩ := hrel
        have HKX := Lib.hid hkx
        clear hkx
        by_cases hkm : k < m
        · have hkm' : (k : Int) < m := by omega
          go_wp2_with fail
          refine (ours_any Ap m cp lp _ (hRp3.below hbk) (by omega)).mono ?_
          rintro e w4 ⟨v4, rfl, hF4, hb4⟩
          obtain ⟨A4, c4, rfl, hR4, _, hc41, hc42⟩ := hF4.rdn m hlen
          have HNF := Lib.hid (HFR.out k hkm)
          have HYF := Lib.hid (fun (h : bb = true) (hx : (k : Int) = X) => by have := (HHIT.out h).2.2; rw [← hx] at this; exact this)
          obtain ⟨E, hE⟩ : ∃ E, E = takeErr lp k s 1 := ⟨_, rfl⟩
          rw [← hE] at HNF HYF
          go_wp2_with fail
          refine (take_any A4 m c4 lp k s 1 _ hR4 (by omega) hc41 hc42 (by omega) (by omega) (by omega)).mono ?_
          rintro e w5 ⟨v5, rfl, hF5, hb5⟩
          rw [← hE]
          have b5 : Below w3.heap.size w3 w5 := (by (have q_hb5 := Below.size hb5; (try simp at q_hb5); have q_hb4 := Below.size hb4; (try simp at q_hb4); have q_hbk := Below.size hbk; (try simp at q_hbk); repeat (first | exact Below.refl _ _ | (refine Below.trans ?_ (Below.mono hb5 (by first | omega | (simp; omega) | simp))) | (refine Below.trans ?_ (Below.mono hb4 (by first | omega | (simp; omega) | simp))) | (refine Below.trans ?_ (Below.mono hbk (by first | omega | (simp; omega) | simp))) | (refine Below.setCell ?_ (by first | omega | (simp; omega) | simp) _) | (refine Below.alloc ?_ (by first | omega | (simp; omega) | simp) _) | apply Below.drew | apply below_drewN)))
          have b5' := b5.mono b3.size
          clear hE hF4 hR4 hb4 hF5 hb5
          cases bb
          · have hE0 : E ≠ 0 := HNF.out (fun h => by cases h)
            have hEb : (E == 0) = false := by simp [hE0]
            clear hE0
            go_wp2_with fail
            go_roundw
            case rel => exact ⟨k + 1, by omega, by go_num, (fun h => by cases h), b5⟩
            case measure => simp [intOf] <;> omega
          · by_cases hx : (k : Int) = X
            · have hE0 : E = 0 := HYF.out rfl hx
              subst hE0
              have hxb : ((k : Int) == X) = true := by simp [hx]
              have HX := Lib.hid hx
              clear hx
              go_wp2_with fail
              refine (pawake_any _).mono ?_
              rintro e w9 ⟨rfl, hb9⟩
              go_wp2_with fail
              go_ret
              exact ⟨rfl, (by (have q_hb9 := Below.size hb9; (try simp at q_hb9); have q_b5' := Below.size b5'; (try simp at q_b5'); have q_b3 := Below.size b3; (try simp at q_b3); repeat (first | exact Below.refl _ _ | (refine Below.trans ?_ (Below.mono hb9 (by first | omega | (simp; omega) | simp))) | (refine Below.trans ?_ (Below.mono b5' (by first | omega | (simp; omega) | simp))) | (refine Below.trans ?_ (Below.mono b3 (by first | omega | (simp; omega) | simp))) | (refine Below.setCell ?_ (by first | omega | (simp; omega) | simp) _) | (refine Below.alloc ?_ (by first | omega | (simp; omega) | simp) _) | apply Below.drew | apply below_drewN)))⟩
            · have hE0 : E ≠ 0 := HNF.out (fun h' => by have := HKX.out h'; omega)
              have hEb : (E == 0) = false := by simp [hE0]
              have hxb : ((k : Int) == X) = false := by simp [hx]
              have HX := Lib.hid hx
              clear hE0 hx
              go_wp2_with fail
              go_roundw
              case rel => exact ⟨k + 1, by omega, by go_num, fun h' => (by have := HKX.out h'; have := HX.out; omega), b5⟩
              case measure => simp [intOf] <;> omega
        · obtain rfl : k = m := by omega
          cases bb
          · have b4 : Below w.heap.size w wr := b3.trans (hbk.mono b3.size)
            go_wp2_with fail
            refine (pawake_any _).mono ?_
            rintro e w9 ⟨rfl, hb9⟩
            go_wp2_with fail
            go_ret
            exact ⟨rfl, (by (have q_hb9 := Below.size hb9; (try simp at q_hb9); have q_b4 := Below.size b4; (try simp at q_b4); repeat (first | exact Below.refl _ _ | (refine Below.trans ?_ (Below.mono hb9 (by first | omega | (simp; omega) | simp))) | (refine Below.trans ?_ (Below.mono b4 (by first | omega | (simp; omega) | simp))) | (refine Below.setCell ?_ (by first | omega | (simp; omega) | simp) _) | (refine Below.alloc ?_ (by first | omega | (simp; omega) | simp) _) | apply Below.drew | apply below_drewN)))⟩
          · have e1 : (k : Int) ≤ X := by first | exact HKX.out rfl | exact HKX.out trivial
            have e2' : X < k := by first | exact (HHIT.out rfl).2.1 | exact (HHIT.out trivial).2.1
            omega
end Go.Proofs.Ytidlcplamgajpaa
