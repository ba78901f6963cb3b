/- Contracts of the functions on supers: Epochs, when it answers. -/
import Derived.Test.YthepgnankelmeaaSuper5
import Derived.Outline
namespace Go.Proofs.Ythepgnankelmeaa
open Go.RowKit

/-- How many numbers of eight bytes are read. -/
def nSeal (p : Int) : Nat := (sealedI p).toNat
theorem nSeal_eq {p t : Int} (h : gmay p t = true) : (nSeal p : Int) = sealedI p ∧ nSeal p ≤ 69 ∧ 3 ≤ nSeal p ∧ (8 * (nSeal p : Int) ≤ 256 * epochsI p) := by
  obtain ⟨h1, h2, _, _⟩ := gmay_true h
  obtain ⟨m0, m1, s0, s1, e0, e1⟩ := geo_range h1 h2
  unfold nSeal
  refine ⟨by omega, by omega, by omega, ?_⟩
  have : epochsI p = (sealedI p + 31) / 32 := rfl
  omega

set_option maxRecDepth 100000 in
set_option maxHeartbeats 4000000 in
theorem epochs_yes (p t : Int) (A : Option Addr) (n c : Nat) (ls : List (List UInt8)) (w : World) (hr : RdSS w A n ls) (hm : gmay p t = true) (hn : (n : Int) = epochsI p) (ha : ls.any shortB = false) :
    Calls Try.prog 43 #[.agg #[.int .i64 p, .int .i64 t], .slice A n c] w (GivesN 46 w (epsL ls.flatten (nSeal p)) 0) := by
  have B0 : Blk (w.alloc (.cells #[.int .i64 p, .int .i64 t] 23)) w.heap.size 23 #[.int .i64 p, .int .i64 t] := Blk.new _ _ _
  obtain ⟨s1, s2, s3, s4⟩ := nSeal_eq hm
  obtain ⟨h1, h2, _, _⟩ := gmay_true hm
  have hE : epochsI p ≤ 3 := (geo_range h1 h2).2.2.2.2.2
  have hfl := flat_len256 ls ha
  rw [hr.len] at hfl
  obtain ⟨S, hS⟩ : ∃ S, S = nSeal p := ⟨_, rfl⟩
  rw [← hS] at s1 s2 s3 s4 ⊢
  obtain ⟨b, hb⟩ : ∃ b, b = ls.flatten := ⟨_, rfl⟩
  rw [← hb] at hfl ⊢
  obtain ⟨L, hL⟩ : ∃ L, L = epsL b S := ⟨_, rfl⟩
  rw [← hL]
  have hLl : L.length = S := by rw [hL, epsL_len]
  have hg : ∀ k, k < S → L[k]? = some (numAt b k) := fun k hk => by rw [hL]; exact epsL_get b S k hk
  have h8 : ∀ k, k < S → 8 * k + 8 ≤ b.length := fun k hk => by rw [hfl]; omega
  have HN := Lib.hid hn
  have HA := Lib.hid ha
  have HB := Lib.hid hb
  have HG := Lib.hid hg
  have H8 := Lib.hid h8
  have hn3 : n ≤ 3 := by omega
  have hbl : b.length ≤ 768 := by omega
  have S1 := Lib.hid s1
  clear hn ha hb hg h8 hS s1 s4 hE h1 h2 hL hfl
  have hmk : ∀ W : World, (Instr.makeSlice 61 (.int .i64 (S : Int)) (.int .i64 (S : Int))).run Try.prog W = .ok (.slice (some ⟨W.heap.size, 0, none⟩) S S) (W.alloc (.cells (madeCells #[.int .u64 0] S) 46)) :=
    make_u64 (P := Try.prog) Try.underlying61 info64 .i64 .i64 S (by omega)
  go_enter Try.func43, Try.ntmps43
  go_wp2_with fail
  refine (check_yes p t _ hm).mono ?_
  rintro e w1 ⟨rfl, hb1⟩
  have B1 := B0.on hb1
  have c1 := B1.cell
  have hr1 := (hr.alloc (.cells #[.int .i64 p, .int .i64 t] 23)).below hb1
  have b1 : Below w.heap.size w w1 := (by (have q_hb1 := Below.size hb1; (try simp at q_hb1); repeat (first | exact Below.refl _ _ | (refine Below.trans ?_ (Below.mono hb1 (by first | omega | (simp; omega) | simp))) | (refine Below.setCell ?_ (by first | omega | (simp; omega) | simp) _) | (refine Below.alloc ?_ (by first | omega | (simp; omega) | simp) _) | apply Below.drew | apply below_drewN)))
  go_wp2_with fail
  refine (gepochs p t _ hm).mono ?_
  rintro e w2 ⟨rfl, hb2⟩
  have hr2 := hr1.below hb2
  have B2 := B1.on hb2
  have b2 := b1.trans (hb2.mono b1.size)
  rw [← HN.out]
  clear c1 hr1 B1 b1 hb2 hb1 hr B0
  go_wp2_with fail
  refine (has_len A n c ls _ hr2 (by omega)).mono ?_
  rintro e w3 ⟨rfl, rfl⟩
  rw [HA.out]
  go_wp2_with fail
  refine (concat_any A n c ls _ hr2 (by omega) (by rw [← HB.out]; omega)).mono ?_
  rintro e w4 ⟨v4, rfl, hF4, hb4⟩
  rw [← HB.out] at hF4
  obtain ⟨A4, c4, rfl, hR4, _, hc41, hc42⟩ := hF4.rdn b.length rfl
  have B4 := B2.on hb4
  have b4 := b2.trans (hb4.mono b2.size)
  clear hr2 B2 b2 hb4 hF4
  go_wp2_with fail
  refine (of_any A4 b.length c4 b _ hR4 (by omega)).mono ?_
  rintro e w5 ⟨g, rfl, hg5, hRow5, hb5⟩
  have B5 := B4.on hb5
  have b5 := b4.trans (hb5.mono b4.size)
  have hgw : w.heap.size ≤ g := by have := b4.size; omega
  have c5 := B5.cell
  have z5 := hRow5.lt
  clear B4 b4 hb5 hR4 hg5
  go_wp2_with fail
  refine (gsealed p t _ hm).mono ?_
  rintro e w6 ⟨rfl, hb6⟩
  rw [← S1.out]
  have hRow6 := hRow5.below hb6
  have b6 := b5.trans (hb6.mono b5.size)
  have z6 := hRow6.lt
  have hz6 := b6.size
  clear B5 b5 c5 hRow5 z5 hb6
  go_wp2_with fail
  clear hmk
  obtain ⟨o, ho⟩ : ∃ o, o = w6.heap.size := ⟨_, rfl⟩
  have F7 : FreshG u64E 46 w6.heap.size (w6.alloc (.cells (madeCells #[.int .u64 0] S) 46)) (.slice (some ⟨w6.heap.size, 0, none⟩) S S) (partN L 0) := by
    have e0 : partN L 0 = List.replicate S 0 := by simp [partN, hLl]
    rw [e0]
    exact FreshG.of_blk (Blk.new _ _ _) (Nat.le_refl _) (by unfold maxLen; omega) (by simp) (made_u64 S)
  have hRow7 : RowIs 114 (w6.alloc (.cells (madeCells #[.int .u64 0] S) 46)) g [g, w6.heap.size] b 0 :=
    (hRow6.wide (by simp) (by simp)).below (by (repeat (first | exact Below.refl _ _ | (refine Below.setCell ?_ (by first | omega | (simp; omega) | simp) _) | (refine Below.alloc ?_ (by first | omega | (simp; omega) | simp) _) | apply Below.drew | apply below_drewN)))
  have b7 : Below w.heap.size w (w6.alloc (.cells (madeCells #[.int .u64 0] S) 46)) := (by (have q_b6 := Below.size b6; (try simp at q_b6); repeat (first | exact Below.refl _ _ | (refine Below.trans ?_ (Below.mono b6 (by first | omega | (simp; omega) | simp))) | (refine Below.setCell ?_ (by first | omega | (simp; omega) | simp) _) | (refine Below.alloc ?_ (by first | omega | (simp; omega) | simp) _) | apply Below.drew | apply below_drewN)))
  rw [← ho] at F7 hRow7 ⊢
  obtain ⟨w7, hw7⟩ : ∃ w7, w7 = w6.alloc (.cells (madeCells #[.int .u64 0] S) 46) := ⟨_, rfl⟩
  rw [← hw7] at F7 hRow7 b7 ⊢
  clear hw7 hRow6 b6
  have hgo : g ≠ o := by omega
  have hgo' : g < o := by omega
  have hwo : w.heap.size ≤ o := by omega
  clear ho z6 hz6
  go_loopw [34] (fun i wr => ∃ k : Nat, k ≤ S ∧ i = .int .i64 k ∧ FreshG u64E 46 o wr (.slice (some ⟨o, 0, none⟩) S S) (partN L k) ∧ RowIs 114 wr g [g, o] (b.drop (8 * k)) 0 ∧ Below w.heap.size w wr) (fun i _ => S - (intOf i).toNat)
  case atStart => exact ⟨0, by omega, rfl, F7, by simpa using hRow7, b7⟩
  case round =>
    clear F7 hRow7 b7
    obtain ⟨k, hk, rfl, hF, hRw, hbr⟩ := hrel
    by_cases hlt : k < S
    · obtain ⟨t1, t2, t3⟩ := take_eight b k (H8.out k hlt)
      have HT := Lib.hid (And.intro t1 (And.intro t2 t3))
      have HV := Lib.hid (HG.out k hlt)
      clear t1 t2 t3
      go_wp2_with fail
      refine (num_any g [g, o] _ 0 8 _ hRw (by omega)).mono ?_
      rintro e w8 ⟨rfl, hRw8, hK8⟩
      have hF8 := hF.kept hK8 (by simpa using hgo')
      have hb8 := hbr.trans (hK8.below hbr.size (by simpa using hgw))
      have e8 : numN 8 = 8 := rfl
      rw [e8, HT.out.1]
      rw [e8, HT.out.2.1, HT.out.2.2] at hRw8
      have e9 : getL ((b.drop (8 * k)).take 8) = numAt b k := rfl
      rw [e9]
      clear e8 e9 hRw hF hbr hK8
      have hpl : (partN L k).length = S := by rw [partN_len L k (by omega), hLl]
      obtain ⟨g', cur, hA', hg', hB, _, _, _⟩ := hF8.open_ hpl (by omega)
      injection hA' with hA'
      injection hA' with hA'
      subst hA'
      obtain ⟨u, cc⟩ := hF8.oneCell hpl rfl rfl hB k hlt
      have ff := hB.frozen k
      have hset := hF8.setOne hpl rfl rfl hB k hlt (numAt b k) (.int .u64 (numAt b k : Int)) rfl
      rw [partN_set HV.out] at hset
      have hRw9 := hRw8.kept (gs' := [o]) (Kept.setCell (p := ⟨o, k, none⟩) (.refl [o] w8) (by simp) (.int .u64 (numAt b k : Int))) (by simp) (by simpa using hgo)
      have hb9 : Below w.heap.size w (w8.setCell ⟨o, k, none⟩ (.int .u64 (numAt b k : Int))) := hb8.trans ((Kept.setCell (p := ⟨o, k, none⟩) (.refl [o] w8) (by simp) (.int .u64 (numAt b k : Int))).below hb8.size (by simpa using hwo))
      have hkS : (k : Int) < S := by omega
      clear hF8 hRw8 hb8 hpl hg' 
      go_wp2_with fail
      go_roundw
      case rel => exact ⟨k + 1, by omega, by go_num, hset, hRw9, hb9⟩
      case measure => simp [intOf] <;> omega
    · obtain rfl : k = S := by omega
      have hfin : partN L k = L := by rw [← hLl]; exact partN_done L
      rw [hfin] at hF
      go_wp2_with fail
      go_ret2
      exact ⟨_, rfl, hF.from_ hwo, hbr⟩
end Go.Proofs.Ythepgnankelmeaa
