/- Contracts of the functions on supers: Block; the document's Block. -/
import Derived.Test.YthepgnankelmeaaSuper7
import Derived.Test.YthepgnankelmeaaGeom7
import Derived.Outline
namespace Go.Proofs.Ythepgnankelmeaa
open Go.RowKit

/-- The bytes of the numbers, eight each. -/
def bytes8 (m : List Nat) : List UInt8 := m.flatMap fun v : Nat => putL 8 (v : Int)
theorem bytes8_len (m : List Nat) : (bytes8 m).length = 8 * m.length := by
  unfold bytes8
  induction m with
  | nil => rfl
  | cons v m ih => rw [List.flatMap_cons, List.length_append, ih, putL_len, List.length_cons]; omega
theorem bytes8_snoc (m : List Nat) (v : Nat) : bytes8 (m ++ [v]) = bytes8 m ++ putL 8 (v : Int) := by simp [bytes8]
theorem bytes8_app (m m' : List Nat) : bytes8 (m ++ m') = bytes8 m ++ bytes8 m' := by simp [bytes8]
theorem putL8_zero : putL 8 0 = List.replicate 8 0 := by decide +kernel
theorem bytes8_zero (q : Nat) : bytes8 (List.replicate q 0) = List.replicate (8 * q) 0 := by
  induction q with
  | zero => rfl
  | succ q ih =>
    rw [List.replicate_succ', bytes8_snoc, ih]
    show _ ++ putL 8 0 = _
    rw [putL8_zero, List.replicate_append_replicate]
    congr 1
/-- The numbers of block k: 32, noughts behind the last. -/
def part32 (l : List Nat) (k : Nat) : List Nat := (l.drop (32 * k)).take 32
def nums32 (l : List Nat) (k : Nat) : List Nat := (List.range 32).map fun i => (l[32 * k + i]?).getD 0
theorem part32_len (l : List Nat) (k : Nat) : (part32 l k).length = min 32 (l.length - 32 * k) := by simp [part32]
theorem nums32_eq (l : List Nat) (k : Nat) : nums32 l k = part32 l k ++ List.replicate (32 - (part32 l k).length) 0 := by
  unfold nums32
  apply List.ext_getElem?
  intro i
  rw [List.getElem?_map]
  by_cases h : i < 32
  · rw [List.getElem?_range h]
    simp only [Option.map_some]
    by_cases h2 : i < (part32 l k).length
    · rw [List.getElem?_append_left h2]
      unfold part32 at h2 ⊢
      rw [List.getElem?_take, if_pos h, List.getElem?_drop]
      have h3 : 32 * k + i < l.length := by simp at h2; omega
      rw [List.getElem?_eq_getElem h3]
      rfl
    · rw [List.getElem?_append_right (by omega), List.getElem?_replicate, if_pos (by omega)]
      have h3 : l.length ≤ 32 * k + i := by rw [part32_len] at h2; omega
      rw [List.getElem?_eq_none h3]
      rfl
  · have e := part32_len l k
    rw [List.getElem?_eq_none (by simp; omega), List.getElem?_eq_none (by simp; omega)]
    rfl
theorem pad_nums (l : List Nat) (k : Nat) : padL 256 (bytes8 (part32 l k)) = bytes8 (nums32 l k) := by
  have e := part32_len l k
  rw [nums32_eq, bytes8_app, bytes8_zero]
  unfold padL
  rw [List.take_of_length_le (by rw [bytes8_len]; omega), bytes8_len]
  congr 2
  omega
theorem RdG.partOne {α : Type} {E : Enc α} {w : World} {b off n : Nat} {l : List α} (h : RdG E w (some ⟨b, off, none⟩) n l) (h1 : E.sz = 1) (k m : Nat) (hk : k ≤ m) (hm : m ≤ n) : RdG E w (some ⟨b, off + k, none⟩) (m - k) ((l.take m).drop k) := by
  refine ⟨by rw [List.length_drop, List.length_take, h.len]; omega, fun hn => ?_⟩
  obtain ⟨b', off', e, hlt, hc⟩ := h.2 (by omega)
  injection e with e
  injection e with e1 e2
  subst e1 e2
  refine ⟨b, off + k, rfl, hlt, fun q a hq j u hu => ?_⟩
  rw [List.getElem?_drop, List.getElem?_take] at hq
  split at hq
  · have := hc (k + q) a hq j u hu
    rw [h1] at this ⊢
    rw [← this]
    congr 2
    omega
  · cases hq

/-- A block and no error. -/
def GivesBE (T : TypeId) (w : World) (l : List UInt8) (x : Int) (e : Ending) (w' : World) : Prop := ∃ v, e = .returned (.tuple #[v, .int .i64 x]) ∧ Fresh T w.heap.size w' v l ∧ Below w.heap.size w w'

set_option maxRecDepth 100000 in
set_option maxHeartbeats 4000000 in
theorem block_no (p t k : Int) (A : Option Addr) (n c : Nat) (w : World) (h : gmay p t = false ∨ (n : Int) ≠ sealedI p ∨ eAt p t k < 0) :
    Calls Try.prog 47 #[.agg #[.int .i64 p, .int .i64 t], .int .i64 k, .slice A n c] w (EpsNo w) := by
  have B0 : Blk (w.alloc (.cells #[.int .i64 p, .int .i64 t] 23)) w.heap.size 23 #[.int .i64 p, .int .i64 t] := Blk.new _ _ _
  cases hm : gmay p t
  · go_enter Try.func47, Try.ntmps47
    go_wp2_with fail
    refine (check_no p t _ hm).mono ?_
    rintro e w1 ⟨rfl, hb1⟩
    go_wp2_with fail
    go_ret2
    exact ⟨rfl, (by (have q_hb1 := Below.size hb1; (try simp at q_hb1); repeat (first | exact Below.refl _ _ | (refine Below.trans ?_ (Below.mono hb1 (by first | omega | (simp; omega) | simp))) | (refine Below.setCell ?_ (by first | omega | (simp; omega) | simp) _) | (refine Below.alloc ?_ (by first | omega | (simp; omega) | simp) _) | apply Below.drew | apply below_drewN)))⟩
  · by_cases hn1 : (n : Int) = sealedI p
    · have he : eAt p t k < 0 := by
        rcases h with h | h | h
        · rw [hm] at h; cases h
        · exact absurd hn1 h
        · exact h
      have HN := Lib.hid hn1
      clear hn1 h
      obtain ⟨x, hx⟩ : ∃ x, x = eAt p t k := ⟨_, rfl⟩
      have HX := Lib.hid hx
      rw [← hx] at he
      clear hx
      go_enter Try.func47, Try.ntmps47
      go_wp2_with fail
      refine (check_yes p t _ hm).mono ?_
      rintro e w1 ⟨rfl, hb1⟩
      have B1 := B0.on hb1
      have c1 := B1.cell
      go_wp2_with fail
      refine (gsealed p t _ hm).mono ?_
      rintro e w2 ⟨rfl, hb2⟩
      rw [← HN.out]
      have B2 := B1.on hb2
      have c2 := B2.cell
      go_wp2_with fail
      refine (eAt_any p t k _).mono ?_
      rintro e w3 ⟨rfl, hb3⟩
      rw [← HX.out]
      go_wp2_with fail
      go_ret2
      exact ⟨rfl, (by (have q_hb3 := Below.size hb3; (try simp at q_hb3); have q_hb2 := Below.size hb2; (try simp at q_hb2); have q_hb1 := Below.size hb1; (try simp at q_hb1); repeat (first | exact Below.refl _ _ | (refine Below.trans ?_ (Below.mono hb3 (by first | omega | (simp; omega) | simp))) | (refine Below.trans ?_ (Below.mono hb2 (by first | omega | (simp; omega) | simp))) | (refine Below.trans ?_ (Below.mono hb1 (by first | omega | (simp; omega) | simp))) | (refine Below.setCell ?_ (by first | omega | (simp; omega) | simp) _) | (refine Below.alloc ?_ (by first | omega | (simp; omega) | simp) _) | apply Below.drew | apply below_drewN)))⟩
    · have hq : ((n : Int) != sealedI p) = true := by simp [hn1]
      clear hn1 h
      go_enter Try.func47, Try.ntmps47
      go_wp2_with fail
      refine (check_yes p t _ hm).mono ?_
      rintro e w1 ⟨rfl, hb1⟩
      have B1 := B0.on hb1
      have c1 := B1.cell
      go_wp2_with fail
      refine (gsealed p t _ hm).mono ?_
      rintro e w2 ⟨rfl, hb2⟩
      go_wp2_with fail
      go_ret2
      exact ⟨rfl, (by (have q_hb2 := Below.size hb2; (try simp at q_hb2); have q_hb1 := Below.size hb1; (try simp at q_hb1); repeat (first | exact Below.refl _ _ | (refine Below.trans ?_ (Below.mono hb2 (by first | omega | (simp; omega) | simp))) | (refine Below.trans ?_ (Below.mono hb1 (by first | omega | (simp; omega) | simp))) | (refine Below.setCell ?_ (by first | omega | (simp; omega) | simp) _) | (refine Below.alloc ?_ (by first | omega | (simp; omega) | simp) _) | apply Below.drew | apply below_drewN)))⟩

/-- Numbers known in one world, in a world behind it. -/
theorem RdG.on' {α : Type} {E : Enc α} {w0 w' : World} {A : Option Addr} {n : Nat} {l : List α} (h : RdG E w0 A n l) (hb : Below w0.heap.size w0 w') : RdG E w' A n l := h.below hb
set_option maxRecDepth 100000 in
set_option maxHeartbeats 4000000 in
theorem block_yes (p t : Int) (k : Nat) (A : Option Addr) (n c : Nat) (l : List Nat) (w : World) (hr : RdG u64E w A n l) (hnc : n ≤ c) (hm : gmay p t = true) (hn : (n : Int) = sealedI p) (hk : (k : Int) < epochsI p) (hv : ∀ v ∈ l, v ≤ 18446744073709551615) :
    Calls Try.prog 47 #[.agg #[.int .i64 p, .int .i64 t], .int .i64 k, .slice A n c] w (GivesBE 5 w (bytes8 (nums32 l k)) 0) := by
  have B0 : Blk (w.alloc (.cells #[.int .i64 p, .int .i64 t] 23)) w.heap.size 23 #[.int .i64 p, .int .i64 t] := Blk.new _ _ _
  obtain ⟨h1, h2, _, _⟩ := gmay_true hm
  obtain ⟨m0, m1, s0, s1, e0, e1⟩ := geo_range h1 h2
  have hE : epochsI p = (sealedI p + 31) / 32 := rfl
  have hlo : 32 * k < n := by omega
  have hn69 : n ≤ 69 := by omega
  obtain ⟨b, off, _, rfl, hb, _, _⟩ := hr.at_ hlo
  obtain ⟨m, hm2⟩ : ∃ m, m = min (32 * (k + 1)) n := ⟨_, rfl⟩
  have hpart := hr.partOne rfl (32 * k) m (by omega) (by omega)
  have hpl : (l.take m).drop (32 * k) = part32 l k := by
    have := hr.len
    unfold part32
    rw [List.drop_take]
    by_cases h : 32 * (k + 1) ≤ n
    · rw [show m - 32 * k = 32 from by omega]
    · rw [List.take_of_length_le (by rw [List.length_drop]; omega), List.take_of_length_le (by rw [List.length_drop]; omega)]
  rw [hpl] at hpart
  have hat : 0 ≤ eAt p t k := by
    unfold eAt aheadI
    rw [if_pos ⟨hm, by omega, hk⟩]
    show 0 ≤ (1 : Int) + k
    omega
  have HN := Lib.hid hn
  obtain ⟨x, hx⟩ : ∃ x, x = eAt p t k := ⟨_, rfl⟩
  have HX := Lib.hid hx
  rw [← hx] at hat
  clear hx hpl hE hn m0 m1 s0 s1 e0 e1 h1 h2
  obtain ⟨M, hM⟩ : ∃ M, M = m - 32 * k := ⟨_, rfl⟩
  rw [← hM] at hpart
  have hM1 : 32 * k + M = m := by omega
  have hmn : m ≤ n := by omega
  have HM := Lib.hid hm2
  have hmin : min (32 * ((k : Int) + 1)) (n : Int) = (m : Int) := by omega
  clear hM hm2
  go_enter Try.func47, Try.ntmps47
  go_wp2_with fail
  refine (check_yes p t _ hm).mono ?_
  rintro e w1 ⟨rfl, hb1⟩
  have B1 := B0.on hb1
  have c1 := B1.cell
  go_wp2_with fail
  refine (gsealed p t _ hm).mono ?_
  rintro e w2 ⟨rfl, hb2⟩
  rw [← HN.out]
  have B2 := B1.on hb2
  have c2 := B2.cell
  go_wp2_with fail
  refine (eAt_any p t k _).mono ?_
  rintro e w3 ⟨rfl, hb3⟩
  rw [← HX.out]
  have HP := Lib.hid hpart
  have HV := Lib.hid (show ∀ v ∈ part32 l k, v ≤ 18446744073709551615 from fun v hx => hv v (List.mem_of_mem_drop (List.mem_of_mem_take hx)))
  have hnB : n ≤ 9223372036854775807 := by omega
  clear hv hr
  have b3 : Below w.heap.size w w3 := (by (have q_hb3 := Below.size hb3; (try simp at q_hb3); have q_hb2 := Below.size hb2; (try simp at q_hb2); have q_hb1 := Below.size hb1; (try simp at q_hb1); repeat (first | exact Below.refl _ _ | (refine Below.trans ?_ (Below.mono hb3 (by first | omega | (simp; omega) | simp))) | (refine Below.trans ?_ (Below.mono hb2 (by first | omega | (simp; omega) | simp))) | (refine Below.trans ?_ (Below.mono hb1 (by first | omega | (simp; omega) | simp))) | (refine Below.setCell ?_ (by first | omega | (simp; omega) | simp) _) | (refine Below.alloc ?_ (by first | omega | (simp; omega) | simp) _) | apply Below.drew | apply below_drewN)))
  clear B0 B1 B2 c1 c2 hb1 hb2 hb3 hpart
  clear hmin
  by_cases hc : 32 * (k + 1) ≤ n
  · have hmv : m = 32 * (k + 1) := by rw [HM.out]; omega
    have hc' : 32 * ((k : Int) + 1) ≤ n := by omega
    clear HM
    go_wp2_with fail
    rw [show 32 * (k + 1) - 32 * k = M from by omega]
    have hM69 : M ≤ 69 := by omega
    clear hc hc' hmv hM1 hmn
    go_loopw [8, 38] (fun bb i wr => ∃ j : Nat, j ≤ M ∧ i = .int .i64 j ∧ Fresh 5 w.heap.size wr bb (bytes8 ((part32 l k).take j)) ∧ Below w.heap.size w wr) (fun _ i _ => M - (intOf i).toNat)
    case atStart => exact ⟨0, by omega, rfl, Fresh.nil _ _ _, b3⟩
    case round =>
      clear b3
      obtain ⟨j, hj, rfl, hF, hbr⟩ := hrel
      by_cases hlt : j < M
      · obtain ⟨bx, offx, v, hA, hbx, hx, hc0⟩ := (HP.out.on' hbr).at_ hlt
        injection hA with hA
        injection hA with e1 e2
        subst e1 e2
        have hcx : wr.cell? ⟨b, off + 32 * k + j, none⟩ = some (.int .u64 (v : Int)) := by
          have := hc0 0 (.int .u64 (v : Int)) rfl
          simpa [u64E] using this
        have hv1 : (v : Int) ≤ 18446744073709551615 := by have := HV.out v (List.mem_of_getElem? hx); omega
        have hv0 : (0 : Int) ≤ v := by omega
        have hst := Lib.hid (take_step hx)
        have hlt' : (j : Int) < M := by omega
        have hbz := hbr.size
        clear hc0 hx
        go_wp2_with fail
        refine (put_any 8 (v : Int) _ (by omega) (by omega) hv0 hv1).mono ?_
        rintro e w4 ⟨v4, rfl, hF4, hb4⟩
        obtain ⟨A4, c4, rfl, hR4, _, _, _⟩ := hF4.rdn 8 (putL_len _ _)
        have hbz4 := hb4.size
        go_wp2_with (at_builtin; refine wpList_append_bytes _ rfl (.tmp 42) (.tmp 44) _ rfl w.heap.size 5 Try.underlying39 info8 _ _ rfl (hF.below hb4) _ _ _ (putL 8 (v : Int)) rfl hR4 (by have := part32_len l k; rw [bytes8_len, List.length_take]; omega) (by omega) ?_; intro b' w5 hF5 hg5 hb5)
        go_roundw
        case rel => exact ⟨j + 1, by omega, by go_num, by rw [hst.out, bytes8_snoc]; exact hF5, (by (have q_hb5 := Below.size hb5; (try simp at q_hb5); have q_hb4 := Below.size hb4; (try simp at q_hb4); have q_hbr := Below.size hbr; (try simp at q_hbr); repeat (first | exact Below.refl _ _ | (refine Below.trans ?_ (Below.mono hb5 (by first | omega | (simp; omega) | simp))) | (refine Below.trans ?_ (Below.mono hb4 (by first | omega | (simp; omega) | simp))) | (refine Below.trans ?_ (Below.mono hbr (by first | omega | (simp; omega) | simp))) | (refine Below.setCell ?_ (by first | omega | (simp; omega) | simp) _) | (refine Below.alloc ?_ (by first | omega | (simp; omega) | simp) _) | apply Below.drew | apply below_drewN)))⟩
        case measure => simp [intOf] <;> omega
      · obtain rfl : j = M := by omega
        have hall : (part32 l k).take j = part32 l k := List.take_of_length_le (by rw [HP.out.len]; exact Nat.le_refl _)
        rw [hall] at hF
        obtain ⟨A4, c4, rfl, hR4, _, _, _⟩ := hF.rdn _ rfl
        go_wp2_with fail
        refine (pad_any _ _ _ _ 256 _ hR4 (by omega) (by omega)).mono ?_
        rintro e w4 ⟨v4, rfl, hF4, hb4⟩
        rw [pad_nums] at hF4
        go_wp2_with fail
        go_ret2
        exact ⟨_, rfl, hF4.from_ hbr.size, (by (have q_hb4 := Below.size hb4; (try simp at q_hb4); have q_hbr := Below.size hbr; (try simp at q_hbr); repeat (first | exact Below.refl _ _ | (refine Below.trans ?_ (Below.mono hb4 (by first | omega | (simp; omega) | simp))) | (refine Below.trans ?_ (Below.mono hbr (by first | omega | (simp; omega) | simp))) | (refine Below.setCell ?_ (by first | omega | (simp; omega) | simp) _) | (refine Below.alloc ?_ (by first | omega | (simp; omega) | simp) _) | apply Below.drew | apply below_drewN)))⟩
  · have hmv : m = n := by rw [HM.out]; omega
    have hc' : (n : Int) < 32 * ((k : Int) + 1) := by omega
    clear HM
    go_wp2_with fail
    rw [show n - 32 * k = M from by omega]
    have hM69 : M ≤ 69 := by omega
    clear hc hc' hmv hM1 hmn
    go_loopw [8, 38] (fun bb i wr => ∃ j : Nat, j ≤ M ∧ i = .int .i64 j ∧ Fresh 5 w.heap.size wr bb (bytes8 ((part32 l k).take j)) ∧ Below w.heap.size w wr) (fun _ i _ => M - (intOf i).toNat)
    case atStart => exact ⟨0, by omega, rfl, Fresh.nil _ _ _, b3⟩
    case round =>
      clear b3
      obtain ⟨j, hj, rfl, hF, hbr⟩ := hrel
      by_cases hlt : j < M
      · obtain ⟨bx, offx, v, hA, hbx, hx, hc0⟩ := (HP.out.on' hbr).at_ hlt
        injection hA with hA
        injection hA with e1 e2
        subst e1 e2
        have hcx : wr.cell? ⟨b, off + 32 * k + j, none⟩ = some (.int .u64 (v : Int)) := by
          have := hc0 0 (.int .u64 (v : Int)) rfl
          simpa [u64E] using this
        have hv1 : (v : Int) ≤ 18446744073709551615 := by have := HV.out v (List.mem_of_getElem? hx); omega
        have hv0 : (0 : Int) ≤ v := by omega
        have hst := Lib.hid (take_step hx)
        have hlt' : (j : Int) < M := by omega
        have hbz := hbr.size
        clear hc0 hx
        go_wp2_with fail
        refine (put_any 8 (v : Int) _ (by omega) (by omega) hv0 hv1).mono ?_
        rintro e w4 ⟨v4, rfl, hF4, hb4⟩
        obtain ⟨A4, c4, rfl, hR4, _, _, _⟩ := hF4.rdn 8 (putL_len _ _)
        have hbz4 := hb4.size
        go_wp2_with (at_builtin; refine wpList_append_bytes _ rfl (.tmp 42) (.tmp 44) _ rfl w.heap.size 5 Try.underlying39 info8 _ _ rfl (hF.below hb4) _ _ _ (putL 8 (v : Int)) rfl hR4 (by have := part32_len l k; rw [bytes8_len, List.length_take]; omega) (by omega) ?_; intro b' w5 hF5 hg5 hb5)
        go_roundw
        case rel => exact ⟨j + 1, by omega, by go_num, by rw [hst.out, bytes8_snoc]; exact hF5, (by (have q_hb5 := Below.size hb5; (try simp at q_hb5); have q_hb4 := Below.size hb4; (try simp at q_hb4); have q_hbr := Below.size hbr; (try simp at q_hbr); repeat (first | exact Below.refl _ _ | (refine Below.trans ?_ (Below.mono hb5 (by first | omega | (simp; omega) | simp))) | (refine Below.trans ?_ (Below.mono hb4 (by first | omega | (simp; omega) | simp))) | (refine Below.trans ?_ (Below.mono hbr (by first | omega | (simp; omega) | simp))) | (refine Below.setCell ?_ (by first | omega | (simp; omega) | simp) _) | (refine Below.alloc ?_ (by first | omega | (simp; omega) | simp) _) | apply Below.drew | apply below_drewN)))⟩
        case measure => simp [intOf] <;> omega
      · obtain rfl : j = M := by omega
        have hall : (part32 l k).take j = part32 l k := List.take_of_length_le (by rw [HP.out.len]; exact Nat.le_refl _)
        rw [hall] at hF
        obtain ⟨A4, c4, rfl, hR4, _, _, _⟩ := hF.rdn _ rfl
        go_wp2_with fail
        refine (pad_any _ _ _ _ 256 _ hR4 (by omega) (by omega)).mono ?_
        rintro e w4 ⟨v4, rfl, hF4, hb4⟩
        rw [pad_nums] at hF4
        go_wp2_with fail
        go_ret2
        exact ⟨_, rfl, hF4.from_ hbr.size, (by (have q_hb4 := Below.size hb4; (try simp at q_hb4); have q_hbr := Below.size hbr; (try simp at q_hbr); repeat (first | exact Below.refl _ _ | (refine Below.trans ?_ (Below.mono hb4 (by first | omega | (simp; omega) | simp))) | (refine Below.trans ?_ (Below.mono hbr (by first | omega | (simp; omega) | simp))) | (refine Below.setCell ?_ (by first | omega | (simp; omega) | simp) _) | (refine Below.alloc ?_ (by first | omega | (simp; omega) | simp) _) | apply Below.drew | apply below_drewN)))⟩
end Go.Proofs.Ythepgnankelmeaa
