/- Rows of fields, read one behind the other: what the program's row tells. -/
import Derived.Test.YthepgnankelmeaaGet
import Derived.Test.YthepgnankelmeaaKept

namespace Go.Proofs.Ythepgnankelmeaa
open Go.RowKit

/-- What is taken, what is left, what was wrong first, when n bytes are asked of the bytes l with the error e. -/
def takeO (l : List UInt8) (e n : Int) : List UInt8 := if e = 0 ∧ 0 ≤ n ∧ n ≤ l.length then l.take n.toNat else []
def takeL (l : List UInt8) (e n : Int) : List UInt8 := if e = 0 ∧ 0 ≤ n ∧ n ≤ l.length then l.drop n.toNat else l
def takeE (l : List UInt8) (e n : Int) : Int := if e = 0 then (if n < 0 then 1 else if n > l.length then 3 else 0) else e
theorem take_bad {l : List UInt8} {e n : Int} (h : e ≠ 0) : takeO l e n = [] ∧ takeL l e n = l ∧ takeE l e n = e := by
  unfold takeO takeL takeE; simp [h]
theorem take_neg {l : List UInt8} {n : Int} (h : n < 0) : takeO l 0 n = [] ∧ takeL l 0 n = l ∧ takeE l 0 n = 1 := by
  unfold takeO takeL takeE; rw [if_neg (by omega), if_neg (by omega), if_pos rfl, if_pos h]; exact ⟨rfl, rfl, rfl⟩
theorem take_far {l : List UInt8} {n : Int} (h0 : 0 ≤ n) (h : (l.length : Int) < n) : takeO l 0 n = [] ∧ takeL l 0 n = l ∧ takeE l 0 n = 3 := by
  unfold takeO takeL takeE; rw [if_neg (by omega), if_neg (by omega), if_pos rfl, if_neg (by omega), if_pos (by omega)]; exact ⟨rfl, rfl, rfl⟩
theorem take_yes {l : List UInt8} {n : Nat} (h : n ≤ l.length) : takeO l 0 n = l.take n ∧ takeL l 0 n = l.drop n ∧ takeE l 0 n = 0 := by
  unfold takeO takeL takeE; rw [if_pos (by omega), if_pos (by omega), if_pos rfl, if_neg (by omega), if_neg (by omega)]; exact ⟨rfl, rfl, rfl⟩

/-- Block g is a row (its type: T) with the bytes l left and the error e; its bytes lie in none of gs. -/
def RowIs (T : TypeId) (w : World) (g : Nat) (gs : List Nat) (l : List UInt8) (e : Int) : Prop :=
  g ∈ gs ∧ ∃ A c, Blk w g T #[.slice A l.length c, .int .i64 e] ∧ RdN w gs A l.length l ∧ l.length ≤ c ∧ c ≤ maxLen
theorem RowIs.kept {T : TypeId} {w w' : World} {g : Nat} {gs gs' : List Nat} {l : List UInt8} {e : Int} (h : RowIs T w g gs l e) (hk : Kept gs' w w') (hs : ∀ x ∈ gs', x ∈ gs) (hg : g ∉ gs') : RowIs T w' g gs l e := by
  obtain ⟨h1, A, c, hB, hR, h2⟩ := h
  exact ⟨h1, A, c, hB.kept hk hg, hR.kept hk hs, h2⟩
theorem RowIs.below {T : TypeId} {w w' : World} {g : Nat} {gs : List Nat} {l : List UInt8} {e : Int} (h : RowIs T w g gs l e) (hk : Below w.heap.size w w') : RowIs T w' g gs l e :=
  h.kept (.of_below hk : Kept [] w w') (by simp) (by simp)
theorem RowIs.lt {T : TypeId} {w : World} {g : Nat} {gs : List Nat} {l : List UInt8} {e : Int} (h : RowIs T w g gs l e) : g < w.heap.size := by
  obtain ⟨_, A, c, hB, _⟩ := h
  exact hB.lt

theorem RowIs.wide {T : TypeId} {w : World} {g : Nat} {gs gs' : List Nat} {l : List UInt8} {e : Int} (h : RowIs T w g gs l e) (hg : g ∈ gs') (hs : ∀ x ∈ gs', x ∈ gs ∨ w.heap.size ≤ x) : RowIs T w g gs' l e := by
  obtain ⟨_, A, c, hB, hR, h2⟩ := h
  refine ⟨hg, A, c, hB, ⟨hR.1, fun ad hn hA hx => ?_⟩, h2⟩
  rcases hs _ hx with hx | hx
  · exact hR.2 ad hn hA hx
  · obtain ⟨b, off, hA', hlt, _⟩ := hR.1.2 hn
    rw [hA'] at hA
    injection hA with hA
    subst hA
    simp at hx
    omega
theorem RowIs.drew {T : TypeId} {w : World} {g : Nat} {gs : List Nat} {l : List UInt8} {e : Int} (h : RowIs T w g gs l e) : RowIs T w.drew g gs l e := h

/-- A row was asked: bytes were taken of it, the row goes on. -/
def Took (T : TypeId) (w : World) (g : Nat) (gs : List Nat) (l : List UInt8) (e n : Int) (x : Ending) (w' : World) : Prop :=
  ∃ A c, x = .returned (.slice A (takeO l e n).length c) ∧ (takeO l e n).length ≤ c ∧ c ≤ maxLen ∧ RdN w' gs A (takeO l e n).length (takeO l e n) ∧ RowIs T w' g gs (takeL l e n) (takeE l e n) ∧ Kept [g] w w'

theorem took_yes {T : TypeId} {w : World} {g : Nat} {gs : List Nat} {l : List UInt8} {A A2 : Option Addr} {c c2 k : Nat} {x : Ending} {w' : World} (hg : g ∈ gs) (hB : Blk w g T #[.slice A l.length c, .int .i64 0]) (hR : RdN w gs A l.length l) (hlc : l.length ≤ c) (hcm : c ≤ maxLen) (hk : k ≤ l.length)
    (hc2 : c2 = c - k) (hA2 : RdN w gs A2 (l.length - k) (l.drop k)) (hx : x = .returned (.slice A k k)) (hw : w' = w.setCell ⟨g, 0, none⟩ (.slice A2 (l.length - k) c2)) : Took T w g gs l 0 k x w' := by
  obtain ⟨t1, t2, t3⟩ := take_yes hk
  have hlen : (l.take k).length = k := by simp; omega
  have hK : Kept [g] w (w.setCell ⟨g, 0, none⟩ (.slice A2 (l.length - k) c2)) := Kept.setCell (.refl _ _) (by simp) _
  subst hw
  have hcut := hR.cut (k := 0) (m := k) (cap := k + 1) (by omega) hk (by omega)
  rw [if_neg (by omega)] at hcut
  have hcut' : RdN w gs A k (l.take k) := by cases A <;> simpa [Addr.add] using hcut
  refine ⟨A, k, by rw [t1, hlen]; exact hx, by rw [t1, hlen]; exact Nat.le_refl _, by omega, ?_, ?_, hK⟩
  · rw [t1, hlen]
    exact hcut'.kept hK (by simpa using hg)
  · rw [t2, t3]
    refine ⟨hg, A2, c2, ?_, ?_, ?_, ?_⟩
    · rw [List.length_drop]; exact hB.set_ 0 _
    · rw [List.length_drop]; exact hA2.kept hK (by simpa using hg)
    · rw [List.length_drop]; omega
    · omega

set_option maxHeartbeats 1000000 in
theorem next_any (g : Nat) (gs : List Nat) (l : List UInt8) (er n : Int) (w : World) (h : RowIs 114 w g gs l er) (hn : n ≤ 9223372036854775807) :
    Calls Try.prog 90 #[.pointer (some ⟨g, 0, none⟩), .int .i64 n] w (Took 114 w g gs l er n) := by
  obtain ⟨hg, A, c, hB, hR, hlc, hcm⟩ := h
  have hcm' := hcm
  unfold maxLen at hcm
  have hz := hB.lt
  have cc := hB.cell
  have ff := hB.frozen
  by_cases he : er = 0
  · subst he
    rcases Int.lt_or_le n 0 with h0 | h0
    · have hT := Lib.hid (take_neg (l := l) h0)
      go_enter Try.func90, Try.ntmps90
      go_wp2_with fail
      go_ret
      obtain ⟨t1, t2, t3⟩ := hT.out
      have S1 := hB.set_ 1 (.int .i64 1)
      refine ⟨none, 0, by rw [t1]; rfl, by rw [t1]; simp, by unfold maxLen; omega, by rw [t1]; exact RdN.nil, ?_, Kept.setCell (.refl _ _) (by simp) _⟩
      rw [t2, t3]
      exact ⟨hg, A, c, S1, hR.kept (Kept.setCell (.refl [g] _) (by simp) _) (by simpa using hg), hlc, hcm'⟩
    · obtain ⟨k, rfl⟩ := Int.eq_ofNat_of_zero_le h0
      rcases Nat.lt_or_ge l.length k with h1 | h1
      · have hT := Lib.hid (take_far (l := l) (n := k) h0 (by omega))
        go_enter Try.func90, Try.ntmps90
        go_wp2_with fail
        go_ret
        obtain ⟨t1, t2, t3⟩ := hT.out
        have S1 := hB.set_ 1 (.int .i64 3)
        refine ⟨none, 0, by rw [t1]; rfl, by rw [t1]; simp, by unfold maxLen; omega, by rw [t1]; exact RdN.nil, ?_, Kept.setCell (.refl _ _) (by simp) _⟩
        rw [t2, t3]
        exact ⟨hg, A, c, S1, hR.kept (Kept.setCell (.refl [g] _) (by simp) _) (by simpa using hg), hlc, hcm'⟩
      · have hT := Lib.hid (take_yes (l := l) (n := k) h1)
        go_enter Try.func90, Try.ntmps90
        go_wp2_with fail
        · go_ret
          have hck : c = k := by assumption
          exact took_yes hg hB hR hlc hcm' h1 (by omega) (show RdN w gs A (l.length - k) (l.drop k) by rw [show l.length - k = 0 from by omega, List.drop_of_length_le (by omega)]; exact RdN.nil) rfl rfl
        · go_ret
          have hck : ¬ c = k := by assumption
          have hcut := hR.cut (k := k) (m := l.length) (cap := c) h1 (Nat.le_refl _) hlc
          rw [if_neg hck, List.take_of_length_le (Nat.le_refl _), Nat.mul_one] at hcut
          exact took_yes hg hB hR hlc hcm' h1 rfl hcut rfl rfl
  · have hT := Lib.hid (take_bad (l := l) (n := n) he)
    go_enter Try.func90, Try.ntmps90
    go_wp2_with fail
    go_ret
    obtain ⟨t1, t2, t3⟩ := hT.out
    refine ⟨none, 0, by rw [t1]; rfl, by rw [t1]; simp, by unfold maxLen; omega, by rw [t1]; exact RdN.nil, ?_, .refl _ _⟩
    rw [t2, t3]
    exact ⟨hg, A, c, hB, hR, hlc, hcm'⟩

/-- Which number of bytes is asked for, if a number of n bytes is. -/
def numN (n : Int) : Int := if n < 1 ∨ 8 < n then -1 else n
theorem numN_le (n : Int) : numN n ≤ 8 := by unfold numN; split <;> omega
/-- A row was asked for a number. -/
def TookNum (T : TypeId) (w : World) (g : Nat) (gs : List Nat) (l : List UInt8) (e n : Int) (x : Ending) (w' : World) : Prop :=
  x = .returned (.int .u64 (getL (takeO l e (numN n)) : Int)) ∧ RowIs T w' g gs (takeL l e (numN n)) (takeE l e (numN n)) ∧ Kept [g] w w'
theorem takeO_len (l : List UInt8) (e n : Int) : (takeO l e n).length ≤ l.length := by unfold takeO; split <;> simp <;> omega
theorem takeO_num (l : List UInt8) (e n : Int) : (takeO l e (numN n)).take 8 = takeO l e (numN n) := by
  refine List.take_of_length_le ?_
  have := numN_le n
  unfold takeO
  split
  · simp; omega
  · simp

set_option maxHeartbeats 1000000 in
theorem num_any (g : Nat) (gs : List Nat) (l : List UInt8) (er n : Int) (w : World) (h : RowIs 114 w g gs l er) (hn : n ≤ 9223372036854775807) :
    Calls Try.prog 71 #[.pointer (some ⟨g, 0, none⟩), .int .i64 n] w (TookNum 114 w g gs l er n) := by
  have htk := Lib.hid (takeO_num l er n)
  by_cases hb : n < 1 ∨ 8 < n
  · have hN := Lib.hid (show numN n = -1 by unfold numN; rw [if_pos hb])
    rcases hb with hb | hb
    all_goals
      go_enter Try.func71, Try.ntmps71
      go_wp2_with fail
      refine (next_any g gs l er (-1) _ h (by omega)).mono ?_
      rintro e w1 ⟨A, c, rfl, hlc, hcm, hR, hRow, hK⟩
      go_wp2_with fail
      refine (get_any _ _ _ _ _ hR.1 (by omega)).mono ?_
      rintro e w2 ⟨rfl, rfl⟩
      go_wp2_with fail
      go_ret
      unfold TookNum
      rw [← htk.out, hN.out]
      exact ⟨rfl, hRow, hK⟩
  · have hN := Lib.hid (show numN n = n by unfold numN; rw [if_neg hb])
    have h1 : 1 ≤ n := by omega
    have h2 : n ≤ 8 := by omega
    clear hb
    go_enter Try.func71, Try.ntmps71
    go_wp2_with fail
    refine (next_any g gs l er n _ h (by omega)).mono ?_
    rintro e w1 ⟨A, c, rfl, hlc, hcm, hR, hRow, hK⟩
    go_wp2_with fail
    refine (get_any _ _ _ _ _ hR.1 (by omega)).mono ?_
    rintro e w2 ⟨rfl, rfl⟩
    go_wp2_with fail
    go_ret
    unfold TookNum
    rw [← htk.out, hN.out]
    exact ⟨rfl, hRow, hK⟩

/-- A row was asked for bytes (T1: the type byte). -/
def TookB (T T1 : TypeId) (w : World) (g : Nat) (gs : List Nat) (l : List UInt8) (e n : Int) (x : Ending) (w' : World) : Prop :=
  ∃ v, x = .returned v ∧ Fresh T1 w.heap.size w' v (takeO l e n) ∧ RowIs T w' g gs (takeL l e n) (takeE l e n) ∧ Kept [g] w w'
/-- A row was made of bytes; whatever blocks besides there are that did not stand when its bytes were laid. -/
def MadeRow (T : TypeId) (w : World) (l : List UInt8) (x : Ending) (w' : World) : Prop :=
  ∃ g, x = .returned (.pointer (some ⟨g, 0, none⟩)) ∧ w.heap.size ≤ g ∧ RowIs T w' g [g] l 0 ∧ Below w.heap.size w w'

/-- bytes.Clone, of bytes that are known. -/
theorem clone_any (A : Option Addr) (n c : Nat) (l : List UInt8) (w : World) (hr : Rd w A n l) (hn : n ≤ 140737488355328) :
    Calls Try.prog 77 #[.slice A n c] w (Gives 5 w l) := by
  have hlen := Lib.hid hr.len
  by_cases h0 : A = none
  · subst h0
    obtain rfl : l = [] := by
      rcases Nat.eq_zero_or_pos n with h | h
      · exact List.eq_nil_of_length_eq_zero (by rw [hr.len, h])
      · obtain ⟨_, _, h, _⟩ := hr.2 h; cases h
    have hq := fun W : World => Lib.run_eql_slice_nil (P := Try.prog) W 39 5 none n c 0 0 Try.underlying39
    go_enter Try.func77, Try.ntmps77
    go_wp2_with fail
    go_ret
    exact ⟨_, rfl, Fresh.nil _ _ _, (by (repeat (first | exact Below.refl _ _ | (refine Below.setCell ?_ (by first | omega | (simp; omega) | simp) _) | (refine Below.alloc ?_ (by first | omega | (simp; omega) | simp) _) | apply Below.drew | apply below_drewN)))⟩
  · obtain ⟨a, rfl⟩ : ∃ a, A = some a := by cases A with | none => exact absurd rfl h0 | some a => exact ⟨a, rfl⟩
    clear h0
    have hq := fun W : World => Lib.run_eql_slice_nil (P := Try.prog) W 39 5 (some a) n c 0 0 Try.underlying39
    go_enter Try.func77, Try.ntmps77
    go_wp2_with (at_builtin; refine wpList_append_bytes _ rfl (.tmp 5) (.tmp 6) _ rfl w.heap.size 5 Try.underlying39 info8 _ [] rfl (Fresh.of_blk (Blk.new w _ _) (Nat.le_refl _) (by unfold maxLen; omega) rfl rfl) _ _ _ l rfl (hr.alloc _) (by simpa using hn) (by simp) ?_; intro b' w1 hF1 hg1 hb1)
    go_ret
    exact ⟨_, rfl, hF1, (by (have q_hb1 := Below.size hb1; (try simp at q_hb1); repeat (first | exact Below.refl _ _ | (refine Below.trans ?_ (Below.mono hb1 (by first | omega | (simp; omega) | simp))) | (refine Below.setCell ?_ (by first | omega | (simp; omega) | simp) _) | (refine Below.alloc ?_ (by first | omega | (simp; omega) | simp) _) | apply Below.drew | apply below_drewN)))⟩

set_option maxHeartbeats 1000000 in
theorem rbytes_any (g : Nat) (gs : List Nat) (l : List UInt8) (er n : Int) (w : World) (h : RowIs 114 w g gs l er) (hn : n ≤ 9223372036854775807) (hl : l.length ≤ 140737488355328) :
    Calls Try.prog 72 #[.pointer (some ⟨g, 0, none⟩), .int .i64 n] w (TookB 114 5 w g gs l er n) := by
  have hlo := takeO_len l er n
  go_enter Try.func72, Try.ntmps72
  go_wp2_with fail
  refine (next_any g gs l er n _ h hn).mono ?_
  rintro e w1 ⟨A, c, rfl, hlc, hcm, hR, hRow, hK⟩
  go_wp2_with fail
  refine (clone_any _ _ _ _ _ hR.1 (by omega)).mono ?_
  rintro e w2 ⟨v, rfl, hF, hb⟩
  go_wp2_with fail
  go_ret
  exact ⟨v, rfl, hF.from_ hK.size, hRow.below hb, hK.trans (.of_below hb)⟩

set_option maxHeartbeats 1000000 in
theorem of_any (A : Option Addr) (n c : Nat) (l : List UInt8) (w : World) (hr : Rd w A n l) (hn : n ≤ 140737488355328) :
    Calls Try.prog 70 #[.slice A n c] w (MadeRow 114 w l) := by
  go_enter Try.func70, Try.ntmps70
  go_wp2_with fail
  refine (clone_any _ _ _ _ _ hr hn).mono ?_
  rintro e w1 ⟨v, rfl, hF, hb⟩
  obtain ⟨A1, c1, rfl, hR, hown, hc1, hc2⟩ := hF.rdn _ rfl
  go_wp2_with fail
  go_ret
  refine ⟨w1.heap.size, rfl, hb.size, ⟨by simp, A1, c1, Blk.new w1 _ _, ?_, hc1, hc2⟩, (by (have q_hb := Below.size hb; (try simp at q_hb); repeat (first | exact Below.refl _ _ | (refine Below.trans ?_ (Below.mono hb (by first | omega | (simp; omega) | simp))) | (refine Below.setCell ?_ (by first | omega | (simp; omega) | simp) _) | (refine Below.alloc ?_ (by first | omega | (simp; omega) | simp) _) | apply Below.drew | apply below_drewN)))⟩
  exact RdN.below (RdN.old hR (by simp)) (by (repeat (first | exact Below.refl _ _ | (refine Below.setCell ?_ (by first | omega | (simp; omega) | simp) _) | (refine Below.alloc ?_ (by first | omega | (simp; omega) | simp) _) | apply Below.drew | apply below_drewN)))
end Go.Proofs.Ythepgnankelmeaa
