/- A row of numbers: what a reader of numbers leaves as it was. Rows of bytes whose bytes' type is known: what a reader of numbers leaves as it was. -/
import Derived.Test.YtidlcplamgajpaaRec
import Derived.Test.YtidlcplamgajpaaGet
import Derived.Test.YtidlcplamgajpaaClone
import Derived.Test.YtidlcplamgajpaaKept
namespace Go.Proofs.Ytidlcplamgajpaa
open Go.RowKit

theorem RdX.cut {B : Nat} {T : TypeId} {w : World} {A : Option Addr} {n : Nat} {l : List UInt8} (h : RdX B T w A n l) {k m cap : Nat} (hk : k ≤ m) (hm : m ≤ n) (hc : m ≤ cap) : RdX B T w (if cap = k then A else A.map (·.add (k * 1))) (m - k) ((l.take m).drop k) := by
  refine ⟨h.1.cut hk hm hc, fun ad hn hA => ?_⟩
  split at hA
  · exact h.2 ad (by omega) hA
  · rcases A with _ | a0
    · simp at hA
    · simp at hA
      subst hA
      have := h.2 a0 (by omega) rfl
      unfold Addr.add
      split <;> exact this
/-- Block g is a row (its type: T) with the bytes l left and no error; its bytes lie below B or in blocks of type T1. -/
def RowX (T T1 : TypeId) (B : Nat) (w : World) (g : Nat) (l : List UInt8) : Prop :=
  ∃ A c, Blk w g T #[.slice A l.length c, .int .i64 0] ∧ RdX B T1 w A l.length l ∧ l.length ≤ c ∧ c ≤ maxLen
section
variable {T T1 : TypeId} {B : Nat} {w w' : World} {g : Nat} {l : List UInt8}
theorem RowX.below (h : RowX T T1 B w g l) (hb : Below w.heap.size w w') : RowX T T1 B w' g l := by
  obtain ⟨A, c, h1, h2, h3⟩ := h
  exact ⟨A, c, h1.on hb, h2.below hb, h3⟩
theorem RowX.drew (h : RowX T T1 B w g l) : RowX T T1 B w.drew g l := h.below ((Below.refl _ _).drew)
theorem RowX.lt (h : RowX T T1 B w g l) : g < w.heap.size := by obtain ⟨A, c, h1, _⟩ := h; exact h1.lt
theorem RowX.far (h : RowX T T1 B w g l) {T2 : TypeId} {L : Nat} {cur : Array Value} (hB : Blk w L T2 cur) (hT : T1 ≠ T2) (hg : B ≤ L) (hne : L ≠ g) (i : Nat) (u : Value) : RowX T T1 B (w.setCell ⟨L, i, none⟩ u) g l := by
  obtain ⟨A, c, h1, h2, h3⟩ := h
  exact ⟨A, c, h1.far (by simpa using fun e => hne e.symm) u, h2.set_ hB hT hg i u, h3⟩
theorem RowX.grown (h : RowX T T1 B w g l) {η : Type} {E : Enc η} {T2 : TypeId} {Br : Nat} {v : Value} {hs : List η} (hF : FreshG E T2 Br w v hs) (hBr : B ≤ Br) (hT1 : T1 ≠ T2) (hT : T ≠ T2) (hg : w.grownBy w' v.ownBlock) : RowX T T1 B w' g l := by
  obtain ⟨A, c, h1, h2, h3⟩ := h
  obtain ⟨A0, c0, e0, hown⟩ := id hF
  exact ⟨A, c, h1.grown hg (own_ne hF h1 hT), h2.grown hown hBr hT1 hg, h3⟩
end
set_option maxHeartbeats 1000000 in
theorem next_x (g B k : Nat) (l : List UInt8) (w : World) (h : RowX 94 5 B w g l) (hBg : B ≤ g) (hk : k ≤ l.length) :
    Calls Try.prog 59 #[.pointer (some ⟨g, 0, none⟩), .int .i64 k] w fun e w' => ∃ A u, e = .returned (.slice A k k) ∧ w' = w.setCell ⟨g, 0, none⟩ u ∧ RdX B 5 w' A k (l.take k) ∧ RowX 94 5 B w' g (l.drop k) := by
  obtain ⟨A, c, hB, hR, hlc, hcm⟩ := h
  have hcm' := hcm
  unfold maxLen at hcm
  have hz := hB.lt
  have cc := hB.cell
  have ff := hB.frozen
  have h0 : (0 : Int) ≤ k := by omega
  have key : ∀ A2 c2, c2 = c - k → RdX B 5 w A2 (l.length - k) (l.drop k) → RdX B 5 (w.setCell ⟨g, 0, none⟩ (.slice A2 (l.length - k) c2)) A k (l.take k) ∧ RowX 94 5 B (w.setCell ⟨g, 0, none⟩ (.slice A2 (l.length - k) c2)) g (l.drop k) := by
    intro A2 c2 hc2 hA2
    have hcut := hR.cut (k := 0) (m := k) (cap := k + 1) (by omega) hk (by omega)
    rw [if_neg (by omega)] at hcut
    have hcut' : RdX B 5 w A k (l.take k) := by cases A <;> simpa [Addr.add] using hcut
    refine ⟨hcut'.set_ hB (by decide) hBg 0 _, A2, c2, ?_, ?_, ?_, ?_⟩
    · rw [List.length_drop]; exact hB.set_ 0 _
    · rw [List.length_drop]; exact hA2.set_ hB (by decide) hBg 0 _
    · rw [List.length_drop]; omega
    · omega
  have KEY := Lib.hid key
  clear key
  go_enter Try.func59, Try.ntmps59
  go_wp2_with fail
  · have hck : c = k := by assumption
    have h_ := KEY.out A 0 (by omega) (by rw [show l.length - k = 0 from by omega, List.drop_of_length_le (by omega)]; exact RdX.nil)
    go_ret
    exact ⟨A, rfl, ⟨_, rfl⟩, h_.1, h_.2⟩
  · have hck : ¬ c = k := by assumption
    have hcut := hR.cut (k := k) (m := l.length) (cap := c) hk (Nat.le_refl _) hlc
    rw [if_neg hck, List.take_of_length_le (Nat.le_refl _), Nat.mul_one] at hcut
    have h_ := KEY.out _ (c - k) rfl hcut
    go_ret
    exact ⟨A, rfl, ⟨_, rfl⟩, h_.1, h_.2⟩
set_option maxHeartbeats 1000000 in
theorem num_x (g B k : Nat) (l : List UInt8) (w : World) (h : RowX 94 5 B w g l) (hBg : B ≤ g) (h1 : 1 ≤ k) (h8 : k ≤ 8) (hk : k ≤ l.length) :
    Calls Try.prog 47 #[.pointer (some ⟨g, 0, none⟩), .int .i64 k] w fun e w' => e = .returned (.int .u64 (getL (l.take k) : Int)) ∧ ∃ u, w' = w.setCell ⟨g, 0, none⟩ u ∧ RowX 94 5 B w' g (l.drop k) := by
  have q1 : (1 : Int) ≤ k := by omega
  have q2 : (k : Int) ≤ 8 := by omega
  have q3 : k ≤ maxLen := by unfold maxLen; omega
  have htk := Lib.hid (show (l.take k).take 8 = l.take k from List.take_of_length_le (by simp; omega))
  go_enter Try.func47, Try.ntmps47
  go_wp2_with fail
  refine (next_x g B k l _ h hBg hk).mono ?_
  rintro e w1 ⟨A, u, rfl, hw1, hR, hRow⟩
  have HW1 := Lib.hid hw1
  clear hw1
  go_wp2_with fail
  refine (get_any _ _ _ _ _ hR.1 (by omega)).mono ?_
  rintro e w2 ⟨rfl, rfl⟩
  rw [htk.out]
  go_wp2_with fail
  go_ret
  exact ⟨rfl, u, HW1.out, hRow⟩
set_option maxHeartbeats 1000000 in
theorem of_x (A : Option Addr) (n c : Nat) (l : List UInt8) (w : World) (hr : Rd w A n l) (hn : n ≤ 140737488355328) :
    Calls Try.prog 46 #[.slice A n c] w fun e w' => ∃ g, e = .returned (.pointer (some ⟨g, 0, none⟩)) ∧ w.heap.size ≤ g ∧ RowX 94 5 w.heap.size w' g l ∧ Below w.heap.size w w' := by
  go_enter Try.func46, Try.ntmps46
  go_wp2_with fail
  refine (clone_any _ _ _ _ _ hr hn).mono ?_
  rintro e w1 ⟨v, rfl, hF, hb⟩
  obtain ⟨A1, c1, rfl, hR, hown, hc1, hc2⟩ := hF.rdn _ rfl
  go_wp2_with fail
  go_ret
  exact ⟨w1.heap.size, rfl, hb.size, ⟨A1, c1, Blk.new w1 _ _, (RdX.fresh hF rfl).below (by (repeat (first | exact Below.refl _ _ | (refine Below.setCell ?_ (by first | omega | (simp; omega) | simp) _) | (refine Below.alloc ?_ (by first | omega | (simp; omega) | simp) _) | apply Below.drew | apply below_drewN))), hc1, hc2⟩, (by (have q_hb := Below.size hb; (try simp at q_hb); repeat (first | exact Below.refl _ _ | (refine Below.trans ?_ (Below.mono hb (by first | omega | (simp; omega) | simp))) | (refine Below.setCell ?_ (by first | omega | (simp; omega) | simp) _) | (refine Below.alloc ?_ (by first | omega | (simp; omega) | simp) _) | apply Below.drew | apply below_drewN)))⟩
end Go.Proofs.Ytidlcplamgajpaa
