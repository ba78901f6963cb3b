/- Rows of a call's own: a byte stored; a shorter part. No program in sight. -/
import Derived.Test.YtidlcplamgajpaaBytes
namespace Go.Proofs.Ytidlcplamgajpaa
open Go.RowKit

section
variable {T : TypeId} {B : Nat} {w : World} {l : List UInt8} {A : Option Addr} {n c : Nat}
/-- The block of a row that is not empty. -/
theorem Fresh.open_ (h : Fresh T B w (.slice A n c) l) (hn : l.length = n) (hpos : 0 < n) : ∃ g cur, A = some ⟨g, 0, none⟩ ∧ B ≤ g ∧ Blk w g T cur ∧ n ≤ cur.size ∧ cur.size = c ∧ cur.toList.take n = l.map bv := by
  obtain ⟨A', c', hv, hown⟩ := h
  injection hv with h1 h2 h3
  subst h1 h3
  rcases hown.2 with ⟨h0, _⟩ | ⟨g, cap, cur, hv, hg, hh, hnc, hcm, hsz, hx⟩
  · injection h0 with _ h0 _; omega
  · injection hv with h1 _ h3
    subst h3
    rw [Nat.mul_one] at hsz hx
    exact ⟨g, cur, h1, hg, hh, by omega, hsz, by rw [← hn]; exact hx⟩
/-- A byte is stored. -/
theorem Fresh.set_ (h : Fresh T B w (.slice A n c) l) (hn : l.length = n) {g : Nat} {cur : Array Value} (hA : A = some ⟨g, 0, none⟩) (hB : Blk w g T cur) (k : Nat) (x : UInt8) (_hk : k < n) : Fresh T B (w.setCell ⟨g, k, none⟩ (.int .u8 (x.toNat : Int))) (.slice A n c) (l.set k x) := by
  obtain ⟨A', c', hv, hown⟩ := h
  injection hv with h1 h2 h3
  subst h1 h3 hA
  have hl : (l.set k x).length = n := by simpa using hn
  refine ⟨_, c, by rw [hl], ?_⟩
  rcases hown.2 with ⟨h0, _⟩ | ⟨g', cap, cur', hv, hg, hh, hnc, hcm, hsz, hx⟩
  · cases h0
  · injection hv with h1 _ h3
    injection h1 with h1
    injection h1 with h1
    subst h1 h3
    have e : cur = cur' := by unfold Blk at hB; rw [hB] at hh; injection hh with hh; injection hh
    subst e
    refine ⟨by simp [hn], .inr ⟨g, c, _, by rw [hl], hg, hB.set_ k _, by omega, hcm, by simpa using hsz, ?_⟩⟩
    rw [Nat.mul_one] at hx hsz ⊢
    rw [hl, Array.toList_setIfInBounds, List.take_set, List.map_set]
    congr 1
    rw [← hn]; exact hx
/-- The first m bytes. -/
theorem Fresh.cut_ (h : Fresh T B w (.slice A n c) l) (hn : l.length = n) (m : Nat) (hm : m ≤ n) : Fresh T B w (.slice A m c) (l.take m) := by
  have hl : (l.take m).length = m := by simp; omega
  obtain ⟨A', c', hv, hown⟩ := h
  injection hv with h1 h2 h3
  subst h1 h3
  refine ⟨A, c, by rw [hl], ?_⟩
  rcases hown.2 with ⟨h0, h9⟩ | ⟨g, cap, cur, hv, hg, hh, hnc, hcm, hsz, hx⟩
  · injection h0 with h1 h2 h3
    subst h1 h3
    have : m = 0 := by omega
    subst this
    simpa using World.ownsRow_nil w B T 1
  · injection hv with h1 _ h3
    subst h1 h3
    refine ⟨by simp, .inr ⟨g, c, cur, by rw [hl], hg, hh, by omega, hcm, hsz, ?_⟩⟩
    rw [Nat.mul_one] at hx ⊢
    rw [hl, List.map_take, ← hx, List.take_take]
    congr 1
    omega
end
end Go.Proofs.Ytidlcplamgajpaa
