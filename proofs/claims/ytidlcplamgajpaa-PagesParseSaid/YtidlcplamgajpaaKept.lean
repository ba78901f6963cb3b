/- All that was there stays, but for named blocks. Bytes that lie below a number. No program in sight. -/
import Derived.Test.YtidlcplamgajpaaBytes
namespace Go.Proofs.Ytidlcplamgajpaa
open Go.RowKit

/-- From w to w' memory grows, and no block that was there changes, but for those of gs. -/
structure Kept (gs : List Nat) (w w' : World) : Prop where
  os : w'.os = w.os
  tape : w'.tape = w.tape
  output : w'.output = w.output
  size : w.heap.size ≤ w'.heap.size
  block : ∀ k, k < w.heap.size → k ∉ gs → w'.heap[k]? = w.heap[k]?
section
variable {gs gs' : List Nat} {a b c w w' : World} {B g : Nat}
theorem Kept.refl (gs : List Nat) (w : World) : Kept gs w w := ⟨rfl, rfl, rfl, Nat.le_refl _, fun _ _ _ => rfl⟩
theorem Kept.trans (h : Kept gs a b) (k : Kept gs b c) : Kept gs a c :=
  ⟨k.os.trans h.os, k.tape.trans h.tape, k.output.trans h.output, Nat.le_trans h.size k.size, fun i hi hn => (k.block i (Nat.lt_of_lt_of_le hi h.size) hn).trans (h.block i hi hn)⟩
theorem Kept.mono (h : Kept gs a b) (hs : ∀ x ∈ gs, x ∈ gs') : Kept gs' a b := ⟨h.os, h.tape, h.output, h.size, fun k hk hn => h.block k hk fun hx => hn (hs k hx)⟩
theorem Kept.of_below (h : Below w.heap.size w w') : Kept gs w w' := ⟨h.os, h.tape, h.output, h.size, fun k hk _ => h.block k hk⟩
theorem Kept.drew (h : Kept gs a w) : Kept gs a w.drew := ⟨h.os, h.tape, h.output, h.size, h.block⟩
theorem Kept.drewN (h : Kept gs a w) (n : Nat) : Kept gs a (w.drewN n) := ⟨h.os, h.tape, h.output, h.size, h.block⟩
theorem Kept.alloc (h : Kept gs a w) (o : Obj) : Kept gs a (w.alloc o) := h.trans (.of_below ((Below.refl _ _).alloc (Nat.le_refl _) o))
theorem Kept.setCell (h : Kept gs a w) {p : Addr} (hp : p.block ∈ gs) (u : Value) : Kept gs a (w.setCell p u) :=
  h.trans ⟨rfl, rfl, rfl, by simp [World.setCell], fun k _ hn => Below.heap_setCell w p u k (fun e => hn (e ▸ hp))⟩
theorem Kept.below (h : Kept gs w w') (hB : B ≤ w.heap.size) (hs : ∀ x ∈ gs, B ≤ x) : Below B w w' :=
  ⟨h.os, h.tape, h.output, h.size, fun k hk => h.block k (Nat.lt_of_lt_of_le hk hB) fun hx => absurd (hs k hx) (by omega)⟩
theorem Blk.kept {t : TypeId} {cs : Array Value} (h : Blk w g t cs) (hk : Kept gs w w') (hg : g ∉ gs) : Blk w' g t cs := (hk.block g h.lt hg).trans h
end

/-- Bytes that lie in none of the blocks gs. -/
def RdN (w : World) (gs : List Nat) (A : Option Addr) (n : Nat) (l : List UInt8) : Prop := Rd w A n l ∧ ∀ ad, 0 < n → A = some ad → ad.block ∉ gs
section
variable {w w' : World} {gs gs' : List Nat} {n B : Nat} {A : Option Addr} {l : List UInt8}
theorem RdN.kept (h : RdN w gs A n l) (hk : Kept gs' w w') (hs : ∀ x ∈ gs', x ∈ gs) : RdN w' gs A n l := by
  refine ⟨⟨h.1.1, fun hn => ?_⟩, h.2⟩
  obtain ⟨b, off, hA, hlt, hc⟩ := h.1.2 hn
  have hB := h.2 _ hn hA
  refine ⟨b, off, hA, Nat.lt_of_lt_of_le hlt hk.size, fun j u hj => ?_⟩
  have hb := hk.block b hlt fun hx => hB (hs b hx)
  rw [← hc j u hj]
  simp [World.cell?, hb]
theorem RdN.below (h : RdN w gs A n l) (hb : Below w.heap.size w w') : RdN w' gs A n l := ⟨h.1.below hb, h.2⟩
theorem RdN.mono (h : RdN w gs A n l) (hs : ∀ x ∈ gs', x ∈ gs) : RdN w gs' A n l := ⟨h.1, fun ad hn hA hx => h.2 ad hn hA (hs _ hx)⟩
theorem RdN.drew (h : RdN w gs A n l) : RdN w.drew gs A n l := h
theorem RdN.nil : RdN w gs A 0 [] := ⟨Rd.nil, fun _ h => absurd h (by omega)⟩
theorem RdN.old (h : Rd w A n l) (hs : ∀ x ∈ gs, w.heap.size ≤ x) : RdN w gs A n l := ⟨h, fun ad hn hA hx => by
  obtain ⟨b, off, hA', hlt, _⟩ := h.2 hn
  rw [hA'] at hA
  injection hA with hA
  subst hA
  exact absurd (hs _ hx) (by simpa using hlt)⟩
theorem RdN.new {T : TypeId} {c : Nat} (h : w.ownsRow B T 1 (.slice A n c) n (l.map bv)) (hs : ∀ x ∈ gs, x < B) : RdN w gs A n l := ⟨Rd.of_own h, fun ad hn hA hx => by
  subst hA
  have := h.lt ad.block rfl
  exact absurd (hs _ hx) (by omega)⟩
/-- A part of bytes. -/
theorem RdN.cut (h : RdN w gs A n l) {k m cap : Nat} (hk : k ≤ m) (hm : m ≤ n) (hc : m ≤ cap) : RdN w gs (if cap = k then A else A.map (·.add (k * 1))) (m - k) ((l.take m).drop k) := by
  refine ⟨h.1.cut hk hm hc, fun ad hn hA => ?_⟩
  split at hA
  · exact h.2 ad (by omega) hA
  · rcases A with _ | a0
    · simp at hA
    · simp at hA
      subst hA
      have := h.2 a0 (by omega) rfl
      unfold Addr.add
      split <;> exact this
end
end Go.Proofs.Ytidlcplamgajpaa
