/- Logs: unlike logs have unlike blocks: plain laws. -/
import Derived.Test.YthepgnankelmeaaLog9
namespace Go.Proofs.Ythepgnankelmeaa
open Go.RowKit

theorem put8_inj {v u : Int} (h0 : 0 ≤ v) (h1 : v ≤ 18446744073709551615) (g0 : 0 ≤ u) (g1 : u ≤ 18446744073709551615) (h : putL 8 v = putL 8 u) : v = u := by
  have e1 := getL_put8 8 v h0
  have e2 := getL_put8 8 u g0
  rw [h, e2, show (256 : Int) ^ 8 = 18446744073709551616 from by decide] at e1
  omega
theorem put2_inj {v u : Int} (h0 : 0 ≤ v) (h1 : v ≤ 65535) (g0 : 0 ≤ u) (g1 : u ≤ 65535) (h : putL 2 v = putL 2 u) : v = u := by
  have e1 := getL_put8 2 v h0
  have e2 := getL_put8 2 u g0
  rw [h, e2, show (256 : Int) ^ 2 = 65536 from by decide] at e1
  omega
theorem nums_inj : ∀ (a b : List Ent), a.length = b.length → (∀ e ∈ a, 0 ≤ e.1 ∧ e.1 ≤ 65535) → (∀ e ∈ b, 0 ≤ e.1 ∧ e.1 ≤ 65535) → numsE a = numsE b → a.map (·.1) = b.map (·.1)
  | [], [], _, _, _, _ => rfl
  | [], _ :: _, h, _, _, _ => by simp at h
  | _ :: _, [], h, _, _, _ => by simp at h
  | x :: a, y :: b, hl, ha, hb, h => by
    unfold numsE at h
    rw [List.flatMap_cons, List.flatMap_cons] at h
    obtain ⟨h1, h2⟩ := List.append_inj h (by rw [putL_len, putL_len])
    have hx := ha x (by simp)
    have hy := hb y (by simp)
    rw [List.map_cons, List.map_cons, put2_inj hx.1 hx.2 hy.1 hy.2 h1, nums_inj a b (by simpa using hl) (fun e he => ha e (by simp [he])) (fun e he => hb e (by simp [he])) h2]
theorem ents_maps : ∀ (a b : List Ent), a.map (·.1) = b.map (·.1) → a.map (·.2) = b.map (·.2) → a = b
  | [], [], _, _ => rfl
  | [], _ :: _, h, _ => by simp at h
  | _ :: _, [], h, _ => by simp at h
  | (x1, x2) :: a, (y1, y2) :: b, h1, h2 => by
    simp only [List.map_cons, List.cons.injEq] at h1 h2
    rw [h1.1, h2.1, ents_maps a b h1.2 h2.2]
theorem pad_inj {u v : List UInt8} (hl : u.length = v.length) (h1 : u.length ≤ 256) (h : padL 256 u = padL 256 v) : u = v := by
  unfold padL at h
  rw [List.take_of_length_le h1, List.take_of_length_le (by omega)] at h
  exact (List.append_inj h hl).1
theorem enc_inj {x y : Int} {a b : List Ent} (hx0 : 0 ≤ x) (hx1 : x ≤ 18446744073709551615) (hy0 : 0 ≤ y) (hy1 : y ≤ 18446744073709551615) (ha : a.length ≤ 100) (hka : ∀ e ∈ a, 0 ≤ e.1 ∧ e.1 ≤ 65535) (hkb : ∀ e ∈ b, 0 ≤ e.1 ∧ e.1 ≤ 65535) :
    decide (encL x a = encL y b) = sameLog x y a b := by
  unfold sameLog
  rw [Bool.eq_iff_iff]
  simp only [decide_eq_true_eq, Bool.and_eq_true]
  constructor
  · intro h
    unfold encL at h
    injection h with h1 h2
    have hl : a.length = b.length := by have := congrArg List.length h2; simpa using this
    have hlen : ∀ (z : Int) (c : List Ent), ((headParts z c.length).flatten ++ numsE c).length = 18 + 2 * c.length := fun z c => by rw [List.length_append, headParts_len, numsE_len]
    have h3 := pad_inj (by rw [hlen, hlen, hl]) (by rw [hlen]; omega) h1
    obtain ⟨h4, h5⟩ := List.append_inj h3 (by rw [headParts_len, headParts_len])
    have h6 : markR ++ (putL 8 x ++ (putL 2 (a.length : Int) ++ [])) = markR ++ (putL 8 y ++ (putL 2 (b.length : Int) ++ [])) := h4
    have h7 := List.append_cancel_left h6
    have h8 := (List.append_inj h7 (by rw [putL_len, putL_len])).1
    exact ⟨put8_inj hx0 hx1 hy0 hy1 h8, ents_maps a b (nums_inj a b hl hka hkb h5) h2⟩
  · rintro ⟨rfl, rfl⟩
    rfl

/-- Encode's two values. -/
def IsEn (n : Nat) (ls : List (List UInt8)) (X : Int) (y : Value) (W : World) : Prop := ∃ A c, y = .tuple #[.slice A n c, .int .i64 X] ∧ RdSS W A n ls ∧ n ≤ c ∧ c ≤ maxLen
theorem IsEn.stab (n : Nat) (ls : List (List UInt8)) (X : Int) : Stab (IsEn n ls X) := fun _ _ _ hb ⟨A, c, e, h, h1, h2⟩ => ⟨A, c, e, h.below hb, h1, h2⟩
theorem IsEn.of {T1 T2 : TypeId} {B n : Nat} {ls : List (List UInt8)} {X : Int} {v : Value} {W : World} (h : OwnSS T1 T2 B W v ls) (hn : ls.length = n) : IsEn n ls X (.tuple #[v, .int .i64 X]) W := by
  obtain ⟨A, c, rfl, hR, h1, h2⟩ := h.rd n hn
  exact ⟨A, c, rfl, hR, h1, h2⟩
theorem encR_len (p t x : Int) (a : List Ent) : (encR p t x a).length ≤ 1 + a.length := by
  unfold encR
  split
  · rw [encL_len]; omega
  · simp
theorem blks_step {a b : List (List UInt8)} {k : Nat} {x : List UInt8} (h : a.take k = b.take k) (ha : a[k]? = some x) (hb : b[k]? = some x) : a.take (k + 1) = b.take (k + 1) := by rw [take_step ha, take_step hb, h]
theorem blks_ne {a b : List (List UInt8)} {k : Nat} {x y : List UInt8} (ha : a[k]? = some x) (hb : b[k]? = some y) (h : x ≠ y) : a ≠ b := by
  intro e
  rw [e, hb] at ha
  injection ha with ha
  exact h ha.symm
end Go.Proofs.Ythepgnankelmeaa
