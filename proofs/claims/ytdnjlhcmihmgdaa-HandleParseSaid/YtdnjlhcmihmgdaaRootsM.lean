/- Heads: what is written is read: the plain law. -/
import Derived.Test.YtdnjlhcmihmgdaaRoots6
import Derived.Test.YtdnjlhcmihmgdaaWord6
namespace Go.Proofs.Ytdnjlhcmihmgdaa
open Go.RowKit

theorem bodyR_ext {n : Int} {f g : Nat → Int} : ∀ k, (∀ i, i < k → f i = g i) → bodyR n f k = bodyR n g k
  | 0, _ => by rw [bodyR_zero, bodyR_zero]
  | k + 1, h => by rw [← bodyR_step, ← bodyR_step, bodyR_ext k (fun i hi => h i (by omega)), h k (by omega)]
theorem encR_ext {n : Int} {f g : Nat → Int} (h : ∀ i, i < 16 → f i = g i) : encR n f = encR n g := by unfold encR; rw [bodyR_ext 16 h]
theorem noH_ext {n : Int} {f g : Nat → Int} (h : ∀ i, i < 16 → f i = g i) : noH n f = noH n g := by
  rw [Bool.eq_iff_iff]
  unfold noH
  rw [eqH_iff, eqH_iff]
  constructor
  · rintro ⟨a, b⟩; exact ⟨a, fun i hi => by rw [← h i hi]; exact b i hi⟩
  · rintro ⟨a, b⟩; exact ⟨a, fun i hi => by rw [h i hi]; exact b i hi⟩
theorem rtB_ext {n : Int} {f g : Nat → Int} (h : ∀ i, i < 16 → f i = g i) : rtB n f = rtB n g := by
  unfold rtB
  rw [decide_eq_decide]
  constructor
  · rintro ⟨a, b⟩; exact ⟨fun i hi => by rw [← h i hi]; exact a i hi, b⟩
  · rintro ⟨a, b⟩; exact ⟨fun i hi => by rw [h i hi]; exact a i hi, b⟩
theorem sencR_ext {n : Int} {f g : Nat → Int} (h : ∀ i, i < 16 → f i = g i) : sencR n f = sencR n g ∧ serrR n f = serrR n g := by
  unfold sencR serrR
  rw [noH_ext h, rtB_ext h, encR_ext h]
  exact ⟨rfl, rfl⟩
/-- Numbers stand one behind the other. -/
theorem body_at (n : Int) (f : Nat → Int) : ∀ k, (bodyR n f k).drop (8 * k) = putL 8 (if k = 0 then n else f (k - 1))
  | 0 => by rw [bodyR_zero]; rfl
  | k + 1 => by
    rw [← bodyR_step]
    have hl := bodyR_len n f k
    rw [List.drop_append_of_le_length (by omega), List.drop_of_length_le (by omega), List.nil_append]
    simp
theorem body_pre (n : Int) (f : Nat → Int) (k : Nat) : ∀ m, bodyR n f (k + m) = bodyR n f k ++ (bodyR n f (k + m)).drop (8 + 8 * k)
  | 0 => by rw [Nat.add_zero, List.drop_of_length_le (by rw [bodyR_len]; exact Nat.le_refl _), List.append_nil]
  | m + 1 => by
    have ih := body_pre n f k m
    rw [← Nat.add_assoc, ← bodyR_step]
    rw [List.drop_append_of_le_length (by rw [bodyR_len]; omega), ← List.append_assoc, ← ih]
theorem encR_split (n : Int) (f : Nat → Int) {k : Nat} (hk : k ≤ 16) : ∃ r, encR n f = bodyR n f k ++ r ∧ r.length = 248 - 8 * k := by
  obtain ⟨m, hm⟩ : ∃ m, 16 = k + m := ⟨16 - k, by omega⟩
  have hl := bodyR_len n f 16
  have h1 := body_pre n f k m
  rw [← hm] at h1
  have h2 : encR n f = bodyR n f 16 ++ List.replicate 120 0 := by
    unfold encR padL
    rw [List.take_of_length_le (by omega), hl]
  refine ⟨(bodyR n f 16).drop (8 + 8 * k) ++ List.replicate 120 0, ?_, ?_⟩
  · rw [h2, ← List.append_assoc, ← h1]
  · rw [List.length_append, List.length_drop, hl, List.length_replicate]; omega
theorem enc_num (n : Int) (f : Nat → Int) {k : Nat} (hk : k ≤ 16) : ((encR n f).drop (8 * k)).take 8 = putL 8 (if k = 0 then n else f (k - 1)) := by
  obtain ⟨r, h1, h2⟩ := encR_split n f hk
  rw [h1, List.drop_append_of_le_length (by rw [bodyR_len]; omega), body_at, List.take_append_of_le_length (by rw [putL_len]; exact Nat.le_refl _), List.take_of_length_le (by rw [putL_len]; exact Nat.le_refl _)]
theorem stK_drop {b : List UInt8} : ∀ k, 8 * k ≤ b.length → stK b k = (b.drop (8 * k), 0)
  | 0, _ => rfl
  | k + 1, h => by
    obtain ⟨t1, t2, t3⟩ := take_yes (l := b.drop (8 * k)) (n := 8) (by simp; omega)
    have e8 : ((8 : Nat) : Int) = 8 := rfl
    rw [e8] at t1 t2 t3
    unfold stK stR
    rw [stK_drop k (by omega)]
    simp only
    rw [t2, t3, List.drop_drop]
    rfl
theorem vaK_drop {b : List UInt8} {k : Nat} (h : 8 * k + 8 ≤ b.length) : vaK b k = (getL ((b.drop (8 * k)).take 8) : Int) := by
  obtain ⟨t1, t2, t3⟩ := take_yes (l := b.drop (8 * k)) (n := 8) (by simp; omega)
  have e8 : ((8 : Nat) : Int) = 8 := rfl
  rw [e8] at t1
  unfold vaK
  rw [stK_drop k (by omega)]
  simp only
  rw [t1]
theorem enc_va (n : Int) (f : Nat → Int) {k : Nat} (hk : k ≤ 16) (n0 : 0 ≤ n) (n1 : n ≤ 18446744073709551615) (hf : ∀ i, i < 16 → 0 ≤ f i ∧ f i ≤ 18446744073709551615) : vaK (encR n f) k = if k = 0 then n else f (k - 1) := by
  rw [vaK_drop (by rw [encR_len]; omega), enc_num n f hk]
  have hx : 0 ≤ (if k = 0 then n else f (k - 1)) ∧ (if k = 0 then n else f (k - 1)) ≤ 18446744073709551615 := by
    split
    · exact ⟨n0, n1⟩
    · exact hf (k - 1) (by omega)
  rw [getL_putL 8 _ hx.1]
  have : (256 : Int) ^ 8 = 18446744073709551616 := by decide
  rw [this]
  omega
theorem getL_zero : ∀ l : List UInt8, zeroB l = true → getL l = 0
  | [], _ => rfl
  | x :: l, h => by
    simp only [zeroB, List.all_cons, Bool.and_eq_true, beq_iff_eq] at h
    have := getL_zero l h.2
    rw [getL, this, h.1]
    rfl
theorem zeroB_part {l : List UInt8} (h : zeroB l = true) (k m : Nat) : zeroB ((l.drop k).take m) = true := by
  simp only [zeroB, List.all_eq_true] at h ⊢
  exact fun x hx => h x (List.mem_of_mem_drop (List.mem_of_mem_take hx))
theorem enc_not_zero {n : Int} {f : Nat → Int} (n0 : 1 ≤ n) (n1 : n ≤ 18446744073709551615) (hf : ∀ i, i < 16 → 0 ≤ f i ∧ f i ≤ 18446744073709551615) : zeroB (encR n f) = false := by
  cases h : zeroB (encR n f) with
  | false => rfl
  | true =>
    exfalso
    have h1 := enc_va n f (k := 0) (by omega) (by omega) n1 hf
    rw [vaK_drop (by rw [encR_len]; omega), getL_zero _ (zeroB_part h _ _)] at h1
    simp at h1
    omega
theorem zero_pad : padL 256 ([] : List UInt8) = List.replicate 256 0 := rfl
/-- The noughts are the head of nothing. -/
theorem par_zero {b : List UInt8} (hb : b.length = 256) (hz : zeroB b = true) : parN b = 1 ∧ parF b = (fun _ => 0) ∧ parE b = 0 := by
  unfold parN parF parE
  rw [if_pos ⟨hb, hz⟩, if_pos ⟨hb, hz⟩, if_pos ⟨hb, hz⟩]
  exact ⟨rfl, rfl, rfl⟩
theorem rtB_n {n : Int} {f : Nat → Int} (h : rtB n f = true) : 1 ≤ n ∧ n ≤ 281474976710656 := by
  have := of_decide_eq_true h
  exact ⟨by omega, this.2.2⟩
/-- A head that may be is read as it was. -/
theorem par_enc {n : Int} {f : Nat → Int} (h : rtB n f = true) (hf : ∀ i, i < 16 → 0 ≤ f i ∧ f i ≤ 18446744073709551615) : hd (parN (encR n f)) (parF (encR n f)) = hd n f ∧ parE (encR n f) = 0 ∧ sencR n f = encR n f ∧ serrR n f = 0 := by
  obtain ⟨n0, n1⟩ := rtB_n h
  have hz := enc_not_zero n0 (by omega) hf
  have hno : noH n f = false := by
    cases hc : noH n f with
    | false => rfl
    | true => have := (eqH_iff.1 hc).1; omega
  have hs : sencR n f = encR n f := by unfold sencR; rw [hno, h]; rfl
  have he : serrR n f = 0 := by unfold serrR; rw [hno, h]; rfl
  have e0 : vaK (encR n f) 0 = n := by rw [enc_va n f (by omega) (by omega) (by omega) hf]; rfl
  have ef : ∀ i, i < 16 → vaF (encR n f) i = f i := fun i hi => by
    unfold vaF
    rw [enc_va n f (by omega) (by omega) (by omega) hf, if_neg (by omega)]
    rfl
  have hg : goodR (encR n f) = true := by
    unfold goodR
    rw [e0, (sencR_ext ef).1, (sencR_ext ef).2, hs, he]
    exact decide_eq_true ⟨rfl, rfl⟩
  have hnz : ¬ ((encR n f).length = 256 ∧ zeroB (encR n f) = true) := by rw [hz]; simp
  refine ⟨?_, ?_, hs, he⟩
  · unfold parN parF
    rw [if_neg hnz, if_neg hnz, if_pos hg, if_pos hg, e0]
    exact hd_ext ef
  · unfold parE
    rw [if_neg hnz, if_pos hg]
end Go.Proofs.Ytdnjlhcmihmgdaa
