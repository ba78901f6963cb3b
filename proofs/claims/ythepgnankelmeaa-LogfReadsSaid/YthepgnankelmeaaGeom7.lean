/- The walk of the statement GeomPlaces. -/
import Derived.Test.YthepgnankelmeaaGeom6
import Derived.Deep.DeepCutAuto
namespace Go.Proofs.Ythepgnankelmeaa
open Go.RowKit

theorem run_get (kind : Int) (n i : Nat) : (run_ kind n)[i]? = if i < n then some (kind, (i : Int)) else none := by
  unfold run_
  by_cases h : i < n
  · simp [h]
  · rw [if_neg h, List.getElem?_eq_none_iff]; simp; omega
theorem all_get (p t : Int) (i : Nat) : (allL p t)[i]? = if i = 0 then some (1, 0) else if i < 1 + (epochsI p).toNat then some (2, ((i - 1 : Nat) : Int)) else if i < 1 + (epochsI p).toNat + (sealedI p).toNat then some (3, ((i - 1 - (epochsI p).toNat : Nat) : Int)) else if i < 1 + (epochsI p).toNat + (sealedI p).toNat + (t + 1).toNat then some (4, ((i - 1 - (epochsI p).toNat - (sealedI p).toNat : Nat) : Int)) else none := by
  unfold allL
  generalize (epochsI p).toNat = E
  generalize (sealedI p).toNat = S
  generalize (t + 1).toNat = T
  cases i with
  | zero => simp
  | succ i =>
    rw [List.getElem?_cons_succ, List.append_assoc, List.getElem?_append, List.getElem?_append, run_get, run_get, run_get, run_len, run_len]
    rw [if_neg (show ¬ i + 1 = 0 by omega)]
    by_cases h1 : i < E
    · rw [if_pos h1, if_pos h1, if_pos (show i + 1 < 1 + E by omega)]; simp
    · rw [if_neg h1, if_neg (show ¬ i + 1 < 1 + E by omega)]
      by_cases h2 : i - E < S
      · rw [if_pos h2, if_pos h2, if_pos (show i + 1 < 1 + E + S by omega), show i + 1 - 1 - E = i - E by omega]
      · rw [if_neg h2, if_neg (show ¬ i + 1 < 1 + E + S by omega)]
        by_cases h3 : i - E - S < T
        · rw [if_pos h3, if_pos (show i + 1 < 1 + E + S + T by omega), show i + 1 - 1 - E - S = i - E - S by omega]
        · rw [if_neg h3, if_neg (show ¬ i + 1 < 1 + E + S + T by omega)]

def eAt (p t k : Int) : Int := if gmay p t = true ∧ 0 ≤ k ∧ k < epochsI p then aheadI p 1 + k else -1
def sAt (p t k : Int) : Int := if gmay p t = true ∧ 0 ≤ k ∧ k < sealedI p then aheadI p 2 + k else -1
def lAt (p t k : Int) : Int := if gmay p t = true ∧ 0 ≤ k ∧ k < 1 + t then aheadI p 3 + k else -1
def pageV (p t k : Int) : Int := if gmay p t = true ∧ 0 ≤ k ∧ k < p then 1 + mapsI p + k else -1
def bytesV (k : Int) : Int := if 0 ≤ k ∧ k < 65536 then 256 * k else 0

theorem eAt_any (p t k : Int) (w : World) : Calls Try.prog 25 #[.agg #[.int .i64 p, .int .i64 t], .int .i64 k] w fun e w' => e = .returned (.int .i64 (eAt p t k)) ∧ Below w.heap.size w w' := by
  unfold eAt
  split
  · rename_i h; exact gepochsAt_yes p t k w h.1 h.2.1 h.2.2
  · rename_i h
    refine gepochsAt_no p t k w ?_
    cases hm : gmay p t
    · exact .inl rfl
    · rcases Int.lt_or_le k 0 with h0 | h0
      · exact .inr (.inl h0)
      · exact .inr (.inr ⟨rfl, by rcases Int.lt_or_le k (epochsI p) with h1 | h1; exact absurd ⟨hm, h0, h1⟩ h; exact h1⟩)
theorem sAt_any (p t k : Int) (w : World) : Calls Try.prog 27 #[.agg #[.int .i64 p, .int .i64 t], .int .i64 k] w fun e w' => e = .returned (.int .i64 (sAt p t k)) ∧ Below w.heap.size w w' := by
  unfold sAt
  split
  · rename_i h; exact gsealedAt_yes p t k w h.1 h.2.1 h.2.2
  · rename_i h
    refine gsealedAt_no p t k w ?_
    cases hm : gmay p t
    · exact .inl rfl
    · rcases Int.lt_or_le k 0 with h0 | h0
      · exact .inr (.inl h0)
      · exact .inr (.inr ⟨rfl, by rcases Int.lt_or_le k (sealedI p) with h1 | h1; exact absurd ⟨hm, h0, h1⟩ h; exact h1⟩)
theorem lAt_any (p t k : Int) (w : World) : Calls Try.prog 28 #[.agg #[.int .i64 p, .int .i64 t], .int .i64 k] w fun e w' => e = .returned (.int .i64 (lAt p t k)) ∧ Below w.heap.size w w' := by
  unfold lAt
  split
  · rename_i h; exact glogsAt_yes p t k w h.1 h.2.1 h.2.2
  · rename_i h
    refine glogsAt_no p t k w ?_
    cases hm : gmay p t
    · exact .inl rfl
    · rcases Int.lt_or_le k 0 with h0 | h0
      · exact .inr (.inl h0)
      · exact .inr (.inr ⟨rfl, by rcases Int.lt_or_le k (1 + t) with h1 | h1; exact absurd ⟨hm, h0, h1⟩ h; exact h1⟩)
theorem page_any (p t k : Int) (w : World) : Calls Try.prog 29 #[.agg #[.int .i64 p, .int .i64 t], .int .i64 k] w fun e w' => e = .returned (.int .i64 (pageV p t k)) ∧ Below w.heap.size w w' := by
  unfold pageV
  split
  · rename_i h; exact pageAt_yes p t k w h.1 h.2.1 h.2.2
  · rename_i h
    cases hm : gmay p t
    · exact pageAt_bad p t k w hm
    · refine pageAt_out p t k w hm ?_
      rcases Int.lt_or_le k 0 with h0 | h0
      · exact .inl h0
      · exact .inr ⟨h0, by rcases Int.lt_or_le k p with h1 | h1; exact absurd ⟨hm, h0, h1⟩ h; exact h1⟩
theorem bytes_any (k : Int) (w : World) : Calls Try.prog 30 #[.int .i64 k] w fun e w' => e = .returned (.int .i64 (bytesV k)) ∧ w = w' := by
  unfold bytesV
  split
  · rename_i h; exact gbytes_yes k w h.1 h.2
  · exact gbytes_no k w (by omega)

/-- The place of the one of a kind among the blocks. -/
theorem at_spots (p t k : Int) : atL 2 k (blocksL p t) = eAt p t k ∧ atL 3 k (blocksL p t) = sAt p t k ∧ atL 4 k (blocksL p t) = lAt p t k := by
  unfold blocksL eAt sAt lAt
  cases hm : gmay p t
  · simp [atL]
  · obtain ⟨h1, h2, h3, h4⟩ := gmay_true hm
    obtain ⟨m0, m1, s0, s1, e0, e1⟩ := geo_range h1 h2
    simp only [if_true, true_and]
    have hit : ∀ (kind : Int) (i : Nat), (allL p t)[i]? = some (kind, k) → 2 ≤ kind → atL kind k (allL p t) = i := by
      intro kind i hi hk
      refine atL_hit kind k _ i _ hi rfl rfl fun i' hi' y hy => ?_
      rintro ⟨rfl, rfl⟩
      rw [all_get] at hi hy
      split at hy
      · injection hy with hy; rw [← hy] at hk; simp at hk
      · split at hy
        · injection hy with hy; rw [← hy] at hi; (repeat' split at hi) <;> simp at hi <;> omega
        · split at hy
          · injection hy with hy; rw [← hy] at hi; (repeat' split at hi) <;> simp at hi <;> omega
          · split at hy
            · injection hy with hy; rw [← hy] at hi; (repeat' split at hi) <;> simp at hi <;> omega
            · cases hy
    have miss : ∀ (kind n : Int), 2 ≤ kind → (kind = 2 → n = epochsI p) → (kind = 3 → n = sealedI p) → (kind = 4 → n = 1 + t) → ¬ (0 ≤ k ∧ k < n) → atL kind k (allL p t) = -1 := by
      intro kind n hk g2 g3 g4 hno
      refine atL_miss kind k _ fun i y hy => ?_
      rintro ⟨rfl, rfl⟩
      rw [all_get] at hy
      (repeat' split at hy) <;> first | (injection hy with hy; subst hy; simp only [Int.reduceEq, forall_const, false_implies] at hno g2 g3 g4 hk; omega) | cases hy
    refine ⟨?_, ?_, ?_⟩
    · split
      · rename_i h
        rw [hit 2 (1 + k.toNat) (by rw [all_get, if_neg (by omega), if_pos (by omega)]; congr 2; omega) (by decide)]
        simp only [aheadI]; omega
      · rename_i h
        exact miss 2 _ (by decide) (fun _ => rfl) (fun h => by simp at h) (fun h => by simp at h) h
    · split
      · rename_i h
        rw [hit 3 (1 + (epochsI p).toNat + k.toNat) (by rw [all_get, if_neg (by omega), if_neg (by omega), if_pos (by omega)]; congr 2; omega) (by decide)]
        simp only [aheadI]; omega
      · rename_i h
        exact miss 3 _ (by decide) (fun h => by simp at h) (fun _ => rfl) (fun h => by simp at h) h
    · split
      · rename_i h
        rw [hit 4 (1 + (epochsI p).toNat + (sealedI p).toNat + k.toNat) (by rw [all_get, if_neg (by omega), if_neg (by omega), if_neg (by omega), if_pos (by omega)]; congr 2; omega) (by decide)]
        simp only [aheadI]; omega
      · rename_i h
        exact miss 4 _ (by decide) (fun h => by simp at h) (fun h => by simp at h) (fun _ => rfl) h
end Go.Proofs.Ythepgnankelmeaa
