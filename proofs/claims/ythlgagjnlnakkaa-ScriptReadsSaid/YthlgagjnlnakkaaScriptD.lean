/- Scripts: an act read by its places: the plain law. -/
import Derived.Test.YthlgagjnlnakkaaScriptM
namespace Go.Proofs.Ythlgagjnlnakkaa
open Go.RowKit

theorem step_yes {l : List UInt8} {n : Nat} (h : n ≤ l.length) : stepR (l, 0) n = (l.drop n, 0) ∧ takeO l 0 n = l.take n := by
  obtain ⟨t1, t2, t3⟩ := take_yes h
  exact ⟨by unfold stepR; simp only; rw [t2, t3], t1⟩
theorem step_at {r : List UInt8} {j n : Nat} {s : List UInt8 × Int} (hs : s = (r.drop j, 0)) (h : j + n ≤ r.length) : stepR s n = (r.drop (j + n), 0) ∧ takeO s.1 s.2 n = (r.drop j).take n := by
  subst hs
  obtain ⟨h1, h2⟩ := step_yes (l := r.drop j) (n := n) (by simp; omega)
  exact ⟨by rw [h1, List.drop_drop], h2⟩
theorem take_at (b : List UInt8) (k j m : Nat) : ((b.drop k).drop j).take m = (b.take (k + j + m)).drop (k + j) := by
  rw [List.drop_drop, List.drop_take]
  congr 1
  omega
theorem getL_one {b : List UInt8} {k : Nat} {x : UInt8} (h : b[k]? = some x) : getL ((b.drop k).take 1) = x.toNat := by
  have hk : k < b.length := (List.getElem?_eq_some_iff.1 h).1
  have e : b[k] = x := (List.getElem?_eq_some_iff.1 h).2
  rw [List.drop_eq_getElem_cons hk, e]
  simp [getL]
theorem doc_short {b : List UInt8} {k : Nat} (h : b.length < k + 12) : stepOK (b.drop k) = false := by
  cases hs : stepOK (b.drop k) with
  | false => rfl
  | true =>
    exfalso
    obtain ⟨h1, h2⟩ := stepOK_enc hs
    have := congrArg List.length h2
    rw [List.length_append, encA_len, List.length_drop] at this
    omega
theorem doc_long {b : List UInt8} {k : Nat} (h : k + 12 ≤ b.length) : ∃ (x0 x1 : UInt8), b[k]? = some x0 ∧ b[k + 1]? = some x1 ∧ rlen (b.drop k) = getL ((b.take (k + 12)).drop (k + 10)) ∧
    (1 < x1.toNat → stepOK (b.drop k) = false) ∧ (b.length < k + 12 + rlen (b.drop k) → stepOK (b.drop k) = false) ∧
    (x1.toNat ≤ 1 → k + 12 + rlen (b.drop k) ≤ b.length →
      readA (b.drop k) = (((x0.toNat : Int), (x1 == 1), (getL ((b.take (k + 4)).drop (k + 2)) : Int), (getL ((b.take (k + 6)).drop (k + 4)) : Int), (getL ((b.take (k + 8)).drop (k + 6)) : Int), (getL ((b.take (k + 10)).drop (k + 8)) : Int)), (b.take (k + 12 + rlen (b.drop k))).drop (k + 12)) ∧
      stepOK (b.drop k) = mayA (readA (b.drop k)) ∧ (rlast (b.drop k)).1 = b.drop (k + 12 + rlen (b.drop k))) := by
  obtain ⟨r, hr⟩ : ∃ r, r = b.drop k := ⟨_, rfl⟩
  have hrl : 12 ≤ r.length := by rw [hr, List.length_drop]; omega
  have s0 : rs0 r = (r.drop 0, 0) := rfl
  obtain ⟨s1, o0⟩ := step_at (n := 1) s0 (by omega)
  have s1 : rs1 r = (r.drop 1, 0) := s1
  obtain ⟨s2, o1⟩ := step_at (n := 1) s1 (by omega)
  have s2 : rs2 r = (r.drop 2, 0) := s2
  obtain ⟨s3, o2⟩ := step_at (n := 2) s2 (by omega)
  have s3 : rs3 r = (r.drop 4, 0) := s3
  obtain ⟨s4, o3⟩ := step_at (n := 2) s3 (by omega)
  have s4 : rs4 r = (r.drop 6, 0) := s4
  obtain ⟨s5, o4⟩ := step_at (n := 2) s4 (by omega)
  have s5 : rs5 r = (r.drop 8, 0) := s5
  obtain ⟨s6, o5⟩ := step_at (n := 2) s5 (by omega)
  have s6 : rs6 r = (r.drop 10, 0) := s6
  obtain ⟨s7, o6⟩ := step_at (n := 2) s6 (by omega)
  have s7 : rs7 r = (r.drop 12, 0) := s7
  have o0 : ro0 r = r.take 1 := o0
  have o1 : ro1 r = (r.drop 1).take 1 := o1
  have o2 : ro2 r = (b.take (k + 4)).drop (k + 2) := by rw [← take_at b k 2 2, ← hr]; exact o2
  have o3 : ro3 r = (b.take (k + 6)).drop (k + 4) := by rw [← take_at b k 4 2, ← hr]; exact o3
  have o4 : ro4 r = (b.take (k + 8)).drop (k + 6) := by rw [← take_at b k 6 2, ← hr]; exact o4
  have o5 : ro5 r = (b.take (k + 10)).drop (k + 8) := by rw [← take_at b k 8 2, ← hr]; exact o5
  have o6 : ro6 r = (b.take (k + 12)).drop (k + 10) := by rw [← take_at b k 10 2, ← hr]; exact o6
  have g0 : b[k]? = some b[k] := List.getElem?_eq_getElem (by omega)
  have g1 : b[k + 1]? = some b[k + 1] := List.getElem?_eq_getElem (by omega)
  have v0 : getL (ro0 r) = b[k].toNat := by rw [o0, hr]; exact getL_one g0
  have v1 : getL (ro1 r) = b[k + 1].toNat := by rw [o1, hr, List.drop_drop]; exact getL_one g1
  have hn : rlen r = getL ((b.take (k + 12)).drop (k + 10)) := by unfold rlen; rw [o6]
  rw [← hr]
  refine ⟨b[k], b[k + 1], g0, g1, hn, fun h1 => ?_, fun h1 => ?_, fun h1 h2 => ?_⟩
  · unfold stepOK
    rw [v1, show decide (b[k + 1].toNat ≤ 1) = false from decide_eq_false (by omega), Bool.and_false]
  · unfold stepOK
    have : ¬ (rlast r).2 = 0 := by
      intro h3
      obtain ⟨_, l0, l1, l2, l3, l4, l5, l6, l7⟩ := rs_all h3
      have h4 := (rs_all h3).1
      have h5 := congrArg List.length h4
      simp only [List.length_append] at h5
      rw [hr, List.length_drop, ← hr] at h5
      omega
    rw [decide_eq_false this, Bool.false_and, Bool.false_and]
  · obtain ⟨s8, o7⟩ := step_at (n := rlen r) s7 (by rw [hr, List.length_drop, ← hr]; omega)
    have s8 : rlast r = (r.drop (12 + rlen r), 0) := s8
    have o7 : rbs r = (b.take (k + 12 + rlen r)).drop (k + 12) := by
      rw [← take_at b k 12 (rlen r), ← hr]
      exact o7
    refine ⟨?_, ?_, ?_⟩
    · unfold readA
      rw [v0, v1, o2, o3, o4, o5, o7]
      congr 3
      rw [Bool.eq_iff_iff, decide_eq_true_eq, beq_iff_eq, ← UInt8.toNat_inj]
      have : (1 : UInt8).toNat = 1 := rfl
      omega
    · unfold stepOK
      rw [v1, s8, show decide (b[k + 1].toNat ≤ 1) = true from decide_eq_true h1, Bool.and_true]
      rfl
    · rw [s8, hr, List.drop_drop]
      simp only
      rw [show k + (12 + rlen (b.drop k)) = k + 12 + rlen (b.drop k) from by omega]
end Go.Proofs.Ythlgagjnlnakkaa
