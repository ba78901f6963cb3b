/- Heads: are two the same? -/
import Derived.Test.YtdnjlhcmihmgdaaRoots
namespace Go.Proofs.Ytdnjlhcmihmgdaa
open Go.RowKit

theorem eq_doc_s : Try.prog.underlying 66 = some (.struct (Try.prog.fieldsOf 66)) := by kernel_rfl
theorem eq_doc_h : Try.prog.stoodInHeld 66 = false := by kernel_rfl
theorem eq_doc_p (n : Int) (f : Nat → Int) (w : World) : (Go.part 64 (hd n f) 1).run Try.prog w = .ok (.agg (ar f)) w := by kernel_rfl
theorem eq_doc_i : (Try.prog.info? 22).isSome = true := by kernel_rfl
theorem eq_doc_c : Try.prog.cellsOf 22 = 1 := by kernel_rfl
theorem eq_doc_e (f h : Nat → Int) (w : World) : (Op.equalIn 9999 64 (.agg (ar f)) (.agg (ar h))).run Try.prog w = .ok ((List.range 16).all fun i => f i == h i) w :=
  run_eq_arr 9997 _ 22 f h Try.underlying64 Try.underlying22 eq_doc_i eq_doc_c w
theorem eq_doc (n : Int) (f : Nat → Int) (m : Int) (h : Nat → Int) : ∀ w : World, (binOp .eql 66 (.agg (hd n f)) (.agg (hd m h))).run Try.prog w = .ok (.bool (eqH n f m h)) w := by
  intro w
  obtain ⟨X, hX⟩ : ∃ X, X = hd n f := ⟨_, rfl⟩
  obtain ⟨Y, hY⟩ : ∃ Y, Y = hd m h := ⟨_, rfl⟩
  have p0 : (Go.part 22 X 0).run Try.prog w = .ok (.int .u64 n) w := by rw [hX]; exact run_part_cell w _ _ _ _ Try.underlying22 rfl
  have p0' : (Go.part 22 Y 0).run Try.prog w = .ok (.int .u64 m) w := by rw [hY]; exact run_part_cell w _ _ _ _ Try.underlying22 rfl
  have p1 : (Go.part 64 X 1).run Try.prog w = .ok (.agg (ar f)) w := by rw [hX]; exact eq_doc_p n f w
  have p1' : (Go.part 64 Y 1).run Try.prog w = .ok (.agg (ar h)) w := by rw [hY]; exact eq_doc_p m h w
  rw [← hX, ← hY]
  clear hX hY
  rw [run_eql_struct, show (10000 : Nat) = 9999 + 1 from rfl, run_equalIn_agg w 9999 66 _ _ eq_doc_s eq_doc_h]
  simp only [Program.fieldsOf, Try.underlying66, Op.eqFields, Sem.run_bind, Sem.run_ite]
  have e1 := eq_doc_e f h w
  have e0 : (Op.equalIn 9999 22 (.int .u64 n) (.int .u64 m)).run Try.prog w = .ok (n == m) w := run_equalIn_int (P := Try.prog) w 9998 22 .u64 .u64 n m Try.underlying22
  obtain ⟨D, hD⟩ : ∃ D, D = 9999 := ⟨_, rfl⟩
  rw [← hD] at e0 e1 ⊢
  clear hD
  have q1 : ("Next" ≠ "_") = True := by simp
  have q2 : ("L" ≠ "_") = True := by simp
  unfold eqH
  obtain ⟨b, hb⟩ : ∃ b, b = (List.range 16).all fun i => f i == h i := ⟨_, rfl⟩
  obtain ⟨U, hU⟩ : ∃ U, U = ar f := ⟨_, rfl⟩
  obtain ⟨V, hV⟩ : ∃ V, V = ar h := ⟨_, rfl⟩
  rw [← hb] at e1 ⊢
  rw [← hU] at e1 p1
  rw [← hV] at e1 p1'
  clear hb hU hV
  by_cases hnm : n = m
  · subst hnm
    simp only [q1, q2, if_true, p0, p0', p1, p1', e0, e1, Result.andThen_ok]
    cases b <;> simp
  · have : (n == m) = false := by simpa using hnm
    simp only [q1, q2, if_true, p0, p0', e0, Result.andThen_ok, this]
    simp

theorem eq_own_s : Try.prog.underlying 70 = some (.struct (Try.prog.fieldsOf 70)) := by kernel_rfl
theorem eq_own_h : Try.prog.stoodInHeld 70 = false := by kernel_rfl
theorem eq_own_p (n : Int) (f : Nat → Int) (w : World) : (Go.part 68 (hd n f) 1).run Try.prog w = .ok (.agg (ar f)) w := by kernel_rfl
theorem eq_own_i : (Try.prog.info? 25).isSome = true := by kernel_rfl
theorem eq_own_c : Try.prog.cellsOf 25 = 1 := by kernel_rfl
theorem eq_own_e (f h : Nat → Int) (w : World) : (Op.equalIn 9999 68 (.agg (ar f)) (.agg (ar h))).run Try.prog w = .ok ((List.range 16).all fun i => f i == h i) w :=
  run_eq_arr 9997 _ 25 f h Try.underlying68 Try.underlying25 eq_own_i eq_own_c w
theorem eq_own (n : Int) (f : Nat → Int) (m : Int) (h : Nat → Int) : ∀ w : World, (binOp .eql 70 (.agg (hd n f)) (.agg (hd m h))).run Try.prog w = .ok (.bool (eqH n f m h)) w := by
  intro w
  obtain ⟨X, hX⟩ : ∃ X, X = hd n f := ⟨_, rfl⟩
  obtain ⟨Y, hY⟩ : ∃ Y, Y = hd m h := ⟨_, rfl⟩
  have p0 : (Go.part 22 X 0).run Try.prog w = .ok (.int .u64 n) w := by rw [hX]; exact run_part_cell w _ _ _ _ Try.underlying22 rfl
  have p0' : (Go.part 22 Y 0).run Try.prog w = .ok (.int .u64 m) w := by rw [hY]; exact run_part_cell w _ _ _ _ Try.underlying22 rfl
  have p1 : (Go.part 68 X 1).run Try.prog w = .ok (.agg (ar f)) w := by rw [hX]; exact eq_own_p n f w
  have p1' : (Go.part 68 Y 1).run Try.prog w = .ok (.agg (ar h)) w := by rw [hY]; exact eq_own_p m h w
  rw [← hX, ← hY]
  clear hX hY
  rw [run_eql_struct, show (10000 : Nat) = 9999 + 1 from rfl, run_equalIn_agg w 9999 70 _ _ eq_own_s eq_own_h]
  simp only [Program.fieldsOf, Try.underlying70, Op.eqFields, Sem.run_bind, Sem.run_ite]
  have e1 := eq_own_e f h w
  have e0 : (Op.equalIn 9999 22 (.int .u64 n) (.int .u64 m)).run Try.prog w = .ok (n == m) w := run_equalIn_int (P := Try.prog) w 9998 22 .u64 .u64 n m Try.underlying22
  obtain ⟨D, hD⟩ : ∃ D, D = 9999 := ⟨_, rfl⟩
  rw [← hD] at e0 e1 ⊢
  clear hD
  have q1 : ("Next" ≠ "_") = True := by simp
  have q2 : ("L" ≠ "_") = True := by simp
  unfold eqH
  obtain ⟨b, hb⟩ : ∃ b, b = (List.range 16).all fun i => f i == h i := ⟨_, rfl⟩
  obtain ⟨U, hU⟩ : ∃ U, U = ar f := ⟨_, rfl⟩
  obtain ⟨V, hV⟩ : ∃ V, V = ar h := ⟨_, rfl⟩
  rw [← hb] at e1 ⊢
  rw [← hU] at e1 p1
  rw [← hV] at e1 p1'
  clear hb hU hV
  by_cases hnm : n = m
  · subst hnm
    simp only [q1, q2, if_true, p0, p0', p1, p1', e0, e1, Result.andThen_ok]
    cases b <;> simp
  · have : (n == m) = false := by simpa using hnm
    simp only [q1, q2, if_true, p0, p0', e0, Result.andThen_ok, this]
    simp

end Go.Proofs.Ytdnjlhcmihmgdaa
