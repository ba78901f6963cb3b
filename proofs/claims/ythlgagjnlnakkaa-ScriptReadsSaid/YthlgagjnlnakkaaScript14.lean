/- Scripts: bytes' acts, by the program. -/
import Derived.Test.YthlgagjnlnakkaaScriptM
namespace Go.Proofs.Ythlgagjnlnakkaa
open Go.RowKit

theorem err_any (g : Nat) (gs : List Nat) (l : List UInt8) (er : Int) (w : World) (h : RowIs 76 w g gs l er) :
    Calls Try.prog 36 #[.pointer (some ⟨g, 0, none⟩)] w fun e w' => e = .returned (.int .i64 er) ∧ w = w' := by
  obtain ⟨hg, A, c, hB, hR, hlc, hcm⟩ := h
  have cc := hB.cell
  go_enter Try.func36, Try.ntmps36
  go_wp2_with fail
  go_ret
  exact ⟨rfl, rfl⟩

/-- A row with the bytes l and the error e, asked for a number of n bytes. -/
def NumC (l : List UInt8) (e n x : Int) (l' : List UInt8) (e' : Int) : Prop :=
  ∀ (g : Nat) (gs : List Nat) (w : World), RowIs 76 w g gs l e → Calls Try.prog 34 #[.pointer (some ⟨g, 0, none⟩), .int .i64 n] w fun y w' => y = .returned (.int .u64 x) ∧ RowIs 76 w' g gs l' e' ∧ Kept [g] w w'
def BytesC (l : List UInt8) (e n : Int) (L l' : List UInt8) (e' : Int) : Prop :=
  ∀ (g : Nat) (gs : List Nat) (w : World), RowIs 76 w g gs l e → Calls Try.prog 35 #[.pointer (some ⟨g, 0, none⟩), .int .i64 n] w fun y w' => ∃ v, y = .returned v ∧ Fresh 5 w.heap.size w' v L ∧ RowIs 76 w' g gs l' e' ∧ Kept [g] w w'
theorem get_lt2 (l : List UInt8) (e : Int) (n : Nat) (hn : n ≤ 2) : (getL (takeO l e (n : Int)) : Int) < 65536 := by
  have h1 := getL_lt (takeO l e (n : Int))
  have h2 : (takeO l e (n : Int)).length ≤ 2 := by unfold takeO; split <;> simp <;> omega
  have h3 : 256 ^ (takeO l e (n : Int)).length ≤ 256 ^ 2 := Nat.pow_le_pow_right (by omega) h2
  omega
theorem takeL_len (l : List UInt8) (e n : Int) : (takeL l e n).length ≤ l.length := by unfold takeL; split <;> simp
theorem numC_1 (s : List UInt8 × Int) : NumC s.1 s.2 1 (getL (takeO s.1 s.2 1) : Int) (stepR s 1).1 (stepR s 1).2 := fun g gs w h => num_any g gs s.1 s.2 1 w h (by omega)
theorem numC_2 (s : List UInt8 × Int) : NumC s.1 s.2 2 (getL (takeO s.1 s.2 2) : Int) (stepR s 2).1 (stepR s 2).2 := fun g gs w h => num_any g gs s.1 s.2 2 w h (by omega)
/-- The names of what is read of an act's bytes. -/
theorem read_chain (r : List UInt8) (hr : r.length ≤ 140737488355328) : ∃ (l1 l2 l3 l4 l5 l6 l7 l8 L : List UInt8) (e1 e2 e3 e4 e5 e6 e7 e8 x0 x1 x2 x3 x4 x5 : Int) (y : Bool) (n : Nat),
    (NumC r 0 1 x0 l1 e1 ∧ NumC l1 e1 1 x1 l2 e2 ∧ NumC l2 e2 2 x2 l3 e3 ∧ NumC l3 e3 2 x3 l4 e4 ∧ NumC l4 e4 2 x4 l5 e5 ∧ NumC l5 e5 2 x5 l6 e6 ∧ NumC l6 e6 2 (n : Int) l7 e7 ∧ BytesC l7 e7 (n : Int) L l8 e8) ∧
    readA r = ((x0, y, x2, x3, x4, x5), L) ∧ rlast r = (l8, e8) ∧ (x1 != 0) = y ∧ (0 ≤ x0 ∧ x0 < 65536) ∧ (0 ≤ x1 ∧ x1 < 65536) ∧ (0 ≤ x2 ∧ x2 < 65536) ∧ (0 ≤ x3 ∧ x3 < 65536) ∧ (0 ≤ x4 ∧ x4 < 65536) ∧ (0 ≤ x5 ∧ x5 < 65536) ∧ n < 65536 ∧ L.length ≤ r.length := by
  have hlen : (rs7 r).1.length ≤ r.length := by
    refine Nat.le_trans (takeL_len _ _ _) (Nat.le_trans (takeL_len _ _ _) (Nat.le_trans (takeL_len _ _ _) (Nat.le_trans (takeL_len _ _ _) (Nat.le_trans (takeL_len _ _ _) (Nat.le_trans (takeL_len _ _ _) (takeL_len _ _ _))))))
  refine ⟨(rs1 r).1, (rs2 r).1, (rs3 r).1, (rs4 r).1, (rs5 r).1, (rs6 r).1, (rs7 r).1, (rlast r).1, rbs r, (rs1 r).2, (rs2 r).2, (rs3 r).2, (rs4 r).2, (rs5 r).2, (rs6 r).2, (rs7 r).2, (rlast r).2, (getL (ro0 r) : Int), (getL (ro1 r) : Int), (getL (ro2 r) : Int), (getL (ro3 r) : Int), (getL (ro4 r) : Int), (getL (ro5 r) : Int), decide (getL (ro1 r) ≠ 0), rlen r, ⟨numC_1 (rs0 r), numC_1 (rs1 r), numC_2 (rs2 r), numC_2 (rs3 r), numC_2 (rs4 r), numC_2 (rs5 r), numC_2 (rs6 r), fun g gs w h => rbytes_any g gs _ _ _ w h ?_ (by omega)⟩, rfl, rfl, ?_, ⟨by omega, get_lt2 _ _ 1 (by omega)⟩, ⟨by omega, get_lt2 _ _ 1 (by omega)⟩, ⟨by omega, get_lt2 _ _ 2 (by omega)⟩, ⟨by omega, get_lt2 _ _ 2 (by omega)⟩, ⟨by omega, get_lt2 _ _ 2 (by omega)⟩, ⟨by omega, get_lt2 _ _ 2 (by omega)⟩, ?_, ?_⟩
  · have h6 : (rlen r : Int) < 65536 := get_lt2 (rs6 r).1 (rs6 r).2 2 (by omega)
    omega
  · rw [Bool.eq_iff_iff]; simp
  · have h6 : (rlen r : Int) < 65536 := get_lt2 (rs6 r).1 (rs6 r).2 2 (by omega)
    omega
  · exact Nat.le_trans (takeO_len _ _ _) hlen

set_option maxHeartbeats 1000000 in
theorem hasprefix_any (A B : Option Addr) (n m c d : Nat) (a b : List UInt8) (w : World) (ha : Rd w A n a) (hb : Rd w B m b) (hc : n ≤ c) (_hcm : c ≤ maxLen) :
    Calls Try.prog 37 #[.slice A n c, .slice B m d] w fun e w' => e = .returned (.bool (decide (b <+: a))) ∧ w = w' := by
  have hla := ha.len
  have hlb := hb.len
  unfold maxLen at _hcm
  by_cases h : m ≤ n
  · have hr := Lib.hid (show decide (b <+: a) = decide (a.take m = b) by
      rw [Bool.eq_iff_iff, decide_eq_true_eq, decide_eq_true_eq, List.prefix_iff_eq_take, hlb]
      exact eq_comm)
    have ha2 := ha.pre m h
    go_enter Try.func37, Try.ntmps37
    go_wp2_with fail
    refine (equal_any A B m m _ d (a.take m) b _ ha2 hb).mono ?_
    rintro e w1 ⟨rfl, rfl⟩
    obtain ⟨X, hX⟩ : ∃ X, X = decide (a.take m = b) := ⟨_, rfl⟩
    rw [← hX]
    rw [← hX] at hr
    clear hX
    go_wp2_with fail
    go_ret
    exact ⟨by rw [hr.out]; rfl, rfl⟩
  · have hr := Lib.hid (show decide (b <+: a) = false by
      rw [decide_eq_false_iff_not]
      intro hp
      have := hp.length_le
      omega)
    go_enter Try.func37, Try.ntmps37
    go_wp2_with fail
    go_ret
    exact ⟨by rw [hr.out]; rfl, rfl⟩
end Go.Proofs.Ythlgagjnlnakkaa
