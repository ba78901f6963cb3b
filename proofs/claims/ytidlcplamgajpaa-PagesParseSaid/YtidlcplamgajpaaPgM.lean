/- Pages as bytes: plain laws. -/
import Derived.Test.YtidlcplamgajpaaPages2
import Derived.Test.YtidlcplamgajpaaWord4
namespace Go.Proofs.Ytidlcplamgajpaa
open Go.RowKit

theorem getL_putL : ∀ (n : Nat) (v : Int), 0 ≤ v → (getL (putL n v) : Int) = v % 256 ^ n := by
  intro n
  induction n with
  | zero => intro v _; simp [putL, getL]
  | succ n ih =>
    intro v h0
    have e : putL (n + 1) v = byteI v 0 :: putL n (v / 256) := by
      unfold putL
      rw [List.range_succ_eq_map, List.map_cons, List.map_map]
      congr 1
      apply List.map_congr_left
      intro k _
      exact (byteI_next v k).symm
    rw [e, getL]
    have h1 := ih (v / 256) (Int.ediv_nonneg h0 (by omega))
    have h2 := byteI_val v 0
    rw [Int.natCast_add, Int.natCast_mul, h1, h2]
    simp only [Int.pow_zero, Int.ediv_one]
    have h3 := Int.emod_def (v / 256) (256 ^ n)
    rw [Int.emod_def v (256 ^ (n + 1)), h3, Int.pow_succ, Int.mul_comm (256 ^ n) 256, ← Int.ediv_ediv_of_nonneg (by omega)]
    generalize v / 256 / 256 ^ n = q
    rw [Int.mul_assoc]
    generalize (256 : Int) ^ n * q = r
    omega
theorem putL_getL : ∀ l : List UInt8, putL l.length (getL l : Int) = l
  | [] => rfl
  | c :: r => by
    have ih := putL_getL r
    have hc := c.toNat_lt
    unfold putL at ih ⊢
    rw [List.length_cons, List.range_succ_eq_map, List.map_cons, List.map_map]
    have e0 : byteI (getL (c :: r) : Int) 0 = c := by
      apply UInt8.toNat_inj.1
      have := byteI_val (getL (c :: r) : Int) 0
      rw [getL] at this ⊢
      simp only [Int.pow_zero, Int.ediv_one] at this
      omega
    have e1 : (byteI (getL (c :: r) : Int) ∘ Nat.succ) = byteI (getL r : Int) := by
      funext k
      apply UInt8.toNat_inj.1
      have h1 := byteI_val (getL (c :: r) : Int) (k + 1)
      have h2 := byteI_val (getL r : Int) k
      have e : (getL (c :: r) : Int) / 256 ^ (k + 1) = (getL r : Int) / 256 ^ k := by
        rw [Int.pow_succ, Int.mul_comm, ← Int.ediv_ediv_of_nonneg (by omega), getL]
        congr 1
        omega
      rw [e] at h1
      simp only [Function.comp, Nat.succ_eq_add_one]
      omega
    rw [e0, e1, ih]
/-- A page's sixteen bytes; what sixteen bytes tell. -/
def pgL (x : Pg) : List UInt8 := byteI x.1 0 :: byteI x.2.1 0 :: (putL 2 x.2.2.1 ++ (putL 4 x.2.2.2.1 ++ putL 8 x.2.2.2.2))
def pgC (s : List UInt8) : Pg := (((s.getD 0 0).toNat : Int), ((s.getD 1 0).toNat : Int), (getL ((s.take 4).drop 2) : Int), (getL ((s.take 8).drop 4) : Int), (getL ((s.take 16).drop 8) : Int))
theorem pgL_len (x : Pg) : (pgL x).length = 16 := by simp [pgL, putL_len]
theorem byteI_self (c : UInt8) : byteI (c.toNat : Int) 0 = c := by
  have hc := c.toNat_lt
  apply UInt8.toNat_inj.1
  have := byteI_val (c.toNat : Int) 0
  simp only [Int.pow_zero, Int.ediv_one] at this
  omega
/-- What sixteen bytes tell has just these bytes. -/
theorem pgL_pgC (s : List UInt8) (h : s.length = 16) : pgL (pgC s) = s := by
  match s, h with
  | [a, b, c0, c1, d0, d1, d2, d3, e0, e1, e2, e3, e4, e5, e6, e7], _ =>
    have h1 := putL_getL [c0, c1]
    have h2 := putL_getL [d0, d1, d2, d3]
    have h3 := putL_getL [e0, e1, e2, e3, e4, e5, e6, e7]
    show byteI (a.toNat : Int) 0 :: byteI (b.toNat : Int) 0 :: (putL 2 (getL [c0, c1] : Int) ++ (putL 4 (getL [d0, d1, d2, d3] : Int) ++ putL 8 (getL [e0, e1, e2, e3, e4, e5, e6, e7] : Int))) = _
    rw [byteI_self, byteI_self]
    have g1 : putL 2 (getL [c0, c1] : Int) = [c0, c1] := h1
    have g2 : putL 4 (getL [d0, d1, d2, d3] : Int) = [d0, d1, d2, d3] := h2
    have g3 : putL 8 (getL [e0, e1, e2, e3, e4, e5, e6, e7] : Int) = [e0, e1, e2, e3, e4, e5, e6, e7] := h3
    rw [g1, g2, g3]
    rfl
/-- A page whose numbers have room. -/
def roomPg (x : Pg) : Prop := (0 ≤ x.1 ∧ x.1 < 256) ∧ (0 ≤ x.2.1 ∧ x.2.1 < 256) ∧ (0 ≤ x.2.2.1 ∧ x.2.2.1 < 65536) ∧ (0 ≤ x.2.2.2.1 ∧ x.2.2.2.1 < 4294967296) ∧ (0 ≤ x.2.2.2.2 ∧ x.2.2.2.2 < 18446744073709551616)
theorem may_room {x : Pg} (h : mayB x = true) : roomPg x := by
  obtain ⟨a, b, c, d, s⟩ := x
  unfold mayB freeB slotsB headB tailB eqPg longB at h
  simp only [Bool.or_eq_true, Bool.and_eq_true, decide_eq_true_eq, Prod.mk.injEq] at h
  unfold roomPg
  simp only
  rcases h with ⟨rfl, rfl, rfl, rfl, rfl⟩ | ⟨⟨rfl, _, rfl, rfl, rfl⟩, h⟩ | ⟨⟨h1, h2⟩, ⟨rfl, rfl, rfl, _, _⟩, h3, h4⟩ | ⟨rfl, rfl, rfl, rfl, rfl⟩
  · omega
  · have : 0 ≤ b ∧ b < 8 := by
      by_cases hb : b < 0 ∨ 8 ≤ b
      · rw [sizeI_out b hb] at h; omega
      · omega
    omega
  · unfold pagesC
    omega
  · omega
theorem byte_back (v : Int) (h0 : 0 ≤ v) (h1 : v < 256) : ((byteI v 0).toNat : Int) = v := by
  have := byteI_val v 0
  simp only [Int.pow_zero, Int.ediv_one] at this
  omega
theorem pgC_pgL (x : Pg) (h : roomPg x) : pgC (pgL x) = x := by
  obtain ⟨a, b, c, d, s⟩ := x
  obtain ⟨⟨a0, a1⟩, ⟨b0, b1⟩, ⟨c0, c1⟩, ⟨d0, d1⟩, ⟨s0, s1⟩⟩ := h
  simp only at a0 a1 b0 b1 c0 c1 d0 d1 s0 s1
  have l2 := putL_len 2 c
  have l4 := putL_len 4 d
  have l8 := putL_len 8 s
  have e1 : ((pgL (a, b, c, d, s)).take 4).drop 2 = putL 2 c := by
    show ((byteI a 0 :: byteI b 0 :: (putL 2 c ++ (putL 4 d ++ putL 8 s))).take 4).drop 2 = putL 2 c
    simp only [List.take_succ_cons, List.drop_succ_cons, List.drop_zero]
    exact List.take_left' l2
  have e2 : ((pgL (a, b, c, d, s)).take 8).drop 4 = putL 4 d := by
    show ((byteI a 0 :: byteI b 0 :: (putL 2 c ++ (putL 4 d ++ putL 8 s))).take 8).drop 4 = putL 4 d
    simp only [List.take_succ_cons, List.drop_succ_cons]
    rw [← List.append_assoc, List.take_left' (by rw [List.length_append, l2, l4]), List.drop_left' l2]
  have e3 : ((pgL (a, b, c, d, s)).take 16).drop 8 = putL 8 s := by
    rw [List.take_of_length_le (by rw [pgL_len]; omega)]
    show (byteI a 0 :: byteI b 0 :: (putL 2 c ++ (putL 4 d ++ putL 8 s))).drop 8 = putL 8 s
    simp only [List.drop_succ_cons]
    rw [← List.append_assoc, List.drop_left' (by rw [List.length_append, l2, l4])]
  unfold pgC
  rw [e1, e2, e3, getL_putL 2 c c0, getL_putL 4 d d0, getL_putL 8 s s0]
  rw [Int.emod_eq_of_lt c0 (by omega), Int.emod_eq_of_lt d0 (by omega), Int.emod_eq_of_lt s0 (by omega)]
  have g0 : (((pgL (a, b, c, d, s)).getD 0 0).toNat : Int) = a := byte_back a a0 a1
  have g1 : (((pgL (a, b, c, d, s)).getD 1 0).toNat : Int) = b := byte_back b b0 b1
  rw [g0, g1]
/-- Part k of a block; a block's pages; pages' block. -/
def chunkB (b : List UInt8) (k : Nat) : List UInt8 := (b.drop (k * 16)).take 16
def parseP (b : List UInt8) (m : Nat) : List Pg := (List.range m).map fun k => pgC (chunkB b k)
def pgsL (l : List Pg) : List UInt8 := padL 256 (l.flatMap pgL)
theorem parseP_len (b : List UInt8) (m : Nat) : (parseP b m).length = m := by simp [parseP]
theorem parseP_step (b : List UInt8) (m : Nat) : parseP b (m + 1) = parseP b m ++ [pgC (chunkB b m)] := by simp [parseP, List.range_succ]
theorem chunkB_len (b : List UInt8) (k : Nat) (hb : b.length = 256) (hk : k < 16) : (chunkB b k).length = 16 := by simp [chunkB]; omega
theorem pgsL_len (l : List Pg) : (pgsL l).length = 256 := padL_len _ _
theorem flatPg_len : ∀ l : List Pg, (l.flatMap pgL).length = l.length * 16
  | [] => by simp
  | x :: r => by rw [List.flatMap_cons, List.length_append, pgL_len, flatPg_len r, List.length_cons, Nat.add_mul]; omega
theorem chunk_flat : ∀ (l : List Pg) (r : List UInt8) (k : Nat) (x : Pg), l[k]? = some x → chunkB (l.flatMap pgL ++ r) k = pgL x
  | [], _, _, _, h => by simp at h
  | y :: l, r, 0, x, h => by
    simp at h
    subst h
    unfold chunkB
    rw [Nat.zero_mul, List.drop_zero, List.flatMap_cons, List.append_assoc, List.take_left' (pgL_len y)]
  | y :: l, r, k + 1, x, h => by
    have ih := chunk_flat l r k x (by simpa using h)
    unfold chunkB at ih ⊢
    rw [List.flatMap_cons, List.append_assoc, Nat.add_mul, Nat.one_mul, Nat.add_comm, ← List.drop_drop, List.drop_left' (pgL_len y)]
    exact ih
theorem pgsL_flat (l : List Pg) (hl : l.length ≤ 16) : pgsL l = l.flatMap pgL ++ List.replicate (256 - l.length * 16) 0 := by
  unfold pgsL padL
  rw [List.take_of_length_le (by rw [flatPg_len]; omega), flatPg_len]
/-- What is written is read. -/
theorem parse_back (l : List Pg) (hl : l.length ≤ 16) (hr : ∀ x ∈ l, roomPg x) : parseP (pgsL l) 16 = l ++ List.replicate (16 - l.length) (0, 0, 0, 0, 0) := by
  apply List.ext_getElem?
  intro k
  rcases Nat.lt_or_ge k 16 with hk | hk
  · have e0 : (parseP (pgsL l) 16)[k]? = some (pgC (chunkB (pgsL l) k)) := by simp [parseP, hk]
    rw [e0]
    rcases Nat.lt_or_ge k l.length with h | h
    · have hx : l[k]? = some l[k] := List.getElem?_eq_getElem h
      rw [List.getElem?_append_left h, hx, pgsL_flat l hl, chunk_flat l _ k _ hx, pgC_pgL _ (hr _ (List.getElem_mem h))]
    · rw [List.getElem?_append_right h, List.getElem?_replicate, if_pos (by omega), pgsL_flat l hl]
      have e1 : chunkB (l.flatMap pgL ++ List.replicate (256 - l.length * 16) 0) k = List.replicate 16 0 := by
        unfold chunkB
        rw [List.drop_append, List.drop_of_length_le (by rw [flatPg_len]; omega), List.nil_append, List.drop_replicate, List.take_replicate, flatPg_len]
        congr 1
        omega
      rw [e1]
      congr 1
  · rw [List.getElem?_eq_none (by rw [parseP_len]; exact hk), List.getElem?_eq_none (by simp; omega)]
end Go.Proofs.Ytidlcplamgajpaa
