/- Pages of objects: plain laws. -/
import Derived.Test.YtnocjjaebemkoaaRefPad
import Derived.Test.YtnocjjaebemkoaaZero
namespace Go.Proofs.Ytnocjjaebemkoaa
open Go.RowKit

theorem getL_putL : ∀ (n : Nat) (v : Int), 0 ≤ v → (getL (putL n v) : Int) = v % 256 ^ n := by
  intro n
  induction n with
  | zero => intro v _; simp [putL, getL]
  | succ n ih =>
    intro v h0
    have e : putL (n + 1) v = byteI v 0 :: putL n (v / 256) := by
      unfold putL
      rw [List.range_succ_eq_map, List.map_cons, List.map_map]
      congr 1
      apply List.map_congr_left
      intro k _
      exact (byteI_next v k).symm
    rw [e, getL]
    have h1 := ih (v / 256) (Int.ediv_nonneg h0 (by omega))
    have h2 := byteI_val v 0
    rw [Int.natCast_add, Int.natCast_mul, h1, h2]
    simp only [Int.pow_zero, Int.ediv_one]
    have h3 := Int.emod_def (v / 256) (256 ^ n)
    rw [Int.emod_def v (256 ^ (n + 1)), h3, Int.pow_succ, Int.mul_comm (256 ^ n) 256, ← Int.ediv_ediv_of_nonneg (by omega)]
    generalize v / 256 / 256 ^ n = q
    rw [Int.mul_assoc]
    generalize (256 : Int) ^ n * q = r
    omega
theorem putL_getL : ∀ l : List UInt8, putL l.length (getL l : Int) = l
  | [] => rfl
  | c :: r => by
    have ih := putL_getL r
    have hc := c.toNat_lt
    unfold putL at ih ⊢
    rw [List.length_cons, List.range_succ_eq_map, List.map_cons, List.map_map]
    have e0 : byteI (getL (c :: r) : Int) 0 = c := by
      apply UInt8.toNat_inj.1
      have := byteI_val (getL (c :: r) : Int) 0
      rw [getL] at this ⊢
      simp only [Int.pow_zero, Int.ediv_one] at this
      omega
    have e1 : (byteI (getL (c :: r) : Int) ∘ Nat.succ) = byteI (getL r : Int) := by
      funext k
      apply UInt8.toNat_inj.1
      have h1 := byteI_val (getL (c :: r) : Int) (k + 1)
      have h2 := byteI_val (getL r : Int) k
      have e : (getL (c :: r) : Int) / 256 ^ (k + 1) = (getL r : Int) / 256 ^ k := by
        rw [Int.pow_succ, Int.mul_comm, ← Int.ediv_ediv_of_nonneg (by omega), getL]
        congr 1
        omega
      rw [e] at h1
      simp only [Function.comp, Nat.succ_eq_add_one]
      omega
    rw [e0, e1, ih]
theorem zeroB_iff (l : List UInt8) : zeroB l = true ↔ l = List.replicate l.length 0 := by
  unfold zeroB
  rw [List.all_eq_true]
  constructor
  · intro h
    exact List.eq_replicate_iff.2 ⟨rfl, fun b hb => by simpa using h b hb⟩
  · intro h b hb
    rw [h] at hb
    simp [List.eq_of_mem_replicate hb]
theorem zeroB_rep (n : Nat) : zeroB (List.replicate n 0) = true := by
  rw [zeroB_iff, List.length_replicate]
theorem zeroB_app (a b : List UInt8) : zeroB (a ++ b) = (zeroB a && zeroB b) := by simp [zeroB]
theorem getL_zero (l : List UInt8) : getL l = 0 ↔ zeroB l = true := by
  induction l with
  | nil => simp [getL, zeroB]
  | cons c r ih =>
    have h1 : zeroB (c :: r) = ((c == 0) && zeroB r) := by simp [zeroB]
    rw [getL, h1]
    have h2 : (c == 0) = true ↔ c.toNat = 0 := by
      rw [beq_iff_eq]
      exact ⟨fun h => by rw [h]; rfl, fun h => UInt8.toNat_inj.1 (by rw [h]; rfl)⟩
    rw [Bool.and_eq_true, h2, ← ih]
    omega

/-- An object: a serial, bytes. -/
abbrev Ob := Int × List UInt8
/-- A slot's bytes, padded; a page's. -/
def slotL (o : Ob) : List UInt8 := if 0 < o.1 then putL 2 (o.2.length : Int) ++ (putL 6 o.1 ++ o.2) else []
def winL (z : Nat) (o : Ob) : List UInt8 := padL z (slotL o)
def pageL (z : Nat) (l : List Ob) : List UInt8 := padL 256 (l.flatMap (winL z))
theorem winL_len (z : Nat) (o : Ob) : (winL z o).length = z := padL_len _ _
theorem pageL_len (z : Nat) (l : List Ob) : (pageL z l).length = 256 := padL_len _ _
/-- An object that may be, of at most s bytes. -/
def okO (s : Nat) (o : Ob) : Prop := (o.1 = 0 ∧ o.2 = []) ∨ (1 ≤ o.1 ∧ o.1 < 281474976710656 ∧ 1 ≤ o.2.length ∧ o.2.length ≤ s)
/-- Window k of a page; what it tells. -/
def win (z : Nat) (p : List UInt8) (k : Nat) : List UInt8 := (p.take (k * z + z)).drop (k * z)
def lenW (s : List UInt8) : Nat := getL (s.take 2)
def serW (s : List UInt8) : Nat := getL ((s.take 8).drop 2)
def objW (s : List UInt8) : Ob := ((serW s : Int), (s.take (8 + lenW s)).drop 8)
def freeW (s : List UInt8) : Bool := zeroB (s.take 8)
def goodW (z : Nat) (s : List UInt8) : Bool := decide (lenW s ≤ z - 8) && (decide (lenW s = 0) == decide (serW s = 0))
def mayW (s : List UInt8) : Bool := if freeW s then zeroB s else decide (0 < lenW s) && (decide (lenW s ≤ s.length - 8) && (decide (0 < serW s) && zeroB (s.drop (8 + lenW s))))
def objsL (z : Nat) (p : List UInt8) (m : Nat) : List Ob := (List.range m).map fun k => objW (win z p k)
theorem objsL_len (z : Nat) (p : List UInt8) (m : Nat) : (objsL z p m).length = m := by simp [objsL]
theorem objsL_step (z : Nat) (p : List UInt8) (m : Nat) : objsL z p (m + 1) = objsL z p m ++ [objW (win z p m)] := by simp [objsL, List.range_succ]
/-- May a page be, as the document says; as the program says. -/
def goodP (z N : Nat) (p : List UInt8) : Bool := ((List.range N).all fun k => goodW z (win z p k)) && decide (pageL z (objsL z p N) = p)
def checkP (z N : Nat) (p : List UInt8) : Bool := ((List.range N).all fun k => mayW (win z p k)) && zeroB (p.drop (N * z))
theorem win_len (z : Nat) (p : List UInt8) (k : Nat) (h : k * z + z ≤ p.length) : (win z p k).length = z := by simp [win]; omega

theorem free_iff (s : List UInt8) (_ : 8 ≤ s.length) : freeW s = true ↔ lenW s = 0 ∧ serW s = 0 := by
  unfold freeW lenW serW
  rw [getL_zero, getL_zero]
  have e : s.take 8 = s.take 2 ++ (s.take 8).drop 2 := by
    conv => lhs; rw [← List.take_append_drop 2 (s.take 8)]
    rw [List.take_take]
    rfl
  rw [e, zeroB_app, Bool.and_eq_true]
  have : (s.take 2 ++ (s.take 8).drop 2).drop 2 = (s.take 8).drop 2 := by
    rw [← e]
  rw [← e]
/-- A window of the page is a slot's bytes just if the program takes it. -/
theorem may_good (z : Nat) (s : List UInt8) (hs : s.length = z) (hz : 8 ≤ z) : mayW s = (goodW z s && decide (winL z (objW s) = s)) := by
  have hf := free_iff s (by omega)
  unfold mayW
  by_cases h : freeW s = true
  · rw [if_pos h]
    obtain ⟨h1, h2⟩ := hf.1 h
    have e1 : goodW z s = true := by unfold goodW; rw [h1, h2]; simp
    have e2 : winL z (objW s) = List.replicate z 0 := by
      unfold winL slotL objW padL
      rw [h2]
      simp
    rw [e1, e2, Bool.true_and]
    have := zeroB_iff s
    rw [hs] at this
    rcases hq : zeroB s
    · symm; apply decide_eq_false; intro he; rw [this.2 he.symm] at hq; cases hq
    · symm; apply decide_eq_true; exact (this.1 hq).symm
  · rw [if_neg h]
    unfold goodW
    by_cases h1 : lenW s = 0
    · by_cases h2 : serW s = 0
      · exact absurd (hf.2 ⟨h1, h2⟩) h
      · simp [h1, h2]
    · by_cases h2 : serW s = 0
      · simp [h1, h2]
      · by_cases h3 : lenW s ≤ z - 8
        · have p1 : 0 < lenW s := by omega
          have p2 : 0 < serW s := by omega
          have e : winL z (objW s) = s.take (8 + lenW s) ++ List.replicate (z - (8 + lenW s)) 0 := by
            have l2 : (s.take 2).length = 2 := by simp; omega
            have l6 : ((s.take 8).drop 2).length = 6 := by simp; omega
            have lb : ((s.take (8 + lenW s)).drop 8).length = lenW s := by simp; omega
            have a1 : putL 2 (lenW s : Int) = s.take 2 := by have := putL_getL (s.take 2); rw [l2] at this; exact this
            have a2 : putL 6 (serW s : Int) = (s.take 8).drop 2 := by have := putL_getL ((s.take 8).drop 2); rw [l6] at this; exact this
            have e0 : slotL (objW s) = s.take (8 + lenW s) := by
              unfold slotL objW
              rw [if_pos (by simp; omega)]
              simp only
              rw [lb, a1, a2]
              have b1 : s.take 8 = s.take 2 ++ (s.take 8).drop 2 := by
                conv => lhs; rw [← List.take_append_drop 2 (s.take 8)]
                rw [List.take_take]
                rfl
              rw [← List.append_assoc, ← b1]
              conv => rhs; rw [← List.take_append_drop 8 (s.take (8 + lenW s))]
              rw [List.take_take, show min 8 (8 + lenW s) = 8 from by omega]
            unfold winL
            rw [e0]
            unfold padL
            rw [List.take_of_length_le (by simp; omega), List.length_take, show min (8 + lenW s) s.length = 8 + lenW s from by omega]
          rw [e]
          simp only [h1, h2, h3, p1, p2, hs, decide_true, decide_false, Bool.true_and, BEq.rfl]
          have hq := zeroB_iff (s.drop (8 + lenW s))
          rw [List.length_drop, hs] at hq
          rcases hb : zeroB (s.drop (8 + lenW s))
          · symm; apply decide_eq_false; intro he
            have he2 : s.drop (8 + lenW s) = List.replicate (z - (8 + lenW s)) 0 := by
              have := congrArg (List.drop (8 + lenW s)) he
              rw [List.drop_left' (by simp; omega)] at this
              exact this.symm
            rw [hq.2 he2] at hb; cases hb
          · symm; apply decide_eq_true
            rw [← hq.1 hb, List.take_append_drop]
        · have h4 : decide (lenW s ≤ z - 8) = false := decide_eq_false h3
          simp [h4, hs]
theorem flat_len' (z : Nat) : ∀ l : List Ob, (l.flatMap (winL z)).length = l.length * z
  | [] => by simp
  | o :: r => by rw [List.flatMap_cons, List.length_append, winL_len, flat_len' z r, List.length_cons, Nat.add_mul]; omega
theorem win_append {z : Nat} {a r : List UInt8} {k : Nat} (h : a.length = k * z) : ((a ++ r).take (k * z + z)).drop (k * z) = r.take z := by
  rw [← h, List.take_append, List.drop_append]
  simp
theorem win_flat (z : Nat) (l : List Ob) (r : List UInt8) (k : Nat) (o : Ob) (h : l[k]? = some o) : win z (l.flatMap (winL z) ++ r) k = winL z o := by
  have hk := (List.getElem?_eq_some_iff.1 h).1
  have e : l = l.take k ++ o :: l.drop (k + 1) := by
    have h1 : l.drop k = o :: l.drop (k + 1) := by
      rw [List.drop_eq_getElem_cons hk]
      rw [(List.getElem?_eq_some_iff.1 h).2]
    rw [← h1, List.take_append_drop]
  have hl : ((l.take k).flatMap (winL z)).length = k * z := by rw [flat_len', List.length_take, Nat.min_eq_left (by omega)]
  unfold win
  rw [e, List.flatMap_append, List.flatMap_cons, List.append_assoc, win_append hl, List.append_assoc, List.take_left' (winL_len z o)]
theorem win_page (z : Nat) (l : List Ob) (k : Nat) (o : Ob) (h : l[k]? = some o) (hN : l.length * z ≤ 256) : win z (pageL z l) k = winL z o := by
  unfold pageL padL
  rw [List.take_of_length_le (by rw [flat_len']; exact hN)]
  exact win_flat z l _ k o h
theorem page_tail (z : Nat) (l : List Ob) (hN : l.length * z ≤ 256) : (pageL z l).drop (l.length * z) = List.replicate (256 - l.length * z) 0 := by
  unfold pageL padL
  rw [List.take_of_length_le (by rw [flat_len']; exact hN), List.drop_left' (flat_len' z l), flat_len']
/-- A page is its windows and its tail. -/
theorem page_ext (z N : Nat) (p q : List UInt8) (hw : ∀ k, k < N → win z p k = win z q k) (ht : p.drop (N * z) = q.drop (N * z)) : p = q := by
  have h1 : ∀ m, m ≤ N → p.take (m * z) = q.take (m * z) := by
    intro m
    induction m with
    | zero => simp
    | succ m ih =>
      intro hm
      have h2 := hw m (by omega)
      unfold win at h2
      have h3 : ∀ s : List UInt8, s.take ((m + 1) * z) = s.take (m * z) ++ (s.take (m * z + z)).drop (m * z) := by
        intro s
        conv => lhs; rw [← List.take_append_drop (m * z) (s.take ((m + 1) * z))]
        rw [List.take_take, Nat.min_eq_left (Nat.mul_le_mul_right z (by omega)), show (m + 1) * z = m * z + z from by rw [Nat.add_mul]; omega]
      rw [h3 p, h3 q, ih (by omega), h2]
  rw [← List.take_append_drop (N * z) p, ← List.take_append_drop (N * z) q, h1 N (Nat.le_refl _), ht]
theorem check_good (z N : Nat) (p : List UInt8) (hp : p.length = 256) (hz : 8 ≤ z) (hN : N * z ≤ 256) : checkP z N p = goodP z N p := by
  have hle : ∀ k, k < N → k * z + z ≤ 256 := fun k hk => by
    have : (k + 1) * z ≤ N * z := Nat.mul_le_mul_right z hk
    rw [Nat.add_mul] at this; omega
  have hm : ∀ k, k < N → mayW (win z p k) = (goodW z (win z p k) && decide (winL z (objW (win z p k)) = win z p k)) := fun k hk =>
    may_good z _ (win_len z p k (by rw [hp]; exact hle k hk)) hz
  have hget : ∀ k, k < N → (objsL z p N)[k]? = some (objW (win z p k)) := fun k hk => by simp [objsL, hk]
  have hol : (objsL z p N).length * z ≤ 256 := by rw [objsL_len]; exact hN
  unfold checkP goodP
  rw [Bool.eq_iff_iff]
  simp only [Bool.and_eq_true, List.all_eq_true, List.mem_range, decide_eq_true_eq]
  constructor
  · rintro ⟨h1, h2⟩
    have h3 : ∀ k, k < N → goodW z (win z p k) = true ∧ winL z (objW (win z p k)) = win z p k := fun k hk => by
      have := h1 k hk
      rw [hm k hk, Bool.and_eq_true, decide_eq_true_eq] at this
      exact this
    refine ⟨fun k hk => (h3 k hk).1, page_ext z N _ _ (fun k hk => ?_) ?_⟩
    · rw [win_page z _ k _ (hget k hk) hol, (h3 k hk).2]
    · have := page_tail z (objsL z p N) hol
      rw [objsL_len] at this
      rw [this]
      have h4 := (zeroB_iff _).1 h2
      rw [List.length_drop, hp] at h4
      exact h4.symm
  · rintro ⟨h1, h2⟩
    refine ⟨fun k hk => ?_, ?_⟩
    · rw [hm k hk, h1 k hk, Bool.true_and, decide_eq_true_eq]
      have := win_page z _ k _ (hget k hk) hol
      rw [h2] at this
      exact this.symm
    · have := page_tail z (objsL z p N) hol
      rw [objsL_len, h2] at this
      rw [this]
      exact zeroB_rep _
theorem winL_free (z : Nat) (o : Ob) (h : o.1 = 0) : winL z o = List.replicate z 0 := by
  unfold winL slotL padL
  rw [if_neg (by omega)]
  simp
theorem slotL_len (o : Ob) (h : 1 ≤ o.1) : (slotL o).length = 8 + o.2.length := by
  unfold slotL
  rw [if_pos (by omega)]
  simp [putL_len]; omega
theorem winL_used (z : Nat) (o : Ob) (h : 1 ≤ o.1) (hz : 8 + o.2.length ≤ z) : winL z o = putL 2 (o.2.length : Int) ++ (putL 6 o.1 ++ (o.2 ++ List.replicate (z - (8 + o.2.length)) 0)) := by
  have hl := slotL_len o h
  unfold winL padL
  rw [List.take_of_length_le (by omega), hl]
  unfold slotL
  rw [if_pos (by omega)]
  simp
/-- What an object's window tells. -/
theorem win_tells (z : Nat) (o : Ob) (hz : 8 ≤ z) (hz1 : z ≤ 256) (ho : okO (z - 8) o) : lenW (winL z o) = o.2.length ∧ (serW (winL z o) : Int) = o.1 ∧ freeW (winL z o) = decide (o.1 = 0) ∧ objW (winL z o) = o ∧ goodW z (winL z o) = true := by
  have key : lenW (winL z o) = o.2.length ∧ (serW (winL z o) : Int) = o.1 ∧ (winL z o).drop 8 = o.2 ++ List.replicate (z - 8 - o.2.length) 0 := by
    rcases ho with ⟨h1, h2⟩ | ⟨h1, h2, h3, h4⟩
    · rw [winL_free z o h1, h2]
      have hz0 : ∀ n, getL (List.replicate n 0) = 0 := fun n => (getL_zero _).2 (zeroB_rep n)
      refine ⟨?_, ?_, ?_⟩
      · unfold lenW; rw [List.take_replicate, hz0]; rfl
      · unfold serW; rw [List.take_replicate, List.drop_replicate, hz0, h1]; rfl
      · simp
    · have e := winL_used z o h1 (by omega)
      have l2 := putL_len 2 (o.2.length : Int)
      have l6 := putL_len 6 o.1
      have e8 : (winL z o).take 8 = putL 2 (o.2.length : Int) ++ putL 6 o.1 := by
        rw [e, ← List.append_assoc, List.take_left' (by simp [putL_len])]
      refine ⟨?_, ?_, ?_⟩
      · unfold lenW
        rw [e, List.take_left' l2]
        have := getL_putL 2 (o.2.length : Int) (by omega)
        rw [Int.emod_eq_of_lt (by omega) (by omega)] at this
        omega
      · unfold serW
        rw [e8, List.drop_left' l2]
        have := getL_putL 6 o.1 (by omega)
        rw [Int.emod_eq_of_lt (by omega) (by omega)] at this
        exact this
      · rw [e, ← List.append_assoc, List.drop_left' (by simp [putL_len])]
        rw [show z - (8 + o.2.length) = z - 8 - o.2.length from by omega]
  obtain ⟨k1, k2, k3⟩ := key
  have hlen := winL_len z o
  have hob : o.2.length ≤ z - 8 := by rcases ho with ⟨h1, h2⟩ | h; rw [h2]; simp; exact h.2.2.2
  have hfree := free_iff (winL z o) (by omega)
  have hsz : o.1 = 0 ↔ o.2.length = 0 := by
    rcases ho with ⟨h1, h2⟩ | ⟨h1, _, h3, _⟩
    · rw [h1, h2]; simp
    · omega
  refine ⟨k1, k2, ?_, ?_, ?_⟩
  · rw [Bool.eq_iff_iff, hfree, decide_eq_true_eq]
    omega
  · unfold objW
    rw [k1, k2]
    apply Prod.ext
    · rfl
    · simp only
      rw [← List.take_drop, k3, List.take_left]
  · unfold goodW
    rw [k1]
    have h5 : decide (o.2.length ≤ z - 8) = true := by simp [hob]
    rw [h5, Bool.true_and, beq_iff_eq]
    simp only [decide_eq_decide]
    omega
/-- Bytes laid over others. -/
def layL (p : List UInt8) (i : Nat) (x : List UInt8) : List UInt8 := p.take i ++ x ++ p.drop (i + x.length)
theorem layL_len (p : List UInt8) (i : Nat) (x : List UInt8) (h : i + x.length ≤ p.length) : (layL p i x).length = p.length := by simp [layL]; omega
theorem page_shape (z : Nat) (l : List Ob) (hN : l.length * z ≤ 256) : pageL z l = l.flatMap (winL z) ++ List.replicate (256 - l.length * z) 0 := by
  unfold pageL padL
  rw [List.take_of_length_le (by rw [flat_len']; exact hN), flat_len']
theorem layL_mid (a b r x : List UInt8) (j : Nat) (h : j + x.length ≤ b.length) : layL (a ++ (b ++ r)) (a.length + j) x = a ++ (layL b j x ++ r) := by
  unfold layL
  rw [List.take_length_add_append, Nat.add_assoc, List.drop_length_add_append, List.take_append_of_le_length (by omega), List.drop_append_of_le_length (by omega)]
  simp
/-- A page of which slot k is another one. -/
theorem page_lay (z : Nat) (l : List Ob) (k j : Nat) (o o' : Ob) (x : List UInt8) (h : l[k]? = some o) (hN : l.length * z ≤ 256) (hj : j + x.length ≤ z) (hx : layL (winL z o) j x = winL z o') : layL (pageL z l) (k * z + j) x = pageL z (l.set k o') := by
  have hk := (List.getElem?_eq_some_iff.1 h).1
  have e : l = l.take k ++ o :: l.drop (k + 1) := by
    have h1 : l.drop k = o :: l.drop (k + 1) := by
      rw [List.drop_eq_getElem_cons hk]
      rw [(List.getElem?_eq_some_iff.1 h).2]
    rw [← h1, List.take_append_drop]
  have hl : ((l.take k).flatMap (winL z)).length = k * z := by rw [flat_len', List.length_take, Nat.min_eq_left (by omega)]
  rw [page_shape z l hN, page_shape z (l.set k o') (by rw [List.length_set]; exact hN), List.length_set]
  rw [List.set_eq_take_append_cons_drop, if_pos hk]
  conv => lhs; rw [e]
  rw [List.flatMap_append, List.flatMap_cons, List.flatMap_append, List.flatMap_cons, List.append_assoc, List.append_assoc, List.append_assoc, List.append_assoc, ← hl, layL_mid _ _ _ _ _ (by rw [winL_len]; exact hj), hx, ← e]
/-- The four changes of a window. -/
theorem sow_take (z n : Nat) (s : Int) (o : Ob) (h : o.1 = 0) (h1 : 1 ≤ s) (hn : 8 + n ≤ z) : layL (winL z o) 0 (putL 2 (n : Int) ++ putL 6 s) = winL z (s, List.replicate n 0) := by
  rw [winL_free z o h, winL_used z (s, List.replicate n 0) h1 (by simpa using hn)]
  unfold layL
  simp only [List.length_replicate, List.take_zero, List.nil_append, List.length_append, putL_len, List.drop_replicate, List.replicate_append_replicate, List.append_assoc]
  congr 4
  omega
theorem sow_free (z : Nat) (o : Ob) : layL (winL z o) 0 (List.replicate z 0) = winL z (0, []) := by
  rw [winL_free z (0, []) rfl]
  unfold layL
  simp [winL_len]
theorem sow_write (z a : Nat) (o : Ob) (b : List UInt8) (h : 1 ≤ o.1) (hz : 8 + o.2.length ≤ z) (ha : a + b.length ≤ o.2.length) : layL (winL z o) (8 + a) b = winL z (o.1, layL o.2 a b) := by
  rw [winL_used z o h hz, winL_used z (o.1, layL o.2 a b) h (by rw [layL_len _ _ _ ha]; exact hz), layL_len _ _ _ ha]
  have l8 : (putL 2 (o.2.length : Int) ++ putL 6 o.1).length = 8 := by simp [putL_len]
  have e2 := layL_mid (putL 2 (o.2.length : Int) ++ putL 6 o.1) o.2 (List.replicate (z - (8 + o.2.length)) 0) b a ha
  rw [l8, List.append_assoc, List.append_assoc] at e2
  exact e2
theorem sow_size (z n : Nat) (o : Ob) (h : 1 ≤ o.1) (hz : 8 + o.2.length ≤ z) (hn : 8 + n ≤ z) : layL (layL (winL z o) 0 (putL 2 (n : Int))) (8 + n) (List.replicate (z - 8 - n) 0) = winL z (o.1, padL n o.2) := by
  have hp := padL_len n o.2
  rw [winL_used z o h hz, winL_used z (o.1, padL n o.2) h (by rw [hp]; exact hn), hp]
  have e1 : layL (putL 2 (o.2.length : Int) ++ (putL 6 o.1 ++ (o.2 ++ List.replicate (z - (8 + o.2.length)) 0))) 0 (putL 2 (n : Int)) = putL 2 (n : Int) ++ (putL 6 o.1 ++ (o.2 ++ List.replicate (z - (8 + o.2.length)) 0)) := by
    unfold layL
    rw [List.take_zero, List.nil_append, List.drop_left' (by simp [putL_len])]
  rw [e1]
  have l8 : (putL 2 (n : Int) ++ putL 6 o.1).length = 8 := by simp [putL_len]
  have e2 := layL_mid (putL 2 (n : Int) ++ putL 6 o.1) (o.2 ++ List.replicate (z - (8 + o.2.length)) 0) [] (List.replicate (z - 8 - n) 0) n (by simp; omega)
  rw [l8, List.append_nil, List.append_nil, List.append_assoc, List.append_assoc] at e2
  rw [e2]
  congr 2
  unfold layL padL
  rw [List.drop_of_length_le (by simp; omega), List.append_nil, List.take_append, List.take_replicate, List.append_assoc, List.append_assoc, List.replicate_append_replicate, List.replicate_append_replicate]
  congr 2
  omega

/-- A page of objects. -/
structure PageOf (z N : Nat) (p : List UInt8) (l : List Ob) : Prop where
  len : l.length = N
  page : p = pageL z l
  ok : ∀ o ∈ l, okO (z - 8) o
theorem PageOf.objs {z N : Nat} {p : List UInt8} {l : List Ob} (h : PageOf z N p l) (hz : 8 ≤ z) (hz1 : z ≤ 256) (hN : N * z ≤ 256) : objsL z p N = l ∧ goodP z N p = true ∧ p.length = 256 := by
  have hNl : l.length * z ≤ 256 := by rw [h.len]; exact hN
  have hw : ∀ k o, l[k]? = some o → win z p k = winL z o := fun k o hk => by rw [h.page]; exact win_page z l k o hk hNl
  have e : objsL z p N = l := by
    apply List.ext_getElem?
    intro k
    rcases Nat.lt_or_ge k N with hk | hk
    · have hk' : k < l.length := by rw [h.len]; exact hk
      have h1 : l[k]? = some l[k] := List.getElem?_eq_getElem hk'
      have h2 := (win_tells z l[k] hz hz1 (h.ok _ (List.getElem_mem hk'))).2.2.2.1
      rw [h1]
      simp [objsL, hk, hw k _ h1, h2]
    · rw [List.getElem?_eq_none (by rw [objsL_len]; exact hk), List.getElem?_eq_none (by rw [h.len]; exact hk)]
  refine ⟨e, ?_, by rw [h.page]; exact pageL_len _ _⟩
  unfold goodP
  rw [e, Bool.and_eq_true]
  refine ⟨?_, by simp [h.page]⟩
  rw [List.all_eq_true]
  intro k hk
  have hk' : k < l.length := by rw [h.len]; exact List.mem_range.1 hk
  have h1 : l[k]? = some l[k] := List.getElem?_eq_getElem hk'
  rw [hw k _ h1]
  exact (win_tells z l[k] hz hz1 (h.ok _ (List.getElem_mem hk'))).2.2.2.2
/-- A page that may be is one of objects. -/
theorem PageOf.of_good {z N : Nat} {p : List UInt8} (hp : p.length = 256) (hz : 8 ≤ z) (hN : N * z ≤ 256) (h : goodP z N p = true) : PageOf z N p (objsL z p N) := by
  unfold goodP at h
  rw [Bool.and_eq_true, List.all_eq_true, decide_eq_true_eq] at h
  refine ⟨objsL_len _ _ _, h.2.symm, ?_⟩
  intro o ho
  obtain ⟨k, hk, rfl⟩ := List.mem_map.1 ho
  have hk' := List.mem_range.1 hk
  have hkz : k * z + z ≤ 256 := by
    have : (k + 1) * z ≤ N * z := Nat.mul_le_mul_right z hk'
    rw [Nat.add_mul] at this; omega
  have hg := h.1 k hk
  have hl := win_len z p k (by rw [hp]; exact hkz)
  unfold goodW at hg
  rw [Bool.and_eq_true, beq_iff_eq, decide_eq_true_eq, decide_eq_decide] at hg
  have h6 : (((win z p k).take 8).drop 2).length = 6 := by simp [hl]; omega
  have h7 := getL_lt (((win z p k).take 8).drop 2)
  rw [h6] at h7
  have h8 : (objW (win z p k)).2.length = lenW (win z p k) := by
    unfold objW
    simp [hl]; omega
  have h9 : (objW (win z p k)).1 = (serW (win z p k) : Int) := rfl
  have h10 : serW (win z p k) < 281474976710656 := by unfold serW; omega
  unfold okO
  rw [h8, h9]
  by_cases h11 : lenW (win z p k) = 0
  · left
    have := hg.2.1 h11
    exact ⟨by omega, List.eq_nil_of_length_eq_zero (by rw [h8]; exact h11)⟩
  · right
    have : ¬ serW (win z p k) = 0 := fun hx => h11 (hg.2.2 hx)
    omega
theorem PageOf.win_ {z N k : Nat} {p : List UInt8} {l : List Ob} {o : Ob} (h : PageOf z N p l) (hN : N * z ≤ 256) (hk : l[k]? = some o) : win z p k = winL z o := by
  rw [h.page]; exact win_page z l k o hk (by rw [h.len]; exact hN)
theorem PageOf.set_ {z N k j : Nat} {p x : List UInt8} {l : List Ob} {o o' : Ob} (h : PageOf z N p l) (hN : N * z ≤ 256) (hk : l[k]? = some o) (hj : j + x.length ≤ z) (hx : layL (winL z o) j x = winL z o') (ho : okO (z - 8) o') : PageOf z N (layL p (k * z + j) x) (l.set k o') :=
  ⟨by rw [List.length_set, h.len], by rw [h.page]; exact page_lay z l k j o o' x hk (by rw [h.len]; exact hN) hj hx, fun q hq => by
    rcases List.mem_or_eq_of_mem_set hq with h1 | rfl
    · exact h.ok q h1
    · exact ho⟩
/-- The first free slot; how many there are. -/
def firstL (l : List Ob) : Int := match l.findIdx? (fun o => decide (o.1 = 0)) with
  | some k => (k : Int)
  | none => -1
def usedL (l : List Ob) : Nat := l.countP fun o => !decide (o.1 = 0)
def thereL (l : List Ob) (k : Int) : Bool := decide (0 ≤ k) && (decide (k < l.length) && decide (0 < (l.getD k.toNat (0, [])).1))
end Go.Proofs.Ytnocjjaebemkoaa
