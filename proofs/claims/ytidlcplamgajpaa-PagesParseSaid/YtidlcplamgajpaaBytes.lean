/- Slices of bytes: what a slice reads, what a call of our own has made. No program in sight. -/
import Derived.Test.YtidlcplamgajpaaBase
import Derived.Laws.BytesArg
import Derived.Laws.MakeOwn
import Derived.Laws.CopyOwn
import Derived.Maps.AppendAt
namespace Go.Proofs.Ytidlcplamgajpaa
open Go.RowKit

/-- A byte, as a cell holds it. -/
def bv (c : UInt8) : Value := .int .u8 (c.toNat : Int)
theorem bv_one (l : List UInt8) : ∀ u ∈ l.map bv, u.oneCell' = true := by
  intro u hu
  obtain ⟨_, _, rfl⟩ := List.mem_map.1 hu
  rfl

/-- The slice value of address A and length n reads the bytes l in the world w. -/
def Rd (w : World) (A : Option Addr) (n : Nat) (l : List UInt8) : Prop :=
  l.length = n ∧ (0 < n → ∃ b off, A = some ⟨b, off, none⟩ ∧ b < w.heap.size ∧ ∀ (j : Nat) (c : UInt8), l[j]? = some c → w.cell? ⟨b, off + j, none⟩ = some (bv c))

section
variable {w w' : World} {A : Option Addr} {n : Nat} {l : List UInt8}
theorem Rd.len (h : Rd w A n l) : l.length = n := h.1
theorem Rd.nil : Rd w A 0 [] := ⟨rfl, fun h => absurd h (by omega)⟩
theorem Rd.at_ (h : Rd w A n l) {k : Nat} (hk : k < n) : ∃ b off c, A = some ⟨b, off, none⟩ ∧ b < w.heap.size ∧ l[k]? = some c ∧ w.cell? ⟨b, off + k, none⟩ = some (.int .u8 (c.toNat : Int)) := by
  obtain ⟨b, off, e, hb, hc⟩ := h.2 (by omega)
  have hl : k < l.length := by have := h.1; omega
  exact ⟨b, off, l[k], e, hb, List.getElem?_eq_getElem hl, hc k _ (List.getElem?_eq_getElem hl)⟩
theorem Rd.on (h : Rd w A n l) {B : Nat} (hb : Below B w w') (hB : w.heap.size ≤ B) : Rd w' A n l :=
  ⟨h.1, fun hn => by
    obtain ⟨b, off, e, hlt, hc⟩ := h.2 hn
    exact ⟨b, off, e, Nat.lt_of_lt_of_le hlt hb.size, fun j c hj => (hb.cell (p := ⟨b, off + j, none⟩) (by show b < B; omega)).trans (hc j c hj)⟩⟩
theorem Rd.below (h : Rd w A n l) (hb : Below w.heap.size w w') : Rd w' A n l := h.on hb (Nat.le_refl _)
theorem Rd.alloc (h : Rd w A n l) (o : Obj) : Rd (w.alloc o) A n l := h.below ((Below.refl _ _).alloc (Nat.le_refl _) o)
theorem Rd.drew (h : Rd w A n l) : Rd w.drew A n l := h
theorem Rd.drewN (h : Rd w A n l) (k : Nat) : Rd (w.drewN k) A n l := h
theorem Rd.of_own {base : Nat} {e : TypeId} {c : Nat} (h : w.ownsRow base e 1 (.slice A n c) n (l.map bv)) : Rd w A n l := by
  have hl : l.length = n := by have := h.1; simpa using this
  refine ⟨hl, fun hn => ?_⟩
  rcases h.2 with ⟨_, h0⟩ | ⟨g, cap, cur, hv, _, hh, _⟩
  · omega
  · have hA : A = some ⟨g, 0, none⟩ := by injection hv
    subst hA
    have hlt : g < w.heap.size := by
      rcases Nat.lt_or_ge g w.heap.size with hlt | hge
      · exact hlt
      · rw [Array.getElem?_eq_none hge] at hh; cases hh
    refine ⟨g, 0, rfl, hlt, fun j c hj => ?_⟩
    have h1 := h.cells (g := g) rfl j (bv c) (by simp [List.getElem?_map, hj])
    have h2 : (⟨g, 0, none⟩ : Addr).add j = ⟨g, 0 + j, none⟩ := by unfold Addr.add; split <;> simp_all
    rw [h2] at h1
    exact h1
/-- A block of a call's own, read from its head. -/
theorem Rd.of_blk {g : Nat} {t : TypeId} {cs : Array Value} (h : Blk w g t cs) (hn : l.length = n) (hc : ∀ (j : Nat) (c : UInt8), l[j]? = some c → cs[j]? = some (bv c)) : Rd w (some ⟨g, 0, none⟩) n l :=
  ⟨hn, fun _ => ⟨g, 0, rfl, h.lt, fun j c hj => by rw [Nat.zero_add, h.cell j]; exact hc j c hj⟩⟩
/-- A part of what is read. -/
theorem Rd.cut (h : Rd w A n l) {k m cap : Nat} (hk : k ≤ m) (hm : m ≤ n) (_hc : m ≤ cap) : Rd w (if cap = k then A else A.map (·.add (k * 1))) (m - k) ((l.take m).drop k) := by
  have hl := h.1
  refine ⟨by simp; omega, fun hn => ?_⟩
  obtain ⟨b, off, rfl, hb, hcell⟩ := h.2 (by omega)
  rw [if_neg (by omega)]
  refine ⟨b, off + k, ?_, hb, fun j c hj => ?_⟩
  · show some ((⟨b, off, none⟩ : Addr).add (k * 1)) = _
    unfold Addr.add
    split <;> simp_all
  · rw [List.getElem?_drop, List.getElem?_take] at hj
    split at hj
    · rw [Nat.add_assoc]; exact hcell _ c hj
    · cases hj
end

theorem take_step {α : Type} {l : List α} {k : Nat} {c : α} (h : l[k]? = some c) : l.take (k + 1) = l.take k ++ [c] := by
  rw [List.take_add_one, h]; rfl
/-- What the text of bytes is. -/
def str (l : List UInt8) : ByteArray := ⟨l.toArray⟩
theorem str_inj {a b : List UInt8} : str a = str b ↔ a = b := by
  unfold str
  constructor
  · intro h; injection h with h; exact List.toArray_inj h
  · rintro rfl; rfl
theorem str_toL (l : List UInt8) : (str l).toList = l := by rw [ByteArray.toList_eq]; rfl
theorem str_toList (l : List UInt8) : (str l).data.toList = l := rfl

theorem strOfNums_bytes (l : List UInt8) : strOfNums (l.map fun c => (c.toNat : Int)) = str l := by
  unfold strOfNums str
  congr 2
  rw [List.map_map]
  conv => rhs; rw [← List.map_id l]
  apply List.map_congr_left
  intro c _
  simp

/-- string(b), where the bytes are known. -/
theorem run_str {P : Program} {w : World} {A : Option Addr} {n : Nat} {l : List UInt8} (h : Rd w A n l) (src e dst : TypeId) (c : Nat) (hs : P.underlying src = some (.slice e)) (he : P.underlying e = some (.int .u8))
    (hd : P.underlying dst = some .string) : (convert src dst (.slice A n c)).run P w = .ok (.string (str l)) w := by
  rcases Nat.eq_zero_or_pos n with h0 | h0
  · subst h0
    have hl : l = [] := List.eq_nil_of_length_eq_zero h.1
    subst hl
    rw [run_convert_bytes_string w src dst e A 0 c hs he hd]
    cases A with
    | none => simp [Conv.bytesToString]; rfl
    | some a =>
      rw [run_bytesToString w a 0 c [] (by simp [loadCells]; rfl)]
      rfl
  · obtain ⟨b, off, rfl, _, hc⟩ := h.2 h0
    rw [run_convert_bytes_arg w src e hs he b off n c (l.map fun c => (c.toNat : Int)) (by simpa using h.1) ?_ dst hd, strOfNums_bytes]
    intro i hi
    have hl : i < l.length := by have := h.1; omega
    rw [hc i l[i] (List.getElem?_eq_getElem hl)]
    simp [bv, List.getD, List.getElem?_eq_getElem hl]

/-- The call has made the bytes l: a row of its own, from block B on. T: the number of the type byte. -/
def Fresh (T : TypeId) (B : Nat) (w' : World) (v : Value) (l : List UInt8) : Prop := ∃ A c, v = .slice A l.length c ∧ w'.ownsRow B T 1 v l.length (l.map bv)
/-- A call's end: bytes of its own; what was there is as it was. -/
def Gives (T : TypeId) (w : World) (l : List UInt8) (e : Ending) (w' : World) : Prop := ∃ v, e = .returned v ∧ Fresh T w.heap.size w' v l ∧ Below w.heap.size w w'
theorem Fresh.rd {T : TypeId} {B : Nat} {w' : World} {v : Value} {l : List UInt8} (h : Fresh T B w' v l) : ∃ A c, v = .slice A l.length c ∧ Rd w' A l.length l ∧ w'.ownsRow B T 1 (.slice A l.length c) l.length (l.map bv) := by
  obtain ⟨A, c, rfl, hown⟩ := h
  exact ⟨A, c, rfl, Rd.of_own hown, hown⟩
theorem Fresh.rdn {T : TypeId} {B : Nat} {w' : World} {v : Value} {l : List UInt8} (h : Fresh T B w' v l) (n : Nat) (hn : l.length = n) : ∃ A c, v = .slice A n c ∧ Rd w' A n l ∧ w'.ownsRow B T 1 (.slice A n c) n (l.map bv) ∧ n ≤ c ∧ c ≤ maxLen := by
  subst hn
  obtain ⟨A, c, rfl, hown⟩ := h
  refine ⟨A, c, rfl, Rd.of_own hown, hown, ?_⟩
  rcases hown.2 with ⟨h0, h1⟩ | ⟨g, cap, cur, hv, _, _, h1, h2, _⟩
  · injection h0 with _ h3 h4; subst h4; exact ⟨by omega, by unfold maxLen; omega⟩
  · injection hv with _ _ h4; subst h4; exact ⟨h1, h2⟩
theorem Fresh.from_ {T : TypeId} {B B' : Nat} {w' : World} {v : Value} {l : List UInt8} (h : Fresh T B w' v l) (hB : B' ≤ B) : Fresh T B' w' v l := by
  obtain ⟨A, c, rfl, hown⟩ := h
  refine ⟨A, c, rfl, hown.1, ?_⟩
  rcases hown.2 with h0 | ⟨g, cap, cur, hv, hg, hr⟩
  · exact .inl h0
  · exact .inr ⟨g, cap, cur, hv, Nat.le_trans hB hg, hr⟩
theorem Fresh.nil (T : TypeId) (B : Nat) (w' : World) : Fresh T B w' (.slice none 0 0) [] := ⟨none, 0, rfl, World.ownsRow_nil _ _ _ _⟩
theorem own_of_blk {w : World} {g base n : Nat} {t : TypeId} {cs : Array Value} {l : List UInt8} (h : Blk w g t cs) (hb : base ≤ g) (hn : n ≤ maxLen) (hl : l.length = n) (hcs : cs = (l.map bv).toArray) :
    w.ownsRow base t 1 (.slice (some ⟨g, 0, none⟩) n n) n (l.map bv) := by
  subst hcs
  refine ⟨by simpa using hl, .inr ⟨g, n, _, rfl, hb, h, Nat.le_refl _, hn, by simpa using hl, ?_⟩⟩
  show (l.map bv).take (n * 1) = _
  rw [List.take_of_length_le (by simp; omega)]
theorem Fresh.of_blk {w : World} {g base n : Nat} {t : TypeId} {cs : Array Value} {l : List UInt8} (h : Blk w g t cs) (hb : base ≤ g) (hn : n ≤ maxLen) (hl : l.length = n) (hcs : cs = (l.map bv).toArray) : Fresh t base w (.slice (some ⟨g, 0, none⟩) n n) l := by
  subst hl
  exact ⟨_, _, rfl, own_of_blk h hb hn rfl hcs⟩

/-- A row under way: the first k bytes are laid, the rest are noughts. -/
def part (l : List UInt8) (k : Nat) : Array Value := ((l.take k).map bv ++ List.replicate (l.length - k) (Value.int .u8 0)).toArray
theorem part_zero (l : List UInt8) (n : Nat) (h : l.length = n) : madeCells #[.int .u8 0] n = part l 0 := by
  subst h
  apply Array.toList_inj.1
  rw [toList_madeCells_one]
  simp [part]
theorem part_size (l : List UInt8) (k : Nat) (h : k ≤ l.length) : (part l k).size = l.length := by simp [part]; omega
theorem part_done (l : List UInt8) (k : Nat) (h : l.length ≤ k) : part l k = (l.map bv).toArray := by
  unfold part
  rw [List.take_of_length_le h, show l.length - k = 0 from by omega]
  simp
theorem part_set (l : List UInt8) (k : Nat) (c : UInt8) (h : l[k]? = some c) : (part l k).setIfInBounds k (.int .u8 (c.toNat : Int)) = part l (k + 1) := by
  have hk : k < l.length := (List.getElem?_eq_some_iff.1 h).1
  have e : l[k] = c := (List.getElem?_eq_some_iff.1 h).2
  apply Array.toList_inj.1
  unfold part
  simp only [Array.toList_setIfInBounds]
  apply List.ext_getElem?
  intro i
  rw [List.getElem?_set]
  simp only [List.length_append, List.length_map, List.length_take, List.length_replicate]
  rcases Nat.lt_trichotomy i k with hi | hi | hi
  · rw [if_neg (by omega), List.getElem?_append_left (by simp; omega), List.getElem?_append_left (by simp; omega)]
    simp only [List.getElem?_map, List.getElem?_take]
    rw [if_pos hi, if_pos (by omega)]
  · subst hi
    rw [if_pos rfl, if_pos (by omega), List.getElem?_append_left (by simp; omega)]
    simp only [List.getElem?_map, List.getElem?_take]
    rw [if_pos (by omega), h]
    rfl
  · rw [if_neg (by omega), List.getElem?_append_right (by simp; omega), List.getElem?_append_right (by simp; omega)]
    simp only [List.length_map, List.length_take, List.getElem?_replicate]
    by_cases hil : i < l.length
    · rw [if_pos (by omega), if_pos (by omega)]
    · rw [if_neg (by omega), if_neg (by omega)]
theorem part_get (l : List UInt8) (k j : Nat) (h : j < l.length) : ∃ u, (part l k)[j]? = some u := by
  have : j < (part l k).size := by simp [part]; omega
  exact ⟨_, Array.getElem?_eq_getElem this⟩

/-- make([]byte, n): a row of noughts, told as the row under way of the bytes that are to come. -/
theorem make_bytes {P : Program} {t e : TypeId} (ht : P.underlying t = some (.slice e)) (hi : (P.info? e).map (fun i => (i.zero, i.size, i.bytes)) = some (some (.int .u8 0), 1, 1)) (kl kc : IntKind) (n : Nat) (hn : n ≤ 140737488355328)
    (l : List UInt8) (hl : l.length = n) (w : World) :
    (Instr.makeSlice t (.int kl (n : Int)) (.int kc (n : Int))).run P w = .ok (.slice (some ⟨w.heap.size, 0, none⟩) n n) (w.alloc (.cells (part l 0) e)) := by
  obtain ⟨i, h1, h2, h3, h4⟩ := info_parts hi
  have hb : (i.bytes : Int) * (n : Int) ≤ 281474976710656 := by rw [h4]; omega
  have hr := run_make (P := P) w t e i (.int .u8 0) ht h1 h2 kl kc n n (by omega) (by omega) hb (by omega)
  simp only [Int.toNat_natCast] at hr
  rw [h3, Nat.mul_one] at hr
  rw [hr, show (Value.int .u8 0).cells = #[.int .u8 0] from rfl, part_zero l n hl]

/-- A row behind a copy: the bytes l laid over it from place off on. -/
def lay (cur : Array Value) (off : Nat) (l : List UInt8) : Array Value := (cur.toList.take off ++ l.map bv ++ cur.toList.drop (off + l.length)).toArray
theorem lay_size (cur : Array Value) (off : Nat) (l : List UInt8) (h : off + l.length ≤ cur.size) : (lay cur off l).size = cur.size := by simp [lay]; omega
/-- copy(dst, src), dst a row of the call's own, src known by its bytes. -/
theorem run_copy_bytes {P : Program} {W : World} {g : Nat} {T dT e : TypeId} {cur : Array Value} {A : Option Addr} {n : Nat} {l : List UInt8} (hB : Blk W g T cur) (hr : Rd W A n l)
    (hu : P.underlying dT = some (.slice e)) (hi : (P.info? e).map (fun i => (i.zero, i.size, i.bytes)) = some (some (.int .u8 0), 1, 1)) (ty : TypeId) (off dLen dCap c : Nat) (hfit : off + min n dLen ≤ cur.size) :
    (Builtin.copy_ #[dT, dT] ty #[.slice (some ⟨g, off, none⟩) dLen dCap, .slice A n c]).run P W = .ok (.int .i64 ((min n dLen : Nat) : Int)) (W.setRow g (lay cur off (l.take dLen))) := by
  have hs : (P.info? e).map (·.size) = some 1 := by
    obtain ⟨i, h1, h2, h3, h4⟩ := info_parts hi
    rw [h1]; simp [h3]
  have hl := hr.len
  by_cases h0 : min n dLen = 0
  · have hn : l.take dLen = [] := by
      apply List.eq_nil_of_length_eq_zero
      rw [List.length_take]; omega
    rw [run_copy_none W dT dT ty e (some ⟨g, off, none⟩) A dLen dCap n c hu hs h0, hn, h0]
    have e1 : lay cur off [] = cur := by simp [lay]
    rw [e1, setRow_self W g cur T (0, 0) hB]
    rfl
  · obtain ⟨b, o, rfl, hb, hc⟩ := hr.2 (by omega)
    have hlen : ((l.take dLen).map bv).length = Nat.min n dLen := by
      simp only [List.length_map, List.length_take, hl]
      exact Nat.min_comm _ _
    have h := run_copy_row (P := P) W dT dT ty e g off dLen dCap ⟨b, o, none⟩ n c cur T ((l.take dLen).map bv) hu hs hB hlen (by
      intro j v hj
      have h2 : (⟨b, o, none⟩ : Addr).add j = ⟨b, o + j, none⟩ := by unfold Addr.add; split <;> simp_all
      rw [h2]
      rw [List.getElem?_map] at hj
      obtain ⟨x, hx, rfl⟩ := Option.map_eq_some_iff.1 hj
      rw [List.getElem?_take] at hx
      split at hx
      · exact hc j x hx
      · cases hx) (by rw [hlen]; exact hfit) (bv_one _)
    rw [h]
    have e1 : (goInt (((l.take dLen).map bv).length : Nat)) = .int .i64 ((min n dLen : Nat) : Int) := by rw [hlen]; rfl
    rw [e1, List.length_map]
    rfl
theorem Blk.row {w : World} {g : Nat} {t : TypeId} {cs : Array Value} (h : Blk w g t cs) (cs' : Array Value) : Blk (w.setRow g cs') g t cs' := setRow_heap w g cs cs' t _ h
theorem Below.row {B g : Nat} {w0 w : World} (hb : Below B w0 w) (hB : B ≤ g) (cs : Array Value) : Below B w0 (w.setRow g cs) := below_setRow hb hB cs

section
variable {P : Program}
theorem run_append_of_nil (w : World) (base : Nat) (t ty e : TypeId) (i : TypeInfo) (size : Nat) (ht : P.underlying t = some (.slice e)) (hi : P.info? e = some i)
    (v : Value) (n : Nat) (xs : List Value) (hown : w.ownsRow base e size v n xs) (c : Nat) : (Builtin.append_ #[t, t] ty #[v, .slice none 0 c]).run P w = .ok v w := by
  rcases hown.2 with ⟨rfl, rfl⟩ | ⟨g, cap, cur, rfl, _, _, hnc, _⟩
  · simp [Builtin.append_, run_underlying ht, sizeOf, typeInfo, hi, Builtin.lenOf, Builtin.firstCells]
  · simp [Builtin.append_, run_underlying ht, sizeOf, typeInfo, hi, Builtin.lenOf, Builtin.firstCells, hnc, storeCells]
theorem Fresh.block {T : TypeId} {B : Nat} {w' : World} {v : Value} {l : List UInt8} (h : Fresh T B w' v l) : ∀ k, v.ownBlock = some k → B ≤ k ∧ k < w'.heap.size := by
  obtain ⟨A, c, rfl, hown⟩ := h
  exact hown.lt
/-- append(out, src...), out the call's own, src known by its bytes. -/
theorem run_append_bytes (w : World) (base : Nat) (t ty e : TypeId) (ht : P.underlying t = some (.slice e)) (hi : (P.info? e).map (fun i => (i.zero, i.size, i.bytes)) = some (some (.int .u8 0), 1, 1))
    (v : Value) (l : List UInt8) (hF : Fresh e base w v l) (A : Option Addr) (m c : Nat) (l2 : List UInt8) (hr : Rd w A m l2) (hlen : l.length + m ≤ 140737488355328) (hbase : base ≤ w.heap.size) :
    ∃ v' w', (Builtin.append_ #[t, t] ty #[v, .slice A m c]).run P w = .ok v' w' ∧ Fresh e base w' v' (l ++ l2) ∧ w.grownBy w' v.ownBlock ∧ Below base w w' := by
  obtain ⟨i, h1, h2, h3, h4⟩ := info_parts hi
  have hlt := hF.block
  obtain ⟨A0, c0, rfl, hown⟩ := hF
  have hm : l2.length = m := hr.1
  have low : ∀ w', w.grownBy w' (Value.slice A0 l.length c0).ownBlock → Below base w w' := fun w' hg => (Below.refl _ _).grown hg hbase (fun k hk => (hlt k hk).1)
  have out : ∀ v' w', w'.ownsRow base e 1 v' (l.length + m) (l.map bv ++ l2.map bv) → Fresh e base w' v' (l ++ l2) := by
    intro v' w' ho
    have ho' : w'.ownsRow base e 1 v' (l ++ l2).length ((l ++ l2).map bv) := by simpa [hm] using ho
    rcases ho.2 with ⟨rfl, h0⟩ | ⟨g, cap, cur, rfl, _⟩
    · have e0 : (l ++ l2).length = 0 := by rw [List.length_append]; omega
      exact ⟨none, 0, by rw [e0], by rw [e0] at ho' ⊢; exact ho'⟩
    · have e0 : l.length + m = (l ++ l2).length := by rw [List.length_append]; omega
      exact ⟨some ⟨g, 0, none⟩, cap, by rw [e0], by rw [← e0] at ho' ⊢; exact ho'⟩
  rcases A with _ | ad
  · have h0 : m = 0 := by
      rcases Nat.eq_zero_or_pos m with h0 | h0
      · exact h0
      · obtain ⟨_, _, h, _⟩ := hr.2 h0
        cases h
    subst h0
    have hn : l2 = [] := List.eq_nil_of_length_eq_zero hm
    subst hn
    exact ⟨_, w, run_append_of_nil w base t ty e i 1 ht h1 _ _ _ hown c, out _ _ (by simpa using hown), World.grownBy.refl w _, low _ (World.grownBy.refl w _)⟩
  · have hcells : ∀ j u, (l2.map bv)[j]? = some u → w.cell? (ad.add j) = some u := by
      intro j u hu
      rw [List.getElem?_map] at hu
      obtain ⟨x, hx, rfl⟩ := Option.map_eq_some_iff.1 hu
      have hj : j < l2.length := (List.getElem?_eq_some_iff.1 hx).1
      obtain ⟨b, o, hA, _, hc⟩ := hr.2 (by omega)
      injection hA with hA
      subst hA
      have h2 : (⟨b, o, none⟩ : Addr).add j = ⟨b, o + j, none⟩ := by unfold Addr.add; split <;> simp_all
      rw [h2]
      exact hc j x hx
    obtain ⟨v', w', hrun, g2, g3, _, _⟩ := run_append_own_at (P := P) w base t ty e i (.int .u8 0) 1 1 ht h1 h2 h3 h4 rfl (by omega) _ _ _ hown ad m c (l2.map bv) (by simpa using hm) hcells (bv_one _) (by unfold maxLen; omega) (by omega) hbase
    exact ⟨v', w', hrun, out _ _ g2, g3, low _ g3⟩

theorem wp_append_bytes (w : World) {o : Oper} {a : Act} {K : Act → World → Prop} {Q : Exit → Act → World → Prop} (s x : Operand) (t : TypeId)
    (ho : o.op = .call { callee := .builtin .append, args := #[s, x], argTypes := #[t, t] })
    (base : Nat) (e : TypeId) (ht : P.underlying t = some (.slice e)) (hi : (P.info? e).map (fun i => (i.zero, i.size, i.bytes)) = some (some (.int .u8 0), 1, 1))
    (v : Value) (l : List UInt8) (hs : a.eval s = v) (hF : Fresh e base w v l) (A : Option Addr) (m c : Nat) (l2 : List UInt8) (hx : a.eval x = .slice A m c) (hr : Rd w A m l2) (hlen : l.length + m ≤ 140737488355328) (hbase : base ≤ w.heap.size)
    (h : ∀ v' w', Fresh e base w' v' (l ++ l2) → w.grownBy w' v.ownBlock → Below base w w' → K (a.put o.dst v') w') : o.wp P a w K Q := by
  obtain ⟨v', w', hrun, h2, h3, h4⟩ := run_append_bytes (P := P) w base t o.type e ht hi v l hF A m c l2 hr hlen hbase
  unfold Oper.wp execOp
  simp only [ho, resolve, invoke, builtin, Sem.run_bind, Sem.run_pure, Result.andThen_ok, List.map_toArray, List.map_cons, List.map_nil, hs, hx, hrun]
  exact h v' w' h2 h3 h4

theorem wpList_append_bytes (w : World) {ops : Array Oper} {rest : List Oper} {o : Oper} {a : Act} {Q : Exit → Act → World → Prop} (hgd : o.guard = none) (s x : Operand) (t : TypeId)
    (ho : o.op = .call { callee := .builtin .append, args := #[s, x], argTypes := #[t, t] })
    (base : Nat) (e : TypeId) (ht : P.underlying t = some (.slice e)) (hi : (P.info? e).map (fun i => (i.zero, i.size, i.bytes)) = some (some (.int .u8 0), 1, 1))
    (v : Value) (l : List UInt8) (hs : a.eval s = v) (hF : Fresh e base w v l) (A : Option Addr) (m c : Nat) (l2 : List UInt8) (hx : a.eval x = .slice A m c) (hr : Rd w A m l2) (hlen : l.length + m ≤ 140737488355328) (hbase : base ≤ w.heap.size)
    (h : ∀ v' w', Fresh e base w' v' (l ++ l2) → w.grownBy w' v.ownBlock → Below base w w' → wpList P ops Q rest (a.put o.dst v') w') : wpList P ops Q (o :: rest) a w :=
  wpList_plain hgd fun _ hK => wp_append_bytes w s x t ho base e ht hi v l hs hF A m c l2 hx hr hlen hbase fun v' w' h2 h3 h4 => hK _ _ (h v' w' h2 h3 h4)
end
theorem Fresh.on {T : TypeId} {B B' : Nat} {w w' : World} {v : Value} {l : List UInt8} (h : Fresh T B w v l) (hb : Below B' w w') (hB : w.heap.size ≤ B') : Fresh T B w' v l := by
  have hlt := h.block
  obtain ⟨A, c, rfl, hown⟩ := h
  refine ⟨A, c, rfl, hown.1, ?_⟩
  rcases hown.2 with h0 | ⟨g, cap, cur, hv, hg, hh, hr⟩
  · exact .inl h0
  · have := (hlt g (by rw [hv]; rfl)).2
    exact .inr ⟨g, cap, cur, hv, hg, (hb.block g (by omega)).trans hh, hr⟩
theorem Fresh.below {T : TypeId} {B : Nat} {w w' : World} {v : Value} {l : List UInt8} (h : Fresh T B w v l) (hb : Below w.heap.size w w') : Fresh T B w' v l := h.on hb (Nat.le_refl _)
theorem Fresh.alloc {T : TypeId} {B : Nat} {w : World} {v : Value} {l : List UInt8} (h : Fresh T B w v l) (o : Obj) : Fresh T B (w.alloc o) v l := h.below ((Below.refl _ _).alloc (Nat.le_refl _) o)
theorem Fresh.drew {T : TypeId} {B : Nat} {w : World} {v : Value} {l : List UInt8} (h : Fresh T B w v l) : Fresh T B w.drew v l := h
/-- One byte that has just been boxed. -/
theorem Rd.byte (w : World) (T : TypeId) (x : Int) (c : UInt8) (h : x = (c.toNat : Int)) : Rd (w.alloc (.cells #[.int .u8 x] T)) (some ⟨w.heap.size, 0, none⟩) 1 [c] := by
  subst h
  exact Rd.of_blk (Blk.new w T _) rfl (fun j d hj => by
    match j, hj with
    | 0, hj => simp at hj; subst hj; rfl)
end Go.Proofs.Ytidlcplamgajpaa
