/- Logs: what is written is read: the plain law. -/
import Derived.Test.YthepgnankelmeaaLogE
namespace Go.Proofs.Ythepgnankelmeaa
open Go.RowKit

/-- What a log's first block tells: the count, how many entries, an entry's number. -/
def cntB (b : List UInt8) : Int := (getL ((b.drop 8).take 8) : Int)
def nB (b : List UInt8) : Nat := getL ((b.drop 16).take 2)
def keyB (b : List UInt8) (k : Nat) : Int := (getL ((b.drop (18 + 2 * k)).take 2) : Int)
def entB (b : List UInt8) (bs : List (List UInt8)) (k : Nat) : Ent := (keyB b k, bs.getD k [])
/-- The first m entries. -/
def esB (b : List UInt8) (bs : List (List UInt8)) (m : Nat) : List Ent := (List.range m).map (entB b bs)
theorem esB_len (b : List UInt8) (bs : List (List UInt8)) (m : Nat) : (esB b bs m).length = m := by simp [esB]
theorem esB_step (b : List UInt8) (bs : List (List UInt8)) (m : Nat) : esB b bs (m + 1) = esB b bs m ++ [entB b bs m] := by simp [esB, List.range_succ]
theorem getL_two {l : List UInt8} : getL (l.take 2) < 65536 := by
  have h1 := getL_lt (l.take 2)
  have h2 : (l.take 2).length ≤ 2 := by simp; omega
  have h3 : 256 ^ (l.take 2).length ≤ 256 ^ 2 := Nat.pow_le_pow_right (by omega) h2
  omega
theorem keyB_range (b : List UInt8) (k : Nat) : 0 ≤ keyB b k ∧ keyB b k ≤ 65535 := by
  have := getL_two (l := b.drop (18 + 2 * k))
  unfold keyB
  omega
theorem nB_lt (b : List UInt8) : nB b < 65536 := getL_two
theorem cntB_range (b : List UInt8) : 0 ≤ cntB b ∧ cntB b ≤ 18446744073709551615 := by
  have h1 := getL_lt ((b.drop 8).take 8)
  have h2 : ((b.drop 8).take 8).length ≤ 8 := by simp; omega
  have h3 : 256 ^ ((b.drop 8).take 8).length ≤ 256 ^ 8 := Nat.pow_le_pow_right (by omega) h2
  unfold cntB
  omega
theorem esB_keys {b : List UInt8} {bs : List (List UInt8)} {m : Nat} : ∀ e ∈ esB b bs m, 0 ≤ e.1 ∧ e.1 ≤ 65535 := by
  intro e he
  obtain ⟨k, _, rfl⟩ := List.mem_map.1 he
  exact keyB_range b k
/-- Are blocks a log's? -/
def goodL (p t : Int) (b : List UInt8) (bs : List (List UInt8)) : Bool := decide ((nB b : Int) ≤ t ∧ mayLog p t (esB b bs (nB b)) = true ∧ headL (cntB b) (esB b bs (nB b)) = b)

/-- A head's parts, each at its place. -/
theorem headL_split (cnt : Int) (es : List Ent) (hl : es.length ≤ 100) : headL cnt es = markR ++ (putL 8 cnt ++ (putL 2 (es.length : Int) ++ (numsE es ++ List.replicate (256 - (18 + 2 * es.length)) 0))) := by
  have hlen : ((headParts cnt es.length).flatten ++ numsE es).length = 18 + 2 * es.length := by rw [List.length_append, headParts_len, numsE_len]
  unfold headL padL
  rw [List.take_of_length_le (by omega), hlen]
  simp [headParts]
theorem take_skip {α : Type} {a b c : List α} {i m : Nat} (ha : a.length = i) (hb : b.length = m) : ((a ++ (b ++ c)).drop i).take m = b := by
  rw [← ha, List.drop_left, ← hb, List.take_left]
theorem numsE_at : ∀ (es : List Ent) (r : List UInt8) (k : Nat) (e : Ent), es[k]? = some e → ((numsE es ++ r).drop (2 * k)).take 2 = putL 2 e.1
  | [], _, _, _, h => by simp at h
  | x :: es, r, 0, e, h => by
    simp at h
    subst h
    unfold numsE
    rw [List.flatMap_cons, List.append_assoc]
    exact take_skip (a := []) rfl (putL_len _ _)
  | x :: es, r, k + 1, e, h => by
    have ih := numsE_at es r k e (by simpa using h)
    unfold numsE at ih ⊢
    rw [List.flatMap_cons, List.append_assoc, show 2 * (k + 1) = 2 + 2 * k from by omega, ← List.drop_drop]
    rw [show (putL 2 x.1 ++ (es.flatMap (fun e => putL 2 e.1) ++ r)).drop 2 = es.flatMap (fun e => putL 2 e.1) ++ r from List.drop_left' (putL_len _ _)]
    exact ih
theorem head_cnt {cnt : Int} {es : List Ent} (hl : es.length ≤ 100) (h0 : 0 ≤ cnt) (h1 : cnt ≤ 18446744073709551615) : cntB (headL cnt es) = cnt := by
  unfold cntB
  rw [headL_split cnt es hl, take_skip (a := markR) (i := 8) rfl (putL_len _ _), getL_put8 8 cnt h0, show (256 : Int) ^ 8 = 18446744073709551616 from by decide]
  omega
theorem head_n {cnt : Int} {es : List Ent} (hl : es.length ≤ 100) : nB (headL cnt es) = es.length := by
  have : (nB (headL cnt es) : Int) = es.length := by
    unfold nB
    rw [headL_split cnt es hl, ← List.append_assoc, take_skip (a := markR ++ putL 8 cnt) (i := 16) (by rw [List.length_append, putL_len]; rfl) (putL_len _ _), getL_put8 2 _ (by omega), show (256 : Int) ^ 2 = 65536 from by decide]
    omega
  omega
theorem head_key {cnt : Int} {es : List Ent} (hl : es.length ≤ 100) {k : Nat} {e : Ent} (he : es[k]? = some e) (h0 : 0 ≤ e.1) (h1 : e.1 ≤ 65535) : keyB (headL cnt es) k = e.1 := by
  have hA : (markR ++ (putL 8 cnt ++ putL 2 (es.length : Int))).length = 18 := by rw [List.length_append, List.length_append, putL_len, putL_len]; rfl
  unfold keyB
  rw [headL_split cnt es hl, ← List.append_assoc (putL 8 cnt), ← List.append_assoc markR, ← List.drop_drop, List.drop_left' hA, numsE_at es _ k e he, getL_put8 2 _ h0, show (256 : Int) ^ 2 = 65536 from by decide]
  omega
/-- What is written is read as it was. -/
theorem es_back {cnt : Int} {es : List Ent} {fs : List (List UInt8)} (hl : es.length ≤ 100) (hk : ∀ e ∈ es, 0 ≤ e.1 ∧ e.1 ≤ 65535) : esB (headL cnt es) (es.map (·.2) ++ fs) es.length = es := by
  apply List.ext_getElem?
  intro k
  unfold esB
  rw [List.getElem?_map]
  rcases Nat.lt_or_ge k es.length with hlt | hge
  · have he : es[k]? = some es[k] := List.getElem?_eq_getElem hlt
    obtain ⟨h0, h1⟩ := hk es[k] (List.getElem_mem hlt)
    rw [List.getElem?_range hlt, he]
    simp only [Option.map_some, Option.some.injEq]
    unfold entB
    rw [head_key hl he h0 h1]
    have : (es.map (·.2) ++ fs).getD k [] = es[k].2 := by
      rw [List.getD, List.getElem?_append_left (by simpa using hlt), List.getElem?_map, he]
      rfl
    rw [this]
  · rw [List.getElem?_eq_none hge, List.getElem?_eq_none (by simpa using hge)]
    rfl
theorem good_back {p t cnt : Int} {es : List Ent} {fs : List (List UInt8)} (hm : mayLog p t es = true) (hl : es.length ≤ 100) (hk : ∀ e ∈ es, 0 ≤ e.1 ∧ e.1 ≤ 65535) (hlt : (es.length : Int) ≤ t) (h0 : 0 ≤ cnt) (h1 : cnt ≤ 18446744073709551615) :
    goodL p t (headL cnt es) (es.map (·.2) ++ fs) = true ∧ cntB (headL cnt es) = cnt ∧ esB (headL cnt es) (es.map (·.2) ++ fs) (nB (headL cnt es)) = es := by
  have e1 := head_n (cnt := cnt) hl
  have e2 := head_cnt hl h0 h1
  have e3 := es_back (cnt := cnt) (fs := fs) hl hk
  refine ⟨?_, e2, by rw [e1, e3]⟩
  unfold goodL
  rw [e1, e2, e3]
  exact decide_eq_true ⟨hlt, hm, rfl⟩
end Go.Proofs.Ythepgnankelmeaa
