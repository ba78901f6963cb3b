/- The walk of the statement LogfReads. -/
import Derived.Test.YthepgnankelmeaaLog18
import Derived.Test.YthepgnankelmeaaInts
namespace Go.Proofs.Ythepgnankelmeaa
open Go.RowKit

theorem land255 (n : Int) : bits .and .i64 n 255 = n % 256 := by
  have h7 : (BitVec.ofInt 64 255).toNat = 2 ^ 8 - 1 := by decide
  have key : (BitVec.ofInt 64 n &&& BitVec.ofInt 64 255).toNat = (n % ((2 ^ 64 : Nat) : Int)).toNat % 2 ^ 8 := by
    rw [BitVec.toNat_and, BitVec.toNat_ofInt, h7, Nat.and_two_pow_sub_one_eq_mod]
  show IntKind.i64.wrap ((BitVec.ofInt 64 n &&& BitVec.ofInt 64 255).toNat : Nat) = n % 256
  rw [key, IntKind.wrap_i64]
  omega
/-- Whole blocks, at most so many. -/
def Blks (p t : Int) (bl : List (List UInt8)) : Prop := (∀ l ∈ bl, l.length = 256) ∧ 1 ≤ bl.length ∧ bl.length ≤ 1000 ∧ (gmay p t = true → (bl.length : Int) ≤ 1 + t)
theorem Blks.enc {p t x : Int} {a : List Ent} (h : mayLog p t a = true) (ha : a.length ≤ 30) : Blks p t (encL x a) := by
  obtain ⟨_, h1, h2, h3⟩ := mayLog_true h
  refine ⟨fun l hl => ?_, by rw [encL_len]; omega, by rw [encL_len]; omega, fun _ => by rw [encL_len]; omega⟩
  rcases List.mem_cons.1 hl with rfl | h4
  · exact headL_len _ _
  · obtain ⟨e, he, rfl⟩ := List.mem_map.1 h4
    exact (h3 e he).2.2
theorem Blks.one (p t : Int) (Z : List UInt8) (hZ : Z.length = 256) : Blks p t [Z] := by
  refine ⟨fun l hl => by simp at hl; rw [hl]; exact hZ, by simp, by simp, fun h => ?_⟩
  have := (gmay_true h).2.2.1
  simp
  omega
theorem RAll.setAt {η α : Type} {K : RKind η α} {B : Nat} {T : TypeId} {w : World} {hs : List η} {es : List α} {h : η} {e : α} (ha : RAll K B T w hs es) (k : Nat) (hi : RItem K B T w h e) : RAll K B T w (hs.set k h) (es.set k e) := by
  refine ⟨by simp [ha.1], fun i h' e' h1 h2 => ?_⟩
  rw [List.getElem?_set] at h1 h2
  by_cases hk : k = i
  · subst hk
    rw [if_pos rfl] at h1 h2
    split at h1
    · split at h2
      · injection h1 with h1
        injection h2 with h2
        subst h1 h2
        exact hi
      · cases h2
    · cases h1
  · rw [if_neg hk] at h1 h2
    exact ha.2 i h' e' h1 h2
/-- A row of rows of which one is another one. -/
theorem OwnR.setSS {T T2 : TypeId} {Br B : Nat} {w : World} {A : Option Addr} {n c : Nat} {ls : List (List UInt8)} (h : OwnR ssK T2 Br B T w (.slice A n c) ls) (hn : ls.length = n) {g : Nat} {cur : Array Value} (hA : A = some ⟨g, 0, none⟩) (hB : Blk w g T2 cur) (hT : T ≠ T2) (hg : B ≤ g) (k : Nat) (hk : k < n)
    (A' : Option Addr) (n' c' : Nat) (l : List UInt8) (hX : RdX B T w A' n' l) (h1 : n' ≤ c') (h2 : c' ≤ maxLen) : OwnR ssK T2 Br B T (w.setCell ⟨g, k, none⟩ (.slice A' n' c')) (.slice A n c) (ls.set k l) := by
  obtain ⟨hs, hF, hAll⟩ := h
  have hl : hs.length = n := by rw [hAll.1, hn]
  exact ⟨hs.set k (A', n', c'), hF.setOne hl rfl hA hB k hk (A', n', c') _ rfl, (hAll.set_ hB hT hg k _).setAt k (show RItem ssK _ _ _ (A', n', c') l from ⟨trivial, hX.set_ hB hT hg k _, h1, h2⟩)⟩
theorem OwnR.openSS {T T2 : TypeId} {Br B : Nat} {w : World} {A : Option Addr} {n c : Nat} {ls : List (List UInt8)} (h : OwnR ssK T2 Br B T w (.slice A n c) ls) (hn : ls.length = n) (hpos : 0 < n) : ∃ g cur, A = some ⟨g, 0, none⟩ ∧ Br ≤ g ∧ Blk w g T2 cur ∧ n ≤ cur.size := by
  obtain ⟨hs, hF, hAll⟩ := h
  obtain ⟨g, cur, h1, h2, h3, h4, _⟩ := hF.open_ (by rw [hAll.1, hn]) hpos
  have h5 : n * 1 ≤ cur.size := h4
  exact ⟨g, cur, h1, h2, h3, by omega⟩

/-- Memory grows; of what stood, blocks of a kind alone change, none of them below a number; those of a type keep their size. -/
structure LKept (B : Nat) (Pd : Obj → Prop) (TL : TypeId) (w w' : World) : Prop where
  kept : PKept B Pd w w'
  shape : ∀ (k : Nat) (cs : Array Value) (fr : Nat × Nat), w.heap[k]? = some (Obj.cells cs TL fr) → ∃ cs' : Array Value, w'.heap[k]? = some (Obj.cells cs' TL fr) ∧ cs'.size = cs.size
theorem LKept.rel (B : Nat) (Pd : Obj → Prop) (TL : TypeId) : KRel (LKept B Pd TL) where
  refl w := ⟨(PKept.rel B Pd).refl w, fun _ cs _ h => ⟨cs, h, rfl⟩⟩
  trans a b c h k := ⟨(PKept.rel B Pd).trans a b c h.kept k.kept, fun i cs fr hi => by
    obtain ⟨cs1, h1, h2⟩ := h.shape i cs fr hi
    obtain ⟨cs2, h3, h4⟩ := k.shape i cs1 fr h1
    exact ⟨cs2, h3, h4.trans h2⟩⟩
  below w w' h := ⟨(PKept.rel B Pd).below w w' h, fun i cs fr hi => ⟨cs, by
    have hlt : i < w.heap.size := (Array.getElem?_eq_some_iff.1 hi).1
    rw [h.block i hlt]; exact hi, rfl⟩⟩
theorem LKept.setCell {B : Nat} {Pd : Obj → Prop} {TL : TypeId} {w : World} {g : Nat} {cs : Array Value} (hg : B ≤ g) (hB : Blk w g TL cs) (hp : Pd (.cells cs TL (0, 0))) (i : Nat) (u : Value) : LKept B Pd TL w (w.setCell ⟨g, i, none⟩ u) :=
  ⟨PKept.setCell hg hB hp i u, fun k cs' fr hk => by
    by_cases hkg : k = g
    · subst hkg
      unfold Blk at hB
      rw [hB] at hk
      injection hk with hk
      injection hk with h1 h2 h3
      subst h1 h3
      exact ⟨_, (show Blk w k TL cs from hB).set_ i u, by simp⟩
    · exact ⟨cs', by rw [Below.heap_setCell w ⟨g, i, none⟩ u k hkg]; exact hk, rfl⟩⟩
theorem LKept.grown {B : Nat} {Pd : Obj → Prop} {TL T2 : TypeId} {w w' : World} {g : Nat} {cs : Array Value} (hg : B ≤ g) (hB : Blk w g T2 cs) (hp : Pd (.cells cs T2 (0, 0))) (hT : T2 ≠ TL) (h : w.grownBy w' (some g)) : LKept B Pd TL w w' :=
  ⟨⟨h.os, h.tape, h.output, h.size, fun k o hk hn => by
    have hlt : k < w.heap.size := (Array.getElem?_eq_some_iff.1 hk).1
    have hne : k ≠ g := by
      intro e
      subst e
      unfold Blk at hB
      rw [hB] at hk
      injection hk with hk
      subst hk
      rcases hn with hn | hn
      · omega
      · exact hn hp
    rw [h.block k hlt (by simpa using hne)]
    exact hk⟩, fun k cs' fr hk => by
    have hlt : k < w.heap.size := (Array.getElem?_eq_some_iff.1 hk).1
    have hne : k ≠ g := by
      intro e
      subst e
      unfold Blk at hB
      rw [hB] at hk
      injection hk with hk
      injection hk with _ h2 _
      exact hT h2
    exact ⟨cs', by rw [h.block k hlt (by simpa using hne)]; exact hk, rfl⟩⟩
/-- Blocks that a region may change: boxes; rows but those of one. -/
def RowOrBox (TL T2 : TypeId) (o : Obj) : Prop := (∃ cs fr, o = .cells cs TL fr) ∨ ∃ cs fr, o = .cells cs T2 fr ∧ cs.size ≠ 1
theorem RdG.oneBlk {α : Type} {E : Enc α} {w : World} {g : Nat} {T : TypeId} {a : α} {x : Value} (h : Blk w g T #[x]) (hx : E.f a = [x]) : RdG E w (some ⟨g, 0, none⟩) 1 [a] :=
  ⟨rfl, fun _ => ⟨g, 0, rfl, h.lt, fun k b hk j u hu => by
    match k, hk with
    | 0, hk =>
      simp at hk
      subst hk
      rw [hx] at hu
      rw [Nat.zero_mul, Nat.zero_add, h.cell j]
      simpa using hu⟩⟩
/-- A box that was made; a row of one; a row of so many. -/
def IsBoxL (TL : TypeId) (B : Nat) (y : Value) (W : World) : Prop := ∃ g cs, y = .pointer (some ⟨g, 0, none⟩) ∧ B ≤ g ∧ Blk W g TL cs ∧ cs.size = 2
theorem IsBoxL.stab {TL : TypeId} {B : Nat} {Pd : Obj → Prop} : StabK (LKept B Pd TL) (IsBoxL TL B) := fun _ _ _ hk ⟨g, cs, e, h1, h2, h3⟩ => by
  obtain ⟨cs', h4, h5⟩ := hk.shape g cs _ h2
  exact ⟨g, cs', e, h1, h4, by omega⟩
def IsOneR (T2 : TypeId) (x : Value) (y : Value) (W : World) : Prop := ∃ g, y = .slice (some ⟨g, 0, none⟩) 1 1 ∧ Blk W g T2 #[x]
theorem IsOneR.stab {TL T2 : TypeId} {B : Nat} {x : Value} (hT : T2 ≠ TL) : StabK (LKept B (RowOrBox TL T2) TL) (IsOneR T2 x) := fun _ _ _ hk ⟨g, e, h1⟩ =>
  ⟨g, e, hk.kept.block g _ h1 (.inr (by
    rintro (⟨cs, fr, h⟩ | ⟨cs, fr, h, h2⟩)
    · injection h with _ h3 _
      exact hT h3
    · injection h with h3 _ _
      subst h3
      exact h2 rfl))⟩
def IsLenV (n : Nat) (y : Value) (_ : World) : Prop := ∃ A c, y = .slice A n c
theorem IsLenV.stab {Kp : World → World → Prop} (n : Nat) : StabK Kp (IsLenV n) := fun _ _ _ _ h => h
/-- The rows under way: an empty one; as many as there were; one more. -/
def RowZ (T2 : TypeId) (B n : Nat) : List Value → World → Prop
  | [y], W => ∃ g, y = .slice (some ⟨g, 0, none⟩) 0 0 ∧ B ≤ g ∧ Blk W g T2 #[]
  | [_, y], W => ∃ hs, FreshG ssE T2 B W y hs ∧ hs.length = n
  | _, _ => True
theorem RowZ.stab {T2 : TypeId} {B n : Nat} : ∀ us w w', Below w.heap.size w w' → RowZ T2 B n us w → RowZ T2 B n us w'
  | [], _, _, _, _ => trivial
  | [_], _, _, hb, ⟨g, e, h1, h2⟩ => ⟨g, e, h1, h2.on hb⟩
  | [_, _], _, _, hb, ⟨hs, h1, h2⟩ => ⟨hs, h1.below hb, h2⟩
  | _ :: _ :: _ :: _, _, _, _, _ => trivial
set_option maxRecDepth 100000 in
set_option maxHeartbeats 2000000 in
theorem law_logfreads (p t x : Int) (A0 : Option Addr) (n0 c0 : Nat) (es : List Ent) (Ai : Option Addr) (ni ci : Nat) (is : List Int) (Av : Option Addr) (nv cv : Nat) (vs : List UInt8) (less : Int) (short : Bool) (w : World) (ha : RdR entK w.heap.size 5 w A0 n0 es) (hx0 : 0 ≤ x) (hx1 : x ≤ 18446744073709551615) (hri : RdG i64E w Ai ni is) (hni : ni ≤ ci) (hci : ci ≤ maxLen) (hrv : Rd w Av nv vs) :
    Calls Try.prog 13 #[.agg #[.int .i64 p, .int .i64 t], .agg #[.int .u64 x, .slice A0 n0 c0], .slice Ai ni ci, .slice Av nv cv, .int .i64 less, .bool short] w fun e w' => e = .returned (.bool true) ∧ Below w.heap.size w w' := by
  have hi47 : ni ≤ 9223372036854775807 := by unfold maxLen at hci; omega
  clear hni hci
  obtain ⟨wg, hwg⟩ : ∃ wg, wg = (w.alloc (.cells #[.int .i64 p, .int .i64 t] 23)).alloc (.cells #[.int .u64 x, .slice A0 n0 c0] 49) := ⟨_, rfl⟩
  have G0 : Blk wg w.heap.size 23 #[.int .i64 p, .int .i64 t] := by rw [hwg]; exact (Blk.new _ _ _).alloc _
  have P0 : Blk wg (w.heap.size + 1) 49 #[.int .u64 x, .slice A0 n0 c0] := by
    rw [hwg]
    simpa using Blk.new (w.alloc (.cells #[.int .i64 p, .int .i64 t] 23)) 49 #[.int .u64 x, .slice A0 n0 c0]
  have bg : Below w.heap.size w wg := by rw [hwg]; exact (by (repeat (first | exact Below.refl _ _ | (refine Below.setCell ?_ (by first | omega | (simp; omega) | simp) _) | (refine Below.alloc ?_ (by first | omega | (simp; omega) | simp) _) | apply Below.drew | apply below_drewN)))
  have hgz : wg.heap.size = w.heap.size + 1 + 1 := by rw [hwg]; simp
  have HGZ := Lib.hid hgz
  obtain ⟨a, haa⟩ : ∃ a, a = cutL true es := ⟨_, rfl⟩
  have HA := Lib.hid haa
  obtain ⟨m, hma⟩ : ∃ m, a.length = m := ⟨_, rfl⟩
  have hm30 : m ≤ 30 := by rw [← hma, haa, cutL_len]; omega
  have cP := P0.cell
  obtain ⟨Z, hZ⟩ : ∃ Z : List UInt8, Z = List.replicate 256 0 := ⟨_, rfl⟩
  have hZl : Z.length = 256 := by rw [hZ]; simp
  have hZp : part Z 0 = (Z.map bv).toArray := by rw [hZ]; simp [part, bv]
  have hmk : ∀ W : World, (Instr.makeSlice 39 (.int .i64 256) (.int .i64 256)).run Try.prog W = .ok (.slice (some ⟨W.heap.size, 0, none⟩) 256 256) (W.alloc (.cells (part Z 0) 5)) :=
    make_bytes (P := Try.prog) Try.underlying39 info8 .i64 .i64 256 (by omega) Z hZl
  have HZP := Lib.hid hZp
  clear haa hgz hZ hZp
  go_enter Try.func13, Try.ntmps13
  go_wp2_with fail
  rw [← hwg]
  refine (lcut_any x A0 n0 c0 w.heap.size es true _ (ha.below bg) (by have := HGZ.out; omega)).mono ?_
  rintro e w1 ⟨v1, rfl, hO1, hb1⟩
  rw [← HA.out] at hO1
  obtain ⟨A1, c1, rfl, _, hn1, hm1⟩ := hO1.rd m hma
  have G1 := G0.on hb1
  have P1 := P0.on hb1
  have b1 : Below w.heap.size w w1 := bg.trans (hb1.mono bg.size)
  have cP1 := P1.cell
  have fP1 := P1.frozen
  have zP1 := P1.lt
  clear hwg cP hb1
  go_upto_region 2 with fail
  obtain ⟨wC, hwC⟩ : ∃ wC, wC = (w1.setCell ⟨w.heap.size + 1, 0, none⟩ (.int .u64 x)).setCell ⟨w.heap.size + 1, 1, none⟩ (.slice A1 m c1) := ⟨_, rfl⟩
  have BG : Blk wC w.heap.size 23 #[.int .i64 p, .int .i64 t] := by rw [hwC]; exact (G1.far (by simp) _).far (by simp) _
  have BX : Blk wC (w.heap.size + 1) 49 #[.int .u64 x, .slice A1 m c1] := by rw [hwC]; simpa using (P1.set_ 0 (.int .u64 x)).set_ 1 (.slice A1 m c1)
  have RX : RdR entK w.heap.size 5 wC A1 m a := by
    have h_ := (hO1.set_ P1 (by decide) (by omega) (by have := HGZ.out; omega) 0 (.int .u64 x)).set_ (P1.set_ 0 (.int .u64 x)) (by decide) (by omega) (by have := HGZ.out; omega) 1 (.slice A1 m c1)
    rw [← hwC] at h_
    obtain ⟨A9, c9, e9, R9, _⟩ := h_.rd m hma
    injection e9 with e9
    subst e9
    exact R9
  have bC : Below w.heap.size w wC := by rw [hwC]; exact (by (have q_b1 := Below.size b1; (try simp at q_b1); repeat (first | exact Below.refl _ _ | (refine Below.trans ?_ (Below.mono b1 (by first | omega | (simp; omega) | simp))) | (refine Below.setCell ?_ (by first | omega | (simp; omega) | simp) _) | (refine Below.alloc ?_ (by first | omega | (simp; omega) | simp) _) | apply Below.drew | apply below_drewN)))
  rw [← hwC]
  have hsz : w.heap.size ≤ wC.heap.size := bC.size
  have zBG := BG.lt
  have zBX := BX.lt
  clear hO1 G1 P1 b1 cP1 fP1 zP1 hwC G0 P0 bg
  obtain ⟨wE, hwE⟩ : ∃ wE, wE = wC.alloc (.cells (part Z 0) 5) := ⟨_, rfl⟩
  have hFZ : Fresh 5 wC.heap.size wE (.slice (some ⟨wC.heap.size, 0, none⟩) 256 256) Z := by rw [hwE]; exact Fresh.of_blk (Blk.new wC _ _) (Nat.le_refl _) (by unfold maxLen; omega) hZl HZP.out
  have hzE : wC.heap.size + 1 = wE.heap.size := by rw [hwE]; simp
  have bE : Below wC.heap.size wC wE := by rw [hwE]; exact (by (repeat (first | exact Below.refl _ _ | (refine Below.setCell ?_ (by first | omega | (simp; omega) | simp) _) | (refine Below.alloc ?_ (by first | omega | (simp; omega) | simp) _) | apply Below.drew | apply below_drewN)))
  obtain ⟨wD, hwD⟩ : ∃ wD, wD = wE.alloc (.cells #[.slice (some ⟨wC.heap.size, 0, none⟩) 256 256] 39) := ⟨_, rfl⟩
  have hRZ : RdR ssK w.heap.size 5 wD (some ⟨wE.heap.size, 0, none⟩) 1 [Z] := by
    refine ⟨[(some ⟨wC.heap.size, 0, none⟩, 256, 256)], by rw [hwD]; exact RdG.boxed _ _ _ _ rfl, rfl, fun i h e h1 h2 => ?_⟩
    match i, h1, h2 with
    | 0, h1, h2 =>
      simp at h1 h2
      subst h1 h2
      refine ⟨trivial, ?_, by show 256 ≤ 256; omega, by show 256 ≤ maxLen; unfold maxLen; omega⟩
      rw [hwD]
      exact RdX.below (RdX.fresh hFZ hZl) (by (repeat (first | exact Below.refl _ _ | (refine Below.setCell ?_ (by first | omega | (simp; omega) | simp) _) | (refine Below.alloc ?_ (by first | omega | (simp; omega) | simp) _) | apply Below.drew | apply below_drewN)))
    | _ + 1, h1, h2 => simp at h1
  have bD : Below wC.heap.size wC wD := by rw [hwD]; exact bE.trans ((Below.refl wE.heap.size wE).alloc (Nat.le_refl _) _ |>.mono bE.size)
  have HWE := Lib.hid hwE
  have HWD := Lib.hid hwD
  have HZE := Lib.hid hzE
  have cG := BG.cell
  have cX := BX.cell
  clear hwE hwD hzE hFZ
  go_wp2_with fail
  rw [← HWE.out, HZE.out, ← HWD.out]
  have BGD := BG.on bD
  have BXD := BX.on bD
  have RXD := RX.below bD
  have cGD := BGD.cell
  have cXD := BXD.cell
  refine (rlmay_any p t x A1 m c1 _ _ a _ RXD (by omega)).mono ?_
  rintro e w2 ⟨rfl, hb2⟩
  have b2 := bD.trans (hb2.mono bD.size)
  have BG2 := BGD.on hb2
  have BX2 := BXD.on hb2
  have RX2 := RXD.below hb2
  have RZ2 := hRZ.below hb2
  have cX2 := BX2.cell
  clear cG cX cGD cXD BGD BXD RXD hRZ HWE HWD hmk
  go_upto_if 35 with fail
  go_cut [13] (fun vb wx => (∃ Ab nb cb bl, vb = .slice Ab nb cb ∧ RdR ssK w.heap.size 5 wx Ab nb bl ∧ Blks p t bl) ∧ Below wC.heap.size wC wx)
  case first =>
    cases hM : mayLog p t a with
    | false =>
      go_wp2_with fail
      go_meet
      exact ⟨⟨_, _, _, [Z], rfl, RZ2, Blks.one p t Z hZl⟩, b2⟩
    | true =>
      have hkr := key_range hM
      go_wp2_with fail
      refine (rlenc_any x A1 m c1 w.heap.size a _ RX2 (Nat.le_trans hsz b2.size) (by omega) hx0 hx1 hkr).mono ?_
      rintro e w3 ⟨v3, rfl, hO3, hb3⟩
      obtain ⟨Ab, cb, rfl, hRb, _, _⟩ := hO3.rd _ rfl
      go_wp2_with fail
      go_meet
      exact ⟨⟨_, _, _, encL x a, rfl, hRb, Blks.enc hM (by omega)⟩, b2.trans (hb3.mono b2.size)⟩
  case rest =>
    obtain ⟨⟨Ab, nb, cb, bl, rfl, hRb, hBl⟩, hbc⟩ := hcut
    replace BG := BG.on hbc
    replace bC := bC.trans (hbc.mono bC.size)
    replace hsz := bC.size
    obtain ⟨wr, hwr⟩ : ∃ wr, wr = wc := ⟨_, rfl⟩
    subst hwr
    have hnb := hRb.len
    have cG := BG.cell
    clear hbc b2 BG2 BX2 RX2 RZ2 cX2 bD hb2 BX RX zBG zBX bE
    cases hg : gmay p t with
    | false =>
      have hgr := grmay_any p t wr
      rw [hg] at hgr
      go_wp2_with fail
      refine hgr.mono ?_
      rintro e w3 ⟨rfl, hb3⟩
      have cG3 := (BG.on hb3).cell
      go_wp2_with fail
      refine (lparse_few p t Ab nb cb w3 (.inl hg)).mono ?_
      rintro e w4 ⟨rfl, hb4⟩
      go_wp2_with fail
      refine (lawake_any _).mono ?_
      rintro e w5 ⟨rfl, hb5⟩
      go_wp2_with fail
      go_ret
      exact ⟨rfl, (by (have q_hb5 := Below.size hb5; (try simp at q_hb5); have q_hb4 := Below.size hb4; (try simp at q_hb4); have q_hb3 := Below.size hb3; (try simp at q_hb3); have q_bC := Below.size bC; (try simp at q_bC); repeat (first | exact Below.refl _ _ | (refine Below.trans ?_ (Below.mono hb5 (by first | omega | (simp; omega) | simp))) | (refine Below.trans ?_ (Below.mono hb4 (by first | omega | (simp; omega) | simp))) | (refine Below.trans ?_ (Below.mono hb3 (by first | omega | (simp; omega) | simp))) | (refine Below.trans ?_ (Below.mono bC (by first | omega | (simp; omega) | simp))) | (refine Below.setCell ?_ (by first | omega | (simp; omega) | simp) _) | (refine Below.alloc ?_ (by first | omega | (simp; omega) | simp) _) | apply Below.drew | apply below_drewN)))⟩
    | true =>
      have hgr := grmay_any p t wr
      rw [hg] at hgr
      obtain ⟨hBl1, hBl2, hBl3, hBl4⟩ := hBl
      have hnt := hBl4 hg
      obtain ⟨_, _, ht4, ht24⟩ := gmay_true hg
      rw [hnb] at hnt hBl2 hBl3
      have HG := Lib.hid hg
      clear hg hBl4
      go_wp2_with fail
      refine hgr.mono ?_
      rintro e w3 ⟨rfl, hb3⟩
      have BG3 := BG.on hb3
      have cG3 := BG3.cell
      have b3 := bC.trans (hb3.mono hsz)
      have hFd : Calls Try.prog 53 #[.agg #[.int .i64 p, .int .i64 t], .slice Ab nb cb, .int .u8 7] w3 fun e w' => ∃ v, e = .returned v ∧ OwnR ssK 39 w3.heap.size w.heap.size 5 w' v (bl ++ List.replicate ((1 + t).toNat - nb) (fullL [7])) ∧ Below w3.heap.size w3 w' := filled_any p t Ab nb cb w.heap.size bl 7 w3 (hRb.below hb3) b3.size (by omega) (by omega) (by omega)
      obtain ⟨k1, hk1⟩ : ∃ k1 : Nat, ((k1 + 1 : Nat) : Int) = 1 + t := ⟨t.toNat, by omega⟩
      obtain ⟨FB, hFB⟩ : ∃ FB, FB = bl ++ List.replicate ((1 + t).toNat - nb) (fullL [7]) := ⟨_, rfl⟩
      have hFl : FB.length = k1 + 1 := by rw [hFB, List.length_append, List.length_replicate, hnb]; omega
      have hF256 : ∀ l ∈ FB, l.length = 256 := by
        intro l hl
        rw [hFB] at hl
        rcases List.mem_append.1 hl with h | h
        · exact hBl1 l h
        · rw [List.eq_of_mem_replicate h, fullL_len]
      rw [← hFB] at hFd
      have HK1 := Lib.hid hk1
      have HF256 := Lib.hid hF256
      have hk1b : k1 ≤ 24 ∧ 4 ≤ k1 := by omega
      obtain ⟨hk24, hk4⟩ := hk1b
      clear hFB hBl1 hnt hBl2 hBl3 hF256 hk1 ht4 ht24 cG hgr
      go_wp2_with fail
      refine hFd.mono ?_
      rintro e w4 ⟨v4, rfl, hO4, hb4⟩
      obtain ⟨AF, cF, rfl, hR4, hnF, hmF⟩ := hO4.rd (k1 + 1) hFl
      obtain ⟨gF, curF, rfl, hgF, hBF, hcF⟩ := hO4.openSS hFl (by omega)
      have b4 := b3.trans (hb4.mono b3.size)
      have BG4 := BG3.on hb4
      obtain ⟨bq0, oq0, Ad, nd, cd, L0, eA, hlt0, he0, hc0, hX0, hnd0, hcd0⟩ := hR4.ss (k := 0) (by omega)
      injection eA with eA
      injection eA with eA1 eA2
      subst eA1 eA2
      have hL0 : L0.length = 256 := HF256.out L0 (List.mem_of_getElem? he0)
      obtain rfl : nd = 256 := by rw [← hX0.1.len]; exact hL0
      have hb3z := b3.size
      have zBG3 := BG3.lt
      have hb4z := hb4.size
      clear hFd cG3 hR4 he0
      go_wp2_with (at_builtin; refine wpList_append_bytes _ rfl (.tmp 55) (.tmp 58) _ rfl w4.heap.size 5 Try.underlying39 info8 _ [] rfl (Fresh.of_blk (n := 0) (Blk.new w4 _ #[]) (Nat.le_refl _) (by unfold maxLen; omega) rfl rfl) Ad 256 cd L0 rfl (hX0.1.alloc _) (by simp) (by simp) ?_; intro v5 w5 hF5 hg5 hb5; rw [List.nil_append] at hF5)
      have hb45 : Below w4.heap.size w4 w5 := ((Below.refl w4.heap.size w4).alloc (Nat.le_refl _) _).trans hb5
      obtain ⟨Ag, cg, rfl, _, _, hng, hmg⟩ := hF5.rdn 256 hL0
      obtain ⟨g, cur0, rfl, hgB, _⟩ := hF5.open_ hL0 (by omega)
      go_loopw [62] (fun i wq => ∃ j : Nat, j ≤ ni ∧ i = .int .i64 j ∧ (∃ q, q.length = 256 ∧ Fresh 5 w4.heap.size wq (.slice (some ⟨g, 0, none⟩) 256 cg) q) ∧ Below w4.heap.size w4 wq) (fun i _ => ni - (intOf i).toNat)
      case atStart => exact ⟨0, by omega, rfl, ⟨L0, hL0, hF5⟩, hb45⟩
      case round =>
        clear hF5 hg5 hb5 hb45 hX0 hc0
        obtain ⟨wq, hwq⟩ : ∃ wq, wq = wr := ⟨_, rfl⟩
        subst hwq
        obtain ⟨j, hj, rfl, ⟨q, hql, hFq⟩, hbq0⟩ := hrel
        have hbq := b4.trans (hbq0.mono b4.size)
        obtain ⟨_, _, eq0, hRq, _, _, _⟩ := hFq.rdn 256 hql
        injection eq0 with eq1 eq2 eq3
        subst eq1 eq3
        obtain ⟨g', cur, eg, _, hBlk, hcs, _, _⟩ := hFq.open_ hql (by omega)
        obtain rfl : g = g' := by injection eg with eg; injection eg
        by_cases hji : j < ni
        · obtain ⟨bi, oi, xi, rfl, hbi, hxi, hci2⟩ := (hri.below hbq).i64 hji
          have hji' : (j : Int) < ni := by omega
          by_cases hj6 : j < 6
          · have hj6' : (j : Int) < 6 := by omega
            by_cases hjv : j < nv
            · have hjv' : (j : Int) < nv := by omega
              obtain ⟨bv_, ov, y, rfl, hbv, hyv, hcv2⟩ := (hrv.below hbq).at_ hjv
              have h255 := land255 xi
              obtain ⟨kq, hkq⟩ : ∃ kq : Nat, (kq : Int) = xi % 256 := ⟨(xi % 256).toNat, by omega⟩
              have hk256 : kq < 256 := by omega
              rw [← hkq] at h255
              have cg9 := hBlk.cell
              have fg9 := hBlk.frozen
              obtain ⟨u0, hu0⟩ : ∃ u, cur[kq]? = some u := ⟨_, Array.getElem?_eq_getElem (by omega)⟩
              have hF2 := hFq.set_ hql rfl hBlk kq y hk256
              clear hkq hxi hyv
              go_wp2_with fail
              go_roundw
              case rel => exact ⟨j + 1, by omega, by go_num, ⟨_, by simpa using hql, hF2⟩, (by (have q_hbq0 := Below.size hbq0; (try simp at q_hbq0); repeat (first | exact Below.refl _ _ | (refine Below.trans ?_ (Below.mono hbq0 (by first | omega | (simp; omega) | simp))) | (refine Below.setCell ?_ (by first | omega | (simp; omega) | simp) _) | (refine Below.alloc ?_ (by first | omega | (simp; omega) | simp) _) | apply Below.drew | apply below_drewN)))⟩
              case measure => simp [intOf] <;> omega
            · have hjv' : ¬ (j : Int) < nv := by omega
              go_wp2_with fail
              go_roundw
              case rel => exact ⟨j + 1, by omega, by go_num, ⟨q, hql, hFq⟩, (by (have q_hbq0 := Below.size hbq0; (try simp at q_hbq0); repeat (first | exact Below.refl _ _ | (refine Below.trans ?_ (Below.mono hbq0 (by first | omega | (simp; omega) | simp))) | (refine Below.setCell ?_ (by first | omega | (simp; omega) | simp) _) | (refine Below.alloc ?_ (by first | omega | (simp; omega) | simp) _) | apply Below.drew | apply below_drewN)))⟩
              case measure => simp [intOf] <;> omega
          · have hj6' : ¬ (j : Int) < 6 := by omega
            go_wp2_with fail
            go_roundw
            case rel => exact ⟨j + 1, by omega, by go_num, ⟨q, hql, hFq⟩, (by (have q_hbq0 := Below.size hbq0; (try simp at q_hbq0); repeat (first | exact Below.refl _ _ | (refine Below.trans ?_ (Below.mono hbq0 (by first | omega | (simp; omega) | simp))) | (refine Below.setCell ?_ (by first | omega | (simp; omega) | simp) _) | (refine Below.alloc ?_ (by first | omega | (simp; omega) | simp) _) | apply Below.drew | apply below_drewN)))⟩
            case measure => simp [intOf] <;> omega
        · obtain rfl : j = ni := by omega
          have hOq := hO4.below hbq0
          have hBFq := hBF.on hbq0
          have BGq := BG4.on hbq0
          have cFq := hBFq.cell
          have fFq := hBFq.frozen
          obtain ⟨uF0, huF0⟩ : ∃ u, curF[0]? = some u := ⟨_, Array.getElem?_eq_getElem (by omega)⟩
          have zF := hBF.lt
          have zG := BG4.lt
          have hXq : RdX w.heap.size 5 wq (some ⟨g, 0, none⟩) 256 q := RdX.fresh hFq hql
          have hOs := hOq.setSS hFl rfl hBFq (by decide) (by omega) 0 (by omega) (some ⟨g, 0, none⟩) 256 cg q hXq hng hmg
          have BGs := BGq.far (p := ⟨gF, 0, none⟩) (by show w.heap.size ≠ gF; omega) (.slice (some ⟨g, 0, none⟩) 256 cg)
          have hBFs := hBFq.set_ 0 (.slice (some ⟨g, 0, none⟩) 256 cg)
          have bS : Below w.heap.size w (wq.setCell ⟨gF, 0, none⟩ (.slice (some ⟨g, 0, none⟩) 256 cg)) := hbq.setCell (by show w.heap.size ≤ gF; omega) _
          obtain ⟨wS, hwS⟩ : ∃ wS, wS = wq.setCell ⟨gF, 0, none⟩ (.slice (some ⟨g, 0, none⟩) 256 cg) := ⟨_, rfl⟩
          rw [← hwS] at hOs BGs bS hBFs
          obtain ⟨FS, hFS⟩ : ∃ FS, FS = FB.set 0 q := ⟨_, rfl⟩
          have hFSl : FS.length = k1 + 1 := by rw [hFS]; simpa using hFl
          have HFS256 := Lib.hid (show ∀ l ∈ FS, l.length = 256 by
            intro l hl
            rw [hFS] at hl
            rcases List.mem_or_eq_of_mem_set hl with h | rfl
            · exact HF256.out l h
            · exact hql)
          rw [← hFS] at hOs
          have hcF2 : k1 + 1 ≤ (curF.setIfInBounds 0 (.slice (some ⟨g, 0, none⟩) 256 cg)).size := by simpa using hcF
          have HWS := Lib.hid hwS
          go_upto_if 88 with fail
          rw [← HWS.out]
          have cGs := BGs.cell
          clear hwS hFS hOq hBFq BGq hXq hFq hRq hBlk hbq0 hO4 hBF BG4 hcs hcF cFq fFq huF0
          obtain ⟨curS, hcurS⟩ : ∃ curS, curS = curF.setIfInBounds 0 (.slice (some ⟨g, 0, none⟩) 256 cg) := ⟨_, rfl⟩
          rw [← hcurS] at hBFs hcF2
          have hcur0 : curS[0]? = some (.slice (some ⟨g, 0, none⟩) 256 cg) := by
            rw [hcurS, Array.getElem?_setIfInBounds, if_pos rfl, if_pos (by rw [hcurS] at hcF2; simp at hcF2; omega)]
          clear hcurS
          by_cases hless : 0 < less
          · obtain ⟨hs0, hFG0, hAll0⟩ := hOs
            have hs0l : hs0.length = k1 + 1 := by rw [hAll0.1]; exact hFSl
            obtain ⟨_, _, e0, hRG0, _⟩ := hFG0.rdn (k1 + 1) hs0l
            injection e0 with e01 e02 e03
            subst e01 e03
            have hK1 := HK1.out
            have hP1 := fun W => lparse_few p t (some ⟨gF, 1, none⟩) k1 (cF - 1) W (.inr (by omega))
            have hP2 := fun A c W => lparse_few p t A (k1 + 1 + 1) c W (.inr (by omega))
            unfold ParNo at hP1 hP2
            have zFs := hBFs.lt
            have zGs := BGs.lt
            clear hFG0 hAll0 hK1
            go_wp2_with fail
            refine wp_flz [(fun y_ _ => y_ = .agg #[.int .i64 p, .int .i64 t]), (fun y_ _ => y_ = .slice (some ⟨gF, 0, none⟩) (k1 + 1) cF), (fun y_ _ => y_ = .slice (some ⟨gF, 1, none⟩) k1 (cF - 1)), (fun y_ _ => y_ = .tuple #[.agg #[.int .u64 0, .slice none 0 0], .int .i64 1]), (fun y_ _ => y_ = .tuple #[.agg #[.int .u64 0, .slice none 0 0], .int .i64 1]), (fun y_ _ => y_ = .agg #[.int .u64 0, .slice none 0 0]), (fun y_ _ => y_ = .int .i64 1), IsBoxL 56 wS.heap.size, (fun _ _ => True), (fun y_ _ => y_ = .int .i64 1)] (LKept wS.heap.size (RowOrBox 56 39) 56) (fun (_ : List Value) (_ : World) => True) [8] (by kernel_rfl) (LKept.rel _ _ _) ⟨StabK.eq _ _, StabK.eq _ _, StabK.eq _ _, StabK.eq _ _, StabK.eq _ _, StabK.eq _ _, StabK.eq _ _, IsBoxL.stab, StabK.any _, StabK.eq _ _, trivial⟩ (fun _ _ _ _ _ => trivial) (trivial) (by kernel_rfl) (by kernel_rfl) (by kernel_rfl) (by rfl) ?_ ?_
            · intro kq hkq
              match kq, hkq with
              | 0, _ =>
                refine StepZ.plain _ rfl rfl rfl [(6, none)] (by kernel_rfl) (fun af wf hbw hz hf Kf hKf => ?_)
                obtain ⟨g6, _⟩ := hf
                have h6 : af.tmps[6]?.getD undef = .pointer (some ⟨w.heap.size, 0, none⟩) := g6
                clear g6
                have cB9 := (BGs.drew.on (hbw.kept.toBelow (Nat.le_refl _))).cell
                go_simp
                exact hKf _ _ (Below.refl _ _) rfl
              | 1, _ =>
                refine StepZ.plain _ rfl rfl rfl [(13, none)] (by kernel_rfl) (fun af wf hbw hz hf Kf hKf => ?_)
                obtain ⟨g13, _⟩ := hf
                have h13 : af.tmps[13]?.getD undef = .slice (some ⟨gF, 0, none⟩) (k1 + 1) cF := g13
                clear g13
                go_simp
                exact hKf _ _ (Below.refl _ _) rfl
              | 2, _ =>
                refine StepZ.plain _ rfl rfl rfl [(91, some 1)] (by kernel_rfl) (fun af wf hbw hz hf Kf hKf => ?_)
                obtain ⟨g91, _⟩ := hf
                have h91 : af.tmps[91]?.getD undef = .slice (some ⟨gF, 0, none⟩) (k1 + 1) cF := g91
                clear g91
                have hc2 : ¬ cF = 1 := by omega
                have hle2 : (1 : Int) ≤ (k1 : Int) + 1 := by omega
                go_simp
                exact hKf _ _ (Below.refl _ _) rfl
              | 3, _ =>
                refine StepZ.plain _ rfl rfl rfl [(90, some 0), (92, some 2)] (by kernel_rfl) (fun af wf hbw hz hf Kf hKf => ?_)
                obtain ⟨g90, g92, _⟩ := hf
                have h90 : af.tmps[90]?.getD undef = .agg #[.int .i64 p, .int .i64 t] := g90
                have h92 : af.tmps[92]?.getD undef = .slice (some ⟨gF, 1, none⟩) k1 (cF - 1) := g92
                clear g90 g92
                go_simp
                refine (hP1 _).mono ?_
                rintro e wN ⟨rfl, hb⟩
                exact hKf _ _ (hb) (rfl)
              | 4, _ =>
                refine StepZ.plain _ rfl rfl rfl [(93, some 3)] (by kernel_rfl) (fun af wf hbw hz hf Kf hKf => ?_)
                obtain ⟨g93, _⟩ := hf
                have h93 : af.tmps[93]?.getD undef = .tuple #[.agg #[.int .u64 0, .slice none 0 0], .int .i64 1] := g93
                clear g93
                go_simp
                exact hKf _ _ (Below.refl _ _) rfl
              | 5, _ =>
                refine StepZ.plain _ rfl rfl rfl [(89, some 4)] (by kernel_rfl) (fun af wf hbw hz hf Kf hKf => ?_)
                obtain ⟨g89, _⟩ := hf
                have h89 : af.tmps[89]?.getD undef = .tuple #[.agg #[.int .u64 0, .slice none 0 0], .int .i64 1] := g89
                clear g89
                go_simp
                exact hKf _ _ (Below.refl _ _) rfl
              | 6, _ =>
                refine StepZ.plain _ rfl rfl rfl [(89, some 4)] (by kernel_rfl) (fun af wf hbw hz hf Kf hKf => ?_)
                obtain ⟨g89, _⟩ := hf
                have h89 : af.tmps[89]?.getD undef = .tuple #[.agg #[.int .u64 0, .slice none 0 0], .int .i64 1] := g89
                clear g89
                go_simp
                exact hKf _ _ (Below.refl _ _) rfl
              | 7, _ =>
                refine StepZ.plain _ rfl rfl rfl [] (by kernel_rfl) (fun af wf hbw hz hf Kf hKf => ?_)
                go_simp
                exact hKf _ _ ((Below.refl _ _).alloc (Nat.le_refl _) _) (⟨_, _, rfl, hbw.kept.size, Blk.new _ _ _, rfl⟩)
              | 8, _ =>
                refine StepZ.chain 0 _ rfl rfl rfl [(19, some 7), (94, some 5)] (by kernel_rfl) (fun af wf us hbw hul hiv hlast hf Kf hKf => ?_)
                obtain rfl : us = [] := List.eq_nil_of_length_eq_zero hul
                obtain ⟨g19, g94, _⟩ := hf
                have g19 : IsBoxL 56 wS.heap.size (af.tmps[19]?.getD undef) wf := g19
                obtain ⟨g19, cs19, h19, hg19, hB19, hs19⟩ := g19
                have h94 : af.tmps[94]?.getD undef = .agg #[.int .u64 0, .slice none 0 0] := g94
                clear g94
                have cB9 := hB19.cell
                have fB9 := hB19.frozen
                obtain ⟨u0, hu0⟩ : ∃ u, cs19[0]? = some u := ⟨_, Array.getElem?_eq_getElem (by omega)⟩
                obtain ⟨u1, hu1⟩ : ∃ u, cs19[1]? = some u := ⟨_, Array.getElem?_eq_getElem (by omega)⟩
                have hk1 := (LKept.rel wS.heap.size (RowOrBox 56 39) 56).trans _ _ _ (LKept.setCell hg19 hB19 (.inl ⟨_, _, rfl⟩) 0 (.int .u64 0)) (LKept.setCell hg19 (hB19.set_ 0 (.int .u64 0)) (.inl ⟨_, _, rfl⟩) 1 (.slice none 0 0))
                go_simp
                exact hKf undef _ (hk1) (trivial) (trivial)
              | 9, _ =>
                refine StepZ.plain _ rfl rfl rfl [(95, some 6)] (by kernel_rfl) (fun af wf hbw hz hf Kf hKf => ?_)
                obtain ⟨g95, _⟩ := hf
                have h95 : af.tmps[95]?.getD undef = .int .i64 1 := g95
                clear g95
                go_simp
                exact hKf _ _ (Below.refl _ _) rfl
              | i + 10, h => exact absurd h (by show ¬ (i + 10 < 10); omega)
            · intro af wF hbF hiF hdF hsF hbaseF hfactF
              obtain ⟨T, dsF⟩ := af
              obtain rfl : dsF = _ := hdF
              obtain ⟨us, hul, hiF, hlF⟩ := hiF
              obtain ⟨y0, rfl⟩ := lenz1 hul
              clear hlF hul
              have e20 := hfactF 9 20 (by decide) rfl
              replace e20 : T[20]?.getD undef = .int .i64 1 := e20
              have hT := frame_back T [19, 20, 89, 90, 91, 92, 93, 94, 95] hbaseF hsF (by kernel_rfl)
              simp only [List.foldl_cons, List.foldl_nil, List.setIfInBounds_toArray, List.set_cons_zero, List.set_cons_succ] at hT
              clear hbaseF hfactF hsF
              generalize T[19]?.getD undef = u19 at hT
              rw [e20] at hT; clear e20
              generalize T[89]?.getD undef = u89 at hT
              generalize T[90]?.getD undef = u90 at hT
              generalize T[91]?.getD undef = u91 at hT
              generalize T[92]?.getD undef = u92 at hT
              generalize T[93]?.getD undef = u93 at hT
              generalize T[94]?.getD undef = u94 at hT
              generalize T[95]?.getD undef = u95 at hT
              subst hT
              have hbS := hbF.kept.toBelow (Nat.le_refl _)
              have BGt := BGs.on hbS
              have hBFt := hBFs.on hbS
              have hRGt := hRG0.below hbS
              have bT := bS.trans (hbS.mono bS.size)
              obtain ⟨wT, hwT⟩ : ∃ wT, wT = wF := ⟨_, rfl⟩
              subst hwT
              clear hbF hbS hiF BGs hBFs hRG0 bS hP1
              go_wp2_with fail
              refine wp_flz [(fun y_ _ => y_ = .agg #[.int .i64 p, .int .i64 t]), (fun _ _ => True), (fun y_ _ => y_ = .slice (some ⟨gF, 0, none⟩) (k1 + 1) cF), (fun _ _ => True), (fun y_ _ => y_ = .slice (some ⟨gF, 0, none⟩) (k1 + 1) cF), (fun y_ _ => y_ = .pointer (some ⟨gF, 0, none⟩)), (fun y_ _ => y_ = .slice (some ⟨g, 0, none⟩) 256 cg), IsOneR 39 (.slice (some ⟨g, 0, none⟩) 256 cg), IsLenV (k1 + 1 + 1), (fun y_ _ => y_ = .tuple #[.agg #[.int .u64 0, .slice none 0 0], .int .i64 1]), (fun y_ _ => y_ = .tuple #[.agg #[.int .u64 0, .slice none 0 0], .int .i64 1]), (fun y_ _ => y_ = .agg #[.int .u64 0, .slice none 0 0]), (fun y_ _ => y_ = .int .i64 1), IsBoxL 56 wT.heap.size, (fun _ _ => True), (fun y_ _ => y_ = .int .i64 1)] (LKept wT.heap.size (RowOrBox 56 39) 56) (RowZ 39 wT.heap.size (k1 + 1)) [1, 3, 8, 14] (by kernel_rfl) (LKept.rel _ _ _) ⟨StabK.eq _ _, StabK.any _, StabK.eq _ _, StabK.any _, StabK.eq _ _, StabK.eq _ _, StabK.eq _ _, IsOneR.stab (by decide), IsLenV.stab _, StabK.eq _ _, StabK.eq _ _, StabK.eq _ _, StabK.eq _ _, IsBoxL.stab, StabK.any _, StabK.eq _ _, trivial⟩ (RowZ.stab) (trivial) (by kernel_rfl) (by kernel_rfl) (by kernel_rfl) (by rfl) ?_ ?_
              · intro kq hkq
                match kq, hkq with
                | 0, _ =>
                  refine StepZ.plain _ rfl rfl rfl [(6, none)] (by kernel_rfl) (fun af wf hbw hz hf Kf hKf => ?_)
                  obtain ⟨g6, _⟩ := hf
                  have h6 : af.tmps[6]?.getD undef = .pointer (some ⟨w.heap.size, 0, none⟩) := g6
                  clear g6
                  have cB9 := (BGt.drew.on (hbw.kept.toBelow (Nat.le_refl _))).cell
                  go_simp
                  exact hKf _ _ (Below.refl _ _) rfl
                | 1, _ =>
                  refine StepZ.chain 0 _ rfl rfl rfl [] (by kernel_rfl) (fun af wf us hbw hul hiv hlast hf Kf hKf => ?_)
                  obtain rfl : us = [] := List.eq_nil_of_length_eq_zero hul
                  go_simp
                  exact hKf _ _ ((LKept.rel _ _ _).below _ _ ((Below.refl _ _).alloc (Nat.le_refl _) _)) (⟨_, rfl, hbw.kept.size, Blk.new _ _ _⟩) (trivial)
                | 2, _ =>
                  refine StepZ.plain _ rfl rfl rfl [(13, none)] (by kernel_rfl) (fun af wf hbw hz hf Kf hKf => ?_)
                  obtain ⟨g13, _⟩ := hf
                  have h13 : af.tmps[13]?.getD undef = .slice (some ⟨gF, 0, none⟩) (k1 + 1) cF := g13
                  clear g13
                  go_simp
                  exact hKf _ _ (Below.refl _ _) rfl
                | 3, _ =>
                  refine StepZ.chain 1 _ rfl rfl rfl [(98, some 1), (99, some 2)] (by kernel_rfl) (fun af wf us hbw hul hiv hlast hf Kf hKf => ?_)
                  obtain ⟨y0, rfl⟩ := lenz1 hul
                  have h98 : af.tmps[98]?.getD undef = y0 := hlast 0 1 98 _ rfl rfl rfl
                  obtain ⟨g98, g99, _⟩ := hf
                  have h99 : af.tmps[99]?.getD undef = .slice (some ⟨gF, 0, none⟩) (k1 + 1) cF := g99
                  clear g99
                  obtain ⟨gL, hyL, hgL, hBL⟩ := hiv
                  subst hyL
                  have hRGf := hRGt.drew.on (hbw.kept.toBelow (Nat.le_refl _)) (Nat.le_refl _)
                  refine wp_append_G (E := ssE) wf (.tmp 98) (.tmp 99) _ rfl wT.heap.size 39 Try.underlying51 infoSS rfl (.slice (some ⟨gL, 0, none⟩) 0 0) [] (by simp [Act.eval, h98]) (FreshG.of_blk (n := 0) hBL hgL (by unfold maxLen; omega) rfl rfl) (some ⟨gF, 0, none⟩) (k1 + 1) cF hs0 (by simp [Act.eval, h99]) hRGf (by simp; omega) (by simp; omega) hbw.kept.size ?_; intro v3 w3 hF3 hg3 hb3; rw [List.nil_append] at hF3
                  exact hKf _ _ (LKept.grown hgL hBL (.inr ⟨_, _, rfl, by simp⟩) (by decide) (by simpa [Value.ownBlock] using hg3)) (⟨hs0, hF3, hs0l⟩) (trivial)
                | 4, _ =>
                  refine StepZ.plain _ rfl rfl rfl [(13, none)] (by kernel_rfl) (fun af wf hbw hz hf Kf hKf => ?_)
                  obtain ⟨g13, _⟩ := hf
                  have h13 : af.tmps[13]?.getD undef = .slice (some ⟨gF, 0, none⟩) (k1 + 1) cF := g13
                  clear g13
                  go_simp
                  exact hKf _ _ (Below.refl _ _) rfl
                | 5, _ =>
                  refine StepZ.plain _ rfl rfl rfl [(101, some 4)] (by kernel_rfl) (fun af wf hbw hz hf Kf hKf => ?_)
                  obtain ⟨g101, _⟩ := hf
                  have h101 : af.tmps[101]?.getD undef = .slice (some ⟨gF, 0, none⟩) (k1 + 1) cF := g101
                  clear g101
                  go_simp
                  exact hKf _ _ (Below.refl _ _) rfl
                | 6, _ =>
                  refine StepZ.plain _ rfl rfl rfl [(102, some 5)] (by kernel_rfl) (fun af wf hbw hz hf Kf hKf => ?_)
                  obtain ⟨g102, _⟩ := hf
                  have h102 : af.tmps[102]?.getD undef = .pointer (some ⟨gF, 0, none⟩) := g102
                  clear g102
                  have cB9 := (hBFt.drew.on (hbw.kept.toBelow (Nat.le_refl _))).cell
                  go_simp
                  exact hKf _ _ (Below.refl _ _) rfl
                | 7, _ =>
                  refine StepZ.plain _ rfl rfl rfl [(103, some 6)] (by kernel_rfl) (fun af wf hbw hz hf Kf hKf => ?_)
                  obtain ⟨g103, _⟩ := hf
                  have h103 : af.tmps[103]?.getD undef = .slice (some ⟨g, 0, none⟩) 256 cg := g103
                  clear g103
                  go_simp
                  exact hKf _ _ ((Below.refl _ _).alloc (Nat.le_refl _) _) (⟨_, rfl, Blk.new _ _ _⟩)
                | 8, _ =>
                  refine StepZ.chain 2 _ rfl rfl rfl [(100, some 3), (104, some 7)] (by kernel_rfl) (fun af wf us hbw hul hiv hlast hf Kf hKf => ?_)
                  obtain ⟨y0, y1, rfl⟩ := lenz2 hul
                  have h98 : af.tmps[98]?.getD undef = y0 := hlast 0 1 98 _ rfl rfl rfl
                  have h100 : af.tmps[100]?.getD undef = y1 := hlast 1 3 100 _ rfl rfl rfl
                  obtain ⟨g100, g104, _⟩ := hf
                  have g104 : IsOneR 39 (.slice (some ⟨g, 0, none⟩) 256 cg) (af.tmps[104]?.getD undef) wf := g104
                  obtain ⟨g104, h104, hB104⟩ := g104
                  obtain ⟨hs3, hF3, hl3⟩ := hiv
                  obtain ⟨A3, c3, e3, _, _, _, _⟩ := hF3.rdn (k1 + 1) hl3
                  subst e3
                  obtain ⟨g3, cur3, e3, hg3B, hB3, hs3z, _⟩ := hF3.open_ hl3 (by omega)
                  subst e3
                  have hs3z' : (k1 + 1) * 1 ≤ cur3.size := hs3z
                  have hR104 := RdG.oneBlk (E := ssE) (a := (some ⟨g, 0, none⟩, 256, cg)) hB104 rfl
                  refine wp_append_G (E := ssE) wf (.tmp 100) (.tmp 104) _ rfl wT.heap.size 39 Try.underlying51 infoSS rfl (.slice (some ⟨g3, 0, none⟩) (k1 + 1) c3) hs3 (by simp [Act.eval, h100]) hF3 (some ⟨g104, 0, none⟩) 1 1 [(some ⟨g, 0, none⟩, 256, cg)] (by simp [Act.eval, h104]) hR104 (by rw [hl3]; omega) (by rw [hl3]; omega) hbw.kept.size ?_; intro v8 w8 hF8 hg8 hb8
                  exact hKf _ _ (LKept.grown hg3B hB3 (.inr ⟨_, _, rfl, by omega⟩) (by decide) (by simpa [Value.ownBlock] using hg8)) (trivial) ((by obtain ⟨A9, c9, e9, _⟩ := hF8; exact ⟨A9, c9, by rw [e9]; simp [hl3]⟩))
                | 9, _ =>
                  refine StepZ.plain _ rfl rfl rfl [(97, some 0), (105, some 8)] (by kernel_rfl) (fun af wf hbw hz hf Kf hKf => ?_)
                  obtain ⟨g97, g105, _⟩ := hf
                  have h97 : af.tmps[97]?.getD undef = .agg #[.int .i64 p, .int .i64 t] := g97
                  have g105 : IsLenV (k1 + 1 + 1) (af.tmps[105]?.getD undef) wf := g105
                  obtain ⟨A105, c105, h105⟩ := g105
                  clear g97
                  go_simp
                  refine (hP2 A105 c105 _).mono ?_
                  rintro e wN ⟨rfl, hb⟩
                  exact hKf _ _ (hb) (rfl)
                | 10, _ =>
                  refine StepZ.plain _ rfl rfl rfl [(106, some 9)] (by kernel_rfl) (fun af wf hbw hz hf Kf hKf => ?_)
                  obtain ⟨g106, _⟩ := hf
                  have h106 : af.tmps[106]?.getD undef = .tuple #[.agg #[.int .u64 0, .slice none 0 0], .int .i64 1] := g106
                  clear g106
                  go_simp
                  exact hKf _ _ (Below.refl _ _) rfl
                | 11, _ =>
                  refine StepZ.plain _ rfl rfl rfl [(96, some 10)] (by kernel_rfl) (fun af wf hbw hz hf Kf hKf => ?_)
                  obtain ⟨g96, _⟩ := hf
                  have h96 : af.tmps[96]?.getD undef = .tuple #[.agg #[.int .u64 0, .slice none 0 0], .int .i64 1] := g96
                  clear g96
                  go_simp
                  exact hKf _ _ (Below.refl _ _) rfl
                | 12, _ =>
                  refine StepZ.plain _ rfl rfl rfl [(96, some 10)] (by kernel_rfl) (fun af wf hbw hz hf Kf hKf => ?_)
                  obtain ⟨g96, _⟩ := hf
                  have h96 : af.tmps[96]?.getD undef = .tuple #[.agg #[.int .u64 0, .slice none 0 0], .int .i64 1] := g96
                  clear g96
                  go_simp
                  exact hKf _ _ (Below.refl _ _) rfl
                | 13, _ =>
                  refine StepZ.plain _ rfl rfl rfl [] (by kernel_rfl) (fun af wf hbw hz hf Kf hKf => ?_)
                  go_simp
                  exact hKf _ _ ((Below.refl _ _).alloc (Nat.le_refl _) _) (⟨_, _, rfl, hbw.kept.size, Blk.new _ _ _, rfl⟩)
                | 14, _ =>
                  refine StepZ.chain 3 _ rfl rfl rfl [(21, some 13), (107, some 11)] (by kernel_rfl) (fun af wf us hbw hul hiv hlast hf Kf hKf => ?_)
                  obtain ⟨y0, y1, y2, rfl⟩ := lenz3 hul
                  have h98 : af.tmps[98]?.getD undef = y0 := hlast 0 1 98 _ rfl rfl rfl
                  have h100 : af.tmps[100]?.getD undef = y1 := hlast 1 3 100 _ rfl rfl rfl
                  have h105 : af.tmps[105]?.getD undef = y2 := hlast 2 8 105 _ rfl rfl rfl
                  obtain ⟨g21, g107, _⟩ := hf
                  have g21 : IsBoxL 56 wT.heap.size (af.tmps[21]?.getD undef) wf := g21
                  obtain ⟨g19, cs19, h19, hg19, hB19, hs19⟩ := g21
                  have h107 : af.tmps[107]?.getD undef = .agg #[.int .u64 0, .slice none 0 0] := g107
                  clear g107
                  have h21 := h19
                  have cB9 := hB19.cell
                  have fB9 := hB19.frozen
                  obtain ⟨u0, hu0⟩ : ∃ u, cs19[0]? = some u := ⟨_, Array.getElem?_eq_getElem (by omega)⟩
                  obtain ⟨u1, hu1⟩ : ∃ u, cs19[1]? = some u := ⟨_, Array.getElem?_eq_getElem (by omega)⟩
                  have hk1 := (LKept.rel wT.heap.size (RowOrBox 56 39) 56).trans _ _ _ (LKept.setCell hg19 hB19 (.inl ⟨_, _, rfl⟩) 0 (.int .u64 0)) (LKept.setCell hg19 (hB19.set_ 0 (.int .u64 0)) (.inl ⟨_, _, rfl⟩) 1 (.slice none 0 0))
                  go_simp
                  exact hKf undef _ (hk1) (trivial) (trivial)
                | 15, _ =>
                  refine StepZ.plain _ rfl rfl rfl [(108, some 12)] (by kernel_rfl) (fun af wf hbw hz hf Kf hKf => ?_)
                  obtain ⟨g108, _⟩ := hf
                  have h108 : af.tmps[108]?.getD undef = .int .i64 1 := g108
                  clear g108
                  go_simp
                  exact hKf _ _ (Below.refl _ _) rfl
                | i + 16, h => exact absurd h (by show ¬ (i + 16 < 16); omega)
              · intro af wF hbF hiF hdF hsF hbaseF hfactF
                obtain ⟨T, dsF⟩ := af
                obtain rfl : dsF = _ := hdF
                obtain ⟨us, hul, hiF, hlF⟩ := hiF
                obtain ⟨y0, y1, y2, y3, rfl⟩ := lenz4 hul
                have e98 : T[98]?.getD undef = y0 := hlF 0 1 98 _ rfl rfl rfl
                have e100 : T[100]?.getD undef = y1 := hlF 1 3 100 _ rfl rfl rfl
                have e105 : T[105]?.getD undef = y2 := hlF 2 8 105 _ rfl rfl rfl
                clear hlF hul
                have e22 := hfactF 15 22 (by decide) rfl
                replace e22 : T[22]?.getD undef = .int .i64 1 := e22
                have hT := frame_back T [21, 22, 96, 97, 98, 99, 100, 101, 102, 103, 104, 105, 106, 107, 108] hbaseF hsF (by kernel_rfl)
                simp only [List.foldl_cons, List.foldl_nil, List.setIfInBounds_toArray, List.set_cons_zero, List.set_cons_succ] at hT
                clear hbaseF hfactF hsF
                generalize T[21]?.getD undef = u21 at hT
                rw [e22] at hT; clear e22
                generalize T[96]?.getD undef = u96 at hT
                generalize T[97]?.getD undef = u97 at hT
                rw [e98] at hT; clear e98
                generalize T[99]?.getD undef = u99 at hT
                rw [e100] at hT; clear e100
                generalize T[101]?.getD undef = u101 at hT
                generalize T[102]?.getD undef = u102 at hT
                generalize T[103]?.getD undef = u103 at hT
                generalize T[104]?.getD undef = u104 at hT
                rw [e105] at hT; clear e105
                generalize T[106]?.getD undef = u106 at hT
                generalize T[107]?.getD undef = u107 at hT
                generalize T[108]?.getD undef = u108 at hT
                subst hT
                have hbT := hbF.kept.toBelow (Nat.le_refl _)
                clear hbF hiF
                go_wp2_with fail
                refine (lawake_any _).mono ?_
                rintro e w11 ⟨rfl, hb11⟩
                go_wp2_with fail
                go_ret
                exact ⟨rfl, (by (have q_hb11 := Below.size hb11; (try simp at q_hb11); have q_hbT := Below.size hbT; (try simp at q_hbT); have q_bT := Below.size bT; (try simp at q_bT); repeat (first | exact Below.refl _ _ | (refine Below.trans ?_ (Below.mono hb11 (by first | omega | (simp; omega) | simp))) | (refine Below.trans ?_ (Below.mono hbT (by first | omega | (simp; omega) | simp))) | (refine Below.trans ?_ (Below.mono bT (by first | omega | (simp; omega) | simp))) | (refine Below.setCell ?_ (by first | omega | (simp; omega) | simp) _) | (refine Below.alloc ?_ (by first | omega | (simp; omega) | simp) _) | apply Below.drew | apply below_drewN)))⟩
          · cases short with
            | true =>
              obtain ⟨AFs, cFs, eFs, hRs, _, _⟩ := hOs.rd (k1 + 1) hFSl
              injection eFs with eF1 eF2 eF3
              subst eF1 eF3
              obtain ⟨bk, ok, Ak, nk, ck, Lk, eA, hltk, hek, hck, hXk, hndk, hcdk⟩ := hRs.ss (k := k1) (by omega)
              injection eA with eA
              injection eA with eA1 eA2
              subst eA1 eA2
              obtain rfl : nk = 256 := by rw [← hXk.1.len]; exact HFS256.out Lk (List.mem_of_getElem? hek)
              have hXs : RdX w.heap.size 5 wS Ak 255 (Lk.take 255) := ⟨hXk.1.head 255 (by omega), fun ad _ hA => hXk.2 ad (by omega) hA⟩
              have hO9 := hOs.setSS hFSl rfl hBFs (by decide) (by omega) k1 (by omega) Ak 255 ck (Lk.take 255) hXs (by omega) hcdk
              have hany : (FS.set k1 (Lk.take 255)).any shortB = true := by
                rw [List.any_eq_true]
                refine ⟨Lk.take 255, ?_, ?_⟩
                · exact List.mem_of_getElem? (i := k1) (by rw [List.getElem?_set, if_pos rfl, if_pos (by omega)])
                · have h9 := hXs.1.len
                  simp [shortB]
                  omega
              obtain ⟨A9, c9, e9, hR9, _, _⟩ := hO9.rd (k1 + 1) (by simpa using hFSl)
              injection e9 with e91 e92 e93
              subst e91 e93
              have hSS9 := hR9.toSS
              have bS9 : Below w.heap.size w (wS.setCell ⟨gF, k1, none⟩ (.slice Ak 255 ck)) := bS.setCell (by show w.heap.size ≤ gF; omega) _
              have BG9 := BGs.far (p := ⟨gF, k1, none⟩) (by show w.heap.size ≠ gF; omega) (.slice Ak 255 ck)
              have cFs := hBFs.cell
              have fFs := hBFs.frozen
              obtain ⟨uk, huk⟩ : ∃ u, curS[k1]? = some u := ⟨_, Array.getElem?_eq_getElem (by omega)⟩
              obtain ⟨w9, hw9⟩ : ∃ w9, w9 = wS.setCell ⟨gF, k1, none⟩ (.slice Ak 255 ck) := ⟨_, rfl⟩
              rw [← hw9] at hSS9 bS9 BG9
              have hP := lparse_short p t (some ⟨gF, 0, none⟩) (k1 + 1) cF _ w9 hSS9 HG.out HK1.out hany
              have cG9 := BG9.cell
              have HW9 := Lib.hid hw9
              have hck' : curS[k1]? = some (.slice Ak 256 ck) := by rw [← hck, Nat.zero_add, hBFs.cell]
              clear hw9 hSS9 hO9 hR9 hXs hXk hek hck hRs hOs huk
              go_upto_region 23 with fail
              rw [← HW9.out]
              go_wp2_with fail
              refine hP.mono ?_
              rintro e w10 ⟨rfl, hb10⟩
              go_wp2_with fail
              refine (lawake_any _).mono ?_
              rintro e w11 ⟨rfl, hb11⟩
              go_wp2_with fail
              go_ret
              exact ⟨rfl, (by (have q_hb11 := Below.size hb11; (try simp at q_hb11); have q_hb10 := Below.size hb10; (try simp at q_hb10); have q_bS9 := Below.size bS9; (try simp at q_bS9); repeat (first | exact Below.refl _ _ | (refine Below.trans ?_ (Below.mono hb11 (by first | omega | (simp; omega) | simp))) | (refine Below.trans ?_ (Below.mono hb10 (by first | omega | (simp; omega) | simp))) | (refine Below.trans ?_ (Below.mono bS9 (by first | omega | (simp; omega) | simp))) | (refine Below.setCell ?_ (by first | omega | (simp; omega) | simp) _) | (refine Below.alloc ?_ (by first | omega | (simp; omega) | simp) _) | apply Below.drew | apply below_drewN)))⟩
            | false =>
              obtain ⟨AFs, cFs, eFs, hRs, _, _⟩ := hOs.rd (k1 + 1) hFSl
              injection eFs with eF1 eF2 eF3
              subst eF1 eF3
              obtain ⟨b0, bs0, rfl⟩ : ∃ b0 bs0, FS = b0 :: bs0 := by
                cases FS with
                | nil => simp at hFSl
                | cons b0 bs0 => exact ⟨b0, bs0, rfl⟩
              have hany : (b0 :: bs0).any shortB = false := by
                rw [List.any_eq_false]
                intro l hl
                simp [shortB, HFS256.out l hl]
              have hP := lparse_yes p t (some ⟨gF, 0, none⟩) (k1 + 1) cF b0 bs0 wS hRs.toSS HG.out HK1.out hany
              have hD := fun W h1 h2 => rlparse_any p t (some ⟨gF, 0, none⟩) (k1 + 1) cF w.heap.size b0 bs0 W h1 h2 HG.out HK1.out hany
              obtain ⟨C, hC⟩ : ∃ C, C = parC p t b0 bs0 := ⟨_, rfl⟩
              obtain ⟨S, hS⟩ : ∃ S, S = parS p t b0 bs0 := ⟨_, rfl⟩
              obtain ⟨nS, hnS⟩ : ∃ nS, S.length = nS := ⟨_, rfl⟩
              have hS24 : nS ≤ 1000 := by
                rw [← hnS, hS]
                unfold parS
                split
                · rename_i hgd
                  unfold goodL at hgd
                  have := (of_decide_eq_true hgd).1
                  have := (gmay_true HG.out).2.2.2
                  rw [esB_len]
                  omega
                · simp
              unfold ParsedL at hP
              unfold ParsedD at hD
              rw [← hC, ← hS] at hP
              rw [← hC, ← hS] at hD
              have hE : parE p t b0 bs0 = if goodL p t b0 bs0 = true then 0 else 4 := rfl
              rw [hE] at hP
              have HS9 := Lib.hid (show sameLog C C S S = true by simp [sameLog])
              clear hC hS hE hFSl HFS256 hOs
              cases hgd : goodL p t b0 bs0 with
              | true =>
                rw [hgd, if_pos rfl] at hP
                rw [hgd] at hD
                clear hgd hany
                go_wp2_with fail
                refine hP.mono ?_
                rintro e w6 ⟨v6, rfl, hO6, hb6⟩
                obtain ⟨A6, c6, rfl, hR6, hn6, hm6⟩ := hO6.rd nS hnS
                have B6 := Blk.new w6 56 #[.int .u64 C, .slice A6 nS c6]
                have b6 := bS.trans (hb6.mono bS.size)
                have BG6 := BGs.on hb6
                have cG6 := BG6.cell
                have zG6 := BG6.lt
                have hb67 : Below w6.heap.size w6 (w6.alloc (.cells #[.int .u64 C, .slice A6 nS c6] 56)) := (by (repeat (first | exact Below.refl _ _ | (refine Below.setCell ?_ (by first | omega | (simp; omega) | simp) _) | (refine Below.alloc ?_ (by first | omega | (simp; omega) | simp) _) | apply Below.drew | apply below_drewN)))
                have hRs6 := (hRs.below hb6).below hb67
                have hD7 := hD _ hRs6 (b6.trans (hb67.mono b6.size)).size
                clear hP hO6 hD cGs
                go_wp2_with fail
                refine hD7.mono ?_
                rintro e w8 ⟨v8, rfl, hO8, hb8⟩
                obtain ⟨A8, c8, rfl, hR8, hn8, hm8⟩ := hO8.rd nS hnS
                have B8 := (B6.on hb8).alloc (.cells #[.int .u64 C, .slice A8 nS c8] 49)
                have B9 := Blk.new w8 49 #[.int .u64 C, .slice A8 nS c8]
                have hb89 : Below w8.heap.size w8 (w8.alloc (.cells #[.int .u64 C, .slice A8 nS c8] 49)) := (by (repeat (first | exact Below.refl _ _ | (refine Below.setCell ?_ (by first | omega | (simp; omega) | simp) _) | (refine Below.alloc ?_ (by first | omega | (simp; omega) | simp) _) | apply Below.drew | apply below_drewN)))
                have hR69 := ((hR6.below hb67).below hb8).below hb89
                have hR89 := hR8.below hb89
                have b9 : Below w.heap.size w (w8.alloc (.cells #[.int .u64 C, .slice A8 nS c8] 49)) := (by (have q_hb8 := Below.size hb8; (try simp at q_hb8); have q_b6 := Below.size b6; (try simp at q_b6); repeat (first | exact Below.refl _ _ | (refine Below.trans ?_ (Below.mono hb8 (by first | omega | (simp; omega) | simp))) | (refine Below.trans ?_ (Below.mono b6 (by first | omega | (simp; omega) | simp))) | (refine Below.setCell ?_ (by first | omega | (simp; omega) | simp) _) | (refine Below.alloc ?_ (by first | omega | (simp; omega) | simp) _) | apply Below.drew | apply below_drewN)))
                clear hD7 hO8 B6 cG6
                go_wp2_with fail
                obtain ⟨w9, hw9⟩ : ∃ w9, w9 = w8.alloc (.cells #[.int .u64 C, .slice A8 nS c8] 49) := ⟨_, rfl⟩
                rw [← hw9] at B8 B9 hR69 hR89 b9 ⊢
                clear hw9 hb89
                refine wp_flows [(fun y_ _ => y_ = .int .i64 0), (fun y_ _ => y_ = .bool true), (fun y_ _ => y_ = .bool true), (fun y_ _ => y_ = .bool true), (fun y_ _ => y_ = .bool true), (fun y_ _ => y_ = .bool true), (fun y_ _ => y_ = .bool true), (fun y_ _ => y_ = undef), (fun y_ _ => y_ = undef), (fun y_ _ => y_ = .bool true), (fun y_ _ => y_ = .bool true), (fun y_ _ => y_ = .bool true), (fun y_ _ => y_ = .agg #[.int .u64 C, .slice A6 nS c6]), IsLg 5 C nS S, (fun y_ _ => y_ = .agg #[.int .u64 C, .slice A8 nS c8]), (fun y_ _ => y_ = .bool true), (fun y_ _ => y_ = .bool true), (fun y_ _ => y_ = .bool true), (fun y_ _ => y_ = .bool true), (fun y_ _ => y_ = .bool true), (fun y_ _ => y_ = .bool true)] (by kernel_rfl) ⟨Stab.eq _, Stab.eq _, Stab.eq _, Stab.eq _, Stab.eq _, Stab.eq _, Stab.eq _, Stab.eq _, Stab.eq _, Stab.eq _, Stab.eq _, Stab.eq _, Stab.eq _, IsLg.stab _ _ _ _, Stab.eq _, Stab.eq _, Stab.eq _, Stab.eq _, Stab.eq _, Stab.eq _, Stab.eq _, trivial⟩ (by kernel_rfl) (by rfl) ?_ ?_
                · intro kq hkq
                  match kq, hkq with
                  | 0, _ =>
                    refine StepOk.plain _ 154 rfl rfl rfl [(26, none)] (by kernel_rfl) (fun af wf hbw hf Kf hKf => ?_)
                    obtain ⟨g26, _⟩ := hf
                    have h26 : af.tmps[26]?.getD undef = .int .i64 0 := g26
                    clear g26
                    go_simp
                    exact hKf _ _ (Below.refl _ _) rfl
                  | 1, _ =>
                    refine StepOk.plain _ 155 rfl rfl rfl [(154, some 0)] (by kernel_rfl) (fun af wf hbw hf Kf hKf => ?_)
                    obtain ⟨g154, _⟩ := hf
                    have h154 : af.tmps[154]?.getD undef = .int .i64 0 := g154
                    clear g154
                    go_simp
                    exact hKf _ _ (Below.refl _ _) rfl
                  | 2, _ =>
                    refine StepOk.plain _ 156 rfl rfl rfl [(28, none)] (by kernel_rfl) (fun af wf hbw hf Kf hKf => ?_)
                    obtain ⟨g28, _⟩ := hf
                    have h28 : af.tmps[28]?.getD undef = .bool true := g28
                    clear g28
                    go_simp
                    exact hKf _ _ (Below.refl _ _) rfl
                  | 3, _ =>
                    refine StepOk.plain _ 157 rfl rfl rfl [(155, some 1), (156, some 2)] (by kernel_rfl) (fun af wf hbw hf Kf hKf => ?_)
                    obtain ⟨g155, g156, _⟩ := hf
                    have h155 : af.tmps[155]?.getD undef = .bool true := g155
                    have h156 : af.tmps[156]?.getD undef = .bool true := g156
                    clear g155 g156
                    go_simp
                    exact hKf _ _ (Below.refl _ _) rfl
                  | 4, _ =>
                    refine StepOk.plain _ 158 rfl rfl rfl [(157, some 3)] (by kernel_rfl) (fun af wf hbw hf Kf hKf => ?_)
                    obtain ⟨g157, _⟩ := hf
                    have h157 : af.tmps[157]?.getD undef = .bool true := g157
                    clear g157
                    go_simp
                    exact hKf _ _ (Below.refl _ _) rfl
                  | 5, _ =>
                    refine StepOk.yes _ 159 rfl rfl rfl rfl (fun _ _ h => h) [(28, none)] (by kernel_rfl) (fun af wf hbw hf Kf hKf => ?_)
                    obtain ⟨g28, _⟩ := hf
                    have h28 : af.tmps[28]?.getD undef = .bool true := g28
                    clear g28
                    go_simp
                    exact hKf _ _ (Below.refl _ _) rfl
                  | 6, _ =>
                    refine StepOk.yes _ 160 rfl rfl rfl rfl (fun _ _ h => h) [(159, some 5)] (by kernel_rfl) (fun af wf hbw hf Kf hKf => ?_)
                    obtain ⟨g159, _⟩ := hf
                    have h159 : af.tmps[159]?.getD undef = .bool true := g159
                    clear g159
                    go_simp
                    exact hKf _ _ (Below.refl _ _) rfl
                  | 7, _ => exact StepOk.no _ 161 rfl rfl rfl rfl (fun _ _ h => h) (by decide) (by kernel_rfl) (fun _ => rfl)
                  | 8, _ => exact StepOk.no _ 162 rfl rfl rfl rfl (fun _ _ h => h) (by decide) (by kernel_rfl) (fun _ => rfl)
                  | 9, _ =>
                    refine StepOk.yes _ 163 rfl rfl rfl rfl (fun _ _ h => h) [(160, some 6), (162, some 8)] (by kernel_rfl) (fun af wf hbw hf Kf hKf => ?_)
                    obtain ⟨g160, g162, _⟩ := hf
                    have h160 : af.tmps[160]?.getD undef = .bool true := g160
                    have h162 : af.tmps[162]?.getD undef = undef := g162
                    clear g160 g162
                    go_simp
                    exact hKf _ _ (Below.refl _ _) rfl
                  | 10, _ =>
                    refine StepOk.plain _ 164 rfl rfl rfl [(158, some 4), (163, some 9)] (by kernel_rfl) (fun af wf hbw hf Kf hKf => ?_)
                    obtain ⟨g158, g163, _⟩ := hf
                    have h158 : af.tmps[158]?.getD undef = .bool true := g158
                    have h163 : af.tmps[163]?.getD undef = .bool true := g163
                    clear g158 g163
                    go_simp
                    exact hKf _ _ (Below.refl _ _) rfl
                  | 11, _ =>
                    refine StepOk.plain _ 165 rfl rfl rfl [(164, some 10)] (by kernel_rfl) (fun af wf hbw hf Kf hKf => ?_)
                    obtain ⟨g164, _⟩ := hf
                    have h164 : af.tmps[164]?.getD undef = .bool true := g164
                    clear g164
                    go_simp
                    exact hKf _ _ (Below.refl _ _) rfl
                  | 12, _ =>
                    refine StepOk.yes _ 166 rfl rfl rfl rfl (fun _ _ h => h) [(25, none)] (by kernel_rfl) (fun af wf hbw hf Kf hKf => ?_)
                    obtain ⟨g25, _⟩ := hf
                    have h25 : af.tmps[25]?.getD undef = .pointer (some ⟨w6.heap.size, 0, none⟩) := g25
                    clear g25
                    have cB0 := (Blk.on (Blk.drew (B8)) hbw).cell
                    have cB1 := (Blk.on (Blk.drew (B9)) hbw).cell
                    go_simp
                    exact hKf _ _ (Below.refl _ _) rfl
                  | 13, _ =>
                    refine StepOk.yes _ 167 rfl rfl rfl rfl (fun _ _ h => h) [(166, some 12)] (by kernel_rfl) (fun af wf hbw hf Kf hKf => ?_)
                    obtain ⟨g166, _⟩ := hf
                    have h166 : af.tmps[166]?.getD undef = .agg #[.int .u64 C, .slice A6 nS c6] := g166
                    clear g166
                    go_simp
                    refine (lplain_any C A6 nS c6 0 S _ (RdR.below hR69.drew hbw) (Nat.zero_le _) (by omega)).mono ?_
                    rintro e wN ⟨v, rfl, hO, hb⟩
                    exact hKf _ _ (hb) (IsLg.of hO hnS)
                  | 14, _ =>
                    refine StepOk.yes _ 168 rfl rfl rfl rfl (fun _ _ h => h) [(27, none)] (by kernel_rfl) (fun af wf hbw hf Kf hKf => ?_)
                    obtain ⟨g27, _⟩ := hf
                    have h27 : af.tmps[27]?.getD undef = .pointer (some ⟨w8.heap.size, 0, none⟩) := g27
                    clear g27
                    have cB0 := (Blk.on (Blk.drew (B8)) hbw).cell
                    have cB1 := (Blk.on (Blk.drew (B9)) hbw).cell
                    go_simp
                    exact hKf _ _ (Below.refl _ _) rfl
                  | 15, _ =>
                    refine StepOk.yes _ 169 rfl rfl rfl rfl (fun _ _ h => h) [(167, some 13), (168, some 14)] (by kernel_rfl) (fun af wf hbw hf Kf hKf => ?_)
                    obtain ⟨g167, g168, _⟩ := hf
                    have g167 : IsLg 5 C nS S (af.tmps[167]?.getD undef) wf := g167
                    obtain ⟨A167, c167, B167, h167, hR167, hn167, hm167⟩ := g167
                    have h168 : af.tmps[168]?.getD undef = .agg #[.int .u64 C, .slice A8 nS c8] := g168
                    clear g168
                    go_simp
                    refine (rlogsame_any C C A167 A8 nS nS c167 c8 _ _ _ _ S S _ hR167 (RdR.below hR89.drew hbw) (by omega)).mono ?_
                    rintro e wN ⟨rfl, hb⟩
                    exact hKf _ _ (hb) (congrArg Value.bool HS9.out)
                  | 16, _ =>
                    refine StepOk.plain _ 170 rfl rfl rfl [(165, some 11), (169, some 15)] (by kernel_rfl) (fun af wf hbw hf Kf hKf => ?_)
                    obtain ⟨g165, g169, _⟩ := hf
                    have h165 : af.tmps[165]?.getD undef = .bool true := g165
                    have h169 : af.tmps[169]?.getD undef = .bool true := g169
                    clear g165 g169
                    go_simp
                    exact hKf _ _ (Below.refl _ _) rfl
                  | 17, _ =>
                    refine StepOk.plain _ 171 rfl rfl rfl [(170, some 16)] (by kernel_rfl) (fun af wf hbw hf Kf hKf => ?_)
                    obtain ⟨g170, _⟩ := hf
                    have h170 : af.tmps[170]?.getD undef = .bool true := g170
                    clear g170
                    go_simp
                    exact hKf _ _ (Below.refl _ _) rfl
                  | 18, _ =>
                    refine StepOk.yes _ 172 rfl rfl rfl rfl (fun _ _ h => h) [] (by kernel_rfl) (fun af wf hbw hf Kf hKf => ?_)
                    go_simp
                    refine (lawake_any _).mono ?_
                    rintro e wN ⟨rfl, hb⟩
                    exact hKf _ _ (hb) (rfl)
                  | 19, _ =>
                    refine StepOk.plain _ 173 rfl rfl rfl [(171, some 17), (172, some 18)] (by kernel_rfl) (fun af wf hbw hf Kf hKf => ?_)
                    obtain ⟨g171, g172, _⟩ := hf
                    have h171 : af.tmps[171]?.getD undef = .bool true := g171
                    have h172 : af.tmps[172]?.getD undef = .bool true := g172
                    clear g171 g172
                    go_simp
                    exact hKf _ _ (Below.refl _ _) rfl
                  | 20, _ =>
                    refine StepOk.plain _ 12 rfl rfl rfl [(173, some 19)] (by kernel_rfl) (fun af wf hbw hf Kf hKf => ?_)
                    obtain ⟨g173, _⟩ := hf
                    have h173 : af.tmps[173]?.getD undef = .bool true := g173
                    clear g173
                    go_simp
                    exact hKf _ _ (Below.refl _ _) rfl
                  | i + 21, h => exact absurd h (by show ¬ (i + 21 < 21); omega)
                · intro af wF hbF hdF hsF hbaseF hfactF
                  obtain ⟨T, dsF⟩ := af
                  obtain rfl : dsF = _ := hdF
                  have e12 := hfactF 20 12 (by decide) rfl
                  replace e12 : T[12]?.getD undef = .bool true := e12
                  have hT := frame_back T [12, 154, 155, 156, 157, 158, 159, 160, 161, 162, 163, 164, 165, 166, 167, 168, 169, 170, 171, 172, 173] hbaseF hsF (by kernel_rfl)
                  simp only [List.foldl_cons, List.foldl_nil, List.setIfInBounds_toArray, List.set_cons_zero, List.set_cons_succ] at hT
                  clear hbaseF hfactF hsF
                  rw [e12] at hT; clear e12
                  generalize T[154]?.getD undef = u154 at hT
                  generalize T[155]?.getD undef = u155 at hT
                  generalize T[156]?.getD undef = u156 at hT
                  generalize T[157]?.getD undef = u157 at hT
                  generalize T[158]?.getD undef = u158 at hT
                  generalize T[159]?.getD undef = u159 at hT
                  generalize T[160]?.getD undef = u160 at hT
                  generalize T[161]?.getD undef = u161 at hT
                  generalize T[162]?.getD undef = u162 at hT
                  generalize T[163]?.getD undef = u163 at hT
                  generalize T[164]?.getD undef = u164 at hT
                  generalize T[165]?.getD undef = u165 at hT
                  generalize T[166]?.getD undef = u166 at hT
                  generalize T[167]?.getD undef = u167 at hT
                  generalize T[168]?.getD undef = u168 at hT
                  generalize T[169]?.getD undef = u169 at hT
                  generalize T[170]?.getD undef = u170 at hT
                  generalize T[171]?.getD undef = u171 at hT
                  generalize T[172]?.getD undef = u172 at hT
                  generalize T[173]?.getD undef = u173 at hT
                  subst hT
                  go_wp2_with fail
                  go_ret
                  exact ⟨rfl, b9.trans (hbF.mono b9.size)⟩
              | false =>
                rw [hgd, if_neg (by decide)] at hP
                rw [hgd] at hD
                clear hgd hany
                go_wp2_with fail
                refine hP.mono ?_
                rintro e w6 ⟨v6, rfl, hO6, hb6⟩
                obtain ⟨A6, c6, rfl, hR6, hn6, hm6⟩ := hO6.rd nS hnS
                have B6 := Blk.new w6 56 #[.int .u64 C, .slice A6 nS c6]
                have b6 := bS.trans (hb6.mono bS.size)
                have BG6 := BGs.on hb6
                have cG6 := BG6.cell
                have zG6 := BG6.lt
                have hb67 : Below w6.heap.size w6 (w6.alloc (.cells #[.int .u64 C, .slice A6 nS c6] 56)) := (by (repeat (first | exact Below.refl _ _ | (refine Below.setCell ?_ (by first | omega | (simp; omega) | simp) _) | (refine Below.alloc ?_ (by first | omega | (simp; omega) | simp) _) | apply Below.drew | apply below_drewN)))
                have hRs6 := (hRs.below hb6).below hb67
                have hD7 := hD _ hRs6 (b6.trans (hb67.mono b6.size)).size
                clear hP hO6 hD cGs
                go_wp2_with fail
                refine hD7.mono ?_
                rintro e w8 ⟨v8, rfl, hO8, hb8⟩
                obtain ⟨A8, c8, rfl, hR8, hn8, hm8⟩ := hO8.rd nS hnS
                have B8 := (B6.on hb8).alloc (.cells #[.int .u64 C, .slice A8 nS c8] 49)
                have B9 := Blk.new w8 49 #[.int .u64 C, .slice A8 nS c8]
                have hb89 : Below w8.heap.size w8 (w8.alloc (.cells #[.int .u64 C, .slice A8 nS c8] 49)) := (by (repeat (first | exact Below.refl _ _ | (refine Below.setCell ?_ (by first | omega | (simp; omega) | simp) _) | (refine Below.alloc ?_ (by first | omega | (simp; omega) | simp) _) | apply Below.drew | apply below_drewN)))
                have hR69 := ((hR6.below hb67).below hb8).below hb89
                have hR89 := hR8.below hb89
                have b9 : Below w.heap.size w (w8.alloc (.cells #[.int .u64 C, .slice A8 nS c8] 49)) := (by (have q_hb8 := Below.size hb8; (try simp at q_hb8); have q_b6 := Below.size b6; (try simp at q_b6); repeat (first | exact Below.refl _ _ | (refine Below.trans ?_ (Below.mono hb8 (by first | omega | (simp; omega) | simp))) | (refine Below.trans ?_ (Below.mono b6 (by first | omega | (simp; omega) | simp))) | (refine Below.setCell ?_ (by first | omega | (simp; omega) | simp) _) | (refine Below.alloc ?_ (by first | omega | (simp; omega) | simp) _) | apply Below.drew | apply below_drewN)))
                clear hD7 hO8 B6 cG6
                go_wp2_with fail
                obtain ⟨w9, hw9⟩ : ∃ w9, w9 = w8.alloc (.cells #[.int .u64 C, .slice A8 nS c8] 49) := ⟨_, rfl⟩
                rw [← hw9] at B8 B9 hR69 hR89 b9 ⊢
                clear hw9 hb89
                refine wp_flows [(fun y_ _ => y_ = .int .i64 4), (fun y_ _ => y_ = .bool false), (fun y_ _ => y_ = .bool false), (fun y_ _ => y_ = .bool true), (fun y_ _ => y_ = .bool true), (fun y_ _ => y_ = .bool false), (fun y_ _ => y_ = .bool false), (fun y_ _ => y_ = .int .i64 4), (fun y_ _ => y_ = .bool true), (fun y_ _ => y_ = .bool true), (fun y_ _ => y_ = .bool true), (fun y_ _ => y_ = .bool true), (fun y_ _ => y_ = .agg #[.int .u64 C, .slice A6 nS c6]), IsLg 5 C nS S, (fun y_ _ => y_ = .agg #[.int .u64 C, .slice A8 nS c8]), (fun y_ _ => y_ = .bool true), (fun y_ _ => y_ = .bool true), (fun y_ _ => y_ = .bool true), (fun y_ _ => y_ = .bool true), (fun y_ _ => y_ = .bool true), (fun y_ _ => y_ = .bool true)] (by kernel_rfl) ⟨Stab.eq _, Stab.eq _, Stab.eq _, Stab.eq _, Stab.eq _, Stab.eq _, Stab.eq _, Stab.eq _, Stab.eq _, Stab.eq _, Stab.eq _, Stab.eq _, Stab.eq _, IsLg.stab _ _ _ _, Stab.eq _, Stab.eq _, Stab.eq _, Stab.eq _, Stab.eq _, Stab.eq _, Stab.eq _, trivial⟩ (by kernel_rfl) (by rfl) ?_ ?_
                · intro kq hkq
                  match kq, hkq with
                  | 0, _ =>
                    refine StepOk.plain _ 154 rfl rfl rfl [(26, none)] (by kernel_rfl) (fun af wf hbw hf Kf hKf => ?_)
                    obtain ⟨g26, _⟩ := hf
                    have h26 : af.tmps[26]?.getD undef = .int .i64 4 := g26
                    clear g26
                    go_simp
                    exact hKf _ _ (Below.refl _ _) rfl
                  | 1, _ =>
                    refine StepOk.plain _ 155 rfl rfl rfl [(154, some 0)] (by kernel_rfl) (fun af wf hbw hf Kf hKf => ?_)
                    obtain ⟨g154, _⟩ := hf
                    have h154 : af.tmps[154]?.getD undef = .int .i64 4 := g154
                    clear g154
                    go_simp
                    exact hKf _ _ (Below.refl _ _) rfl
                  | 2, _ =>
                    refine StepOk.plain _ 156 rfl rfl rfl [(28, none)] (by kernel_rfl) (fun af wf hbw hf Kf hKf => ?_)
                    obtain ⟨g28, _⟩ := hf
                    have h28 : af.tmps[28]?.getD undef = .bool false := g28
                    clear g28
                    go_simp
                    exact hKf _ _ (Below.refl _ _) rfl
                  | 3, _ =>
                    refine StepOk.plain _ 157 rfl rfl rfl [(155, some 1), (156, some 2)] (by kernel_rfl) (fun af wf hbw hf Kf hKf => ?_)
                    obtain ⟨g155, g156, _⟩ := hf
                    have h155 : af.tmps[155]?.getD undef = .bool false := g155
                    have h156 : af.tmps[156]?.getD undef = .bool false := g156
                    clear g155 g156
                    go_simp
                    exact hKf _ _ (Below.refl _ _) rfl
                  | 4, _ =>
                    refine StepOk.plain _ 158 rfl rfl rfl [(157, some 3)] (by kernel_rfl) (fun af wf hbw hf Kf hKf => ?_)
                    obtain ⟨g157, _⟩ := hf
                    have h157 : af.tmps[157]?.getD undef = .bool true := g157
                    clear g157
                    go_simp
                    exact hKf _ _ (Below.refl _ _) rfl
                  | 5, _ =>
                    refine StepOk.yes _ 159 rfl rfl rfl rfl (fun _ _ h => h) [(28, none)] (by kernel_rfl) (fun af wf hbw hf Kf hKf => ?_)
                    obtain ⟨g28, _⟩ := hf
                    have h28 : af.tmps[28]?.getD undef = .bool false := g28
                    clear g28
                    go_simp
                    exact hKf _ _ (Below.refl _ _) rfl
                  | 6, _ =>
                    refine StepOk.yes _ 160 rfl rfl rfl rfl (fun _ _ h => h) [(159, some 5)] (by kernel_rfl) (fun af wf hbw hf Kf hKf => ?_)
                    obtain ⟨g159, _⟩ := hf
                    have h159 : af.tmps[159]?.getD undef = .bool false := g159
                    clear g159
                    go_simp
                    exact hKf _ _ (Below.refl _ _) rfl
                  | 7, _ =>
                    refine StepOk.yes _ 161 rfl rfl rfl rfl (fun _ _ h => h) [(26, none)] (by kernel_rfl) (fun af wf hbw hf Kf hKf => ?_)
                    obtain ⟨g26, _⟩ := hf
                    have h26 : af.tmps[26]?.getD undef = .int .i64 4 := g26
                    clear g26
                    go_simp
                    exact hKf _ _ (Below.refl _ _) rfl
                  | 8, _ =>
                    refine StepOk.yes _ 162 rfl rfl rfl rfl (fun _ _ h => h) [(161, some 7)] (by kernel_rfl) (fun af wf hbw hf Kf hKf => ?_)
                    obtain ⟨g161, _⟩ := hf
                    have h161 : af.tmps[161]?.getD undef = .int .i64 4 := g161
                    clear g161
                    go_simp
                    exact hKf _ _ (Below.refl _ _) rfl
                  | 9, _ =>
                    refine StepOk.yes _ 163 rfl rfl rfl rfl (fun _ _ h => h) [(160, some 6), (162, some 8)] (by kernel_rfl) (fun af wf hbw hf Kf hKf => ?_)
                    obtain ⟨g160, g162, _⟩ := hf
                    have h160 : af.tmps[160]?.getD undef = .bool false := g160
                    have h162 : af.tmps[162]?.getD undef = .bool true := g162
                    clear g160 g162
                    go_simp
                    exact hKf _ _ (Below.refl _ _) rfl
                  | 10, _ =>
                    refine StepOk.plain _ 164 rfl rfl rfl [(158, some 4), (163, some 9)] (by kernel_rfl) (fun af wf hbw hf Kf hKf => ?_)
                    obtain ⟨g158, g163, _⟩ := hf
                    have h158 : af.tmps[158]?.getD undef = .bool true := g158
                    have h163 : af.tmps[163]?.getD undef = .bool true := g163
                    clear g158 g163
                    go_simp
                    exact hKf _ _ (Below.refl _ _) rfl
                  | 11, _ =>
                    refine StepOk.plain _ 165 rfl rfl rfl [(164, some 10)] (by kernel_rfl) (fun af wf hbw hf Kf hKf => ?_)
                    obtain ⟨g164, _⟩ := hf
                    have h164 : af.tmps[164]?.getD undef = .bool true := g164
                    clear g164
                    go_simp
                    exact hKf _ _ (Below.refl _ _) rfl
                  | 12, _ =>
                    refine StepOk.yes _ 166 rfl rfl rfl rfl (fun _ _ h => h) [(25, none)] (by kernel_rfl) (fun af wf hbw hf Kf hKf => ?_)
                    obtain ⟨g25, _⟩ := hf
                    have h25 : af.tmps[25]?.getD undef = .pointer (some ⟨w6.heap.size, 0, none⟩) := g25
                    clear g25
                    have cB0 := (Blk.on (Blk.drew (B8)) hbw).cell
                    have cB1 := (Blk.on (Blk.drew (B9)) hbw).cell
                    go_simp
                    exact hKf _ _ (Below.refl _ _) rfl
                  | 13, _ =>
                    refine StepOk.yes _ 167 rfl rfl rfl rfl (fun _ _ h => h) [(166, some 12)] (by kernel_rfl) (fun af wf hbw hf Kf hKf => ?_)
                    obtain ⟨g166, _⟩ := hf
                    have h166 : af.tmps[166]?.getD undef = .agg #[.int .u64 C, .slice A6 nS c6] := g166
                    clear g166
                    go_simp
                    refine (lplain_any C A6 nS c6 0 S _ (RdR.below hR69.drew hbw) (Nat.zero_le _) (by omega)).mono ?_
                    rintro e wN ⟨v, rfl, hO, hb⟩
                    exact hKf _ _ (hb) (IsLg.of hO hnS)
                  | 14, _ =>
                    refine StepOk.yes _ 168 rfl rfl rfl rfl (fun _ _ h => h) [(27, none)] (by kernel_rfl) (fun af wf hbw hf Kf hKf => ?_)
                    obtain ⟨g27, _⟩ := hf
                    have h27 : af.tmps[27]?.getD undef = .pointer (some ⟨w8.heap.size, 0, none⟩) := g27
                    clear g27
                    have cB0 := (Blk.on (Blk.drew (B8)) hbw).cell
                    have cB1 := (Blk.on (Blk.drew (B9)) hbw).cell
                    go_simp
                    exact hKf _ _ (Below.refl _ _) rfl
                  | 15, _ =>
                    refine StepOk.yes _ 169 rfl rfl rfl rfl (fun _ _ h => h) [(167, some 13), (168, some 14)] (by kernel_rfl) (fun af wf hbw hf Kf hKf => ?_)
                    obtain ⟨g167, g168, _⟩ := hf
                    have g167 : IsLg 5 C nS S (af.tmps[167]?.getD undef) wf := g167
                    obtain ⟨A167, c167, B167, h167, hR167, hn167, hm167⟩ := g167
                    have h168 : af.tmps[168]?.getD undef = .agg #[.int .u64 C, .slice A8 nS c8] := g168
                    clear g168
                    go_simp
                    refine (rlogsame_any C C A167 A8 nS nS c167 c8 _ _ _ _ S S _ hR167 (RdR.below hR89.drew hbw) (by omega)).mono ?_
                    rintro e wN ⟨rfl, hb⟩
                    exact hKf _ _ (hb) (congrArg Value.bool HS9.out)
                  | 16, _ =>
                    refine StepOk.plain _ 170 rfl rfl rfl [(165, some 11), (169, some 15)] (by kernel_rfl) (fun af wf hbw hf Kf hKf => ?_)
                    obtain ⟨g165, g169, _⟩ := hf
                    have h165 : af.tmps[165]?.getD undef = .bool true := g165
                    have h169 : af.tmps[169]?.getD undef = .bool true := g169
                    clear g165 g169
                    go_simp
                    exact hKf _ _ (Below.refl _ _) rfl
                  | 17, _ =>
                    refine StepOk.plain _ 171 rfl rfl rfl [(170, some 16)] (by kernel_rfl) (fun af wf hbw hf Kf hKf => ?_)
                    obtain ⟨g170, _⟩ := hf
                    have h170 : af.tmps[170]?.getD undef = .bool true := g170
                    clear g170
                    go_simp
                    exact hKf _ _ (Below.refl _ _) rfl
                  | 18, _ =>
                    refine StepOk.yes _ 172 rfl rfl rfl rfl (fun _ _ h => h) [] (by kernel_rfl) (fun af wf hbw hf Kf hKf => ?_)
                    go_simp
                    refine (lawake_any _).mono ?_
                    rintro e wN ⟨rfl, hb⟩
                    exact hKf _ _ (hb) (rfl)
                  | 19, _ =>
                    refine StepOk.plain _ 173 rfl rfl rfl [(171, some 17), (172, some 18)] (by kernel_rfl) (fun af wf hbw hf Kf hKf => ?_)
                    obtain ⟨g171, g172, _⟩ := hf
                    have h171 : af.tmps[171]?.getD undef = .bool true := g171
                    have h172 : af.tmps[172]?.getD undef = .bool true := g172
                    clear g171 g172
                    go_simp
                    exact hKf _ _ (Below.refl _ _) rfl
                  | 20, _ =>
                    refine StepOk.plain _ 12 rfl rfl rfl [(173, some 19)] (by kernel_rfl) (fun af wf hbw hf Kf hKf => ?_)
                    obtain ⟨g173, _⟩ := hf
                    have h173 : af.tmps[173]?.getD undef = .bool true := g173
                    clear g173
                    go_simp
                    exact hKf _ _ (Below.refl _ _) rfl
                  | i + 21, h => exact absurd h (by show ¬ (i + 21 < 21); omega)
                · intro af wF hbF hdF hsF hbaseF hfactF
                  obtain ⟨T, dsF⟩ := af
                  obtain rfl : dsF = _ := hdF
                  have e12 := hfactF 20 12 (by decide) rfl
                  replace e12 : T[12]?.getD undef = .bool true := e12
                  have hT := frame_back T [12, 154, 155, 156, 157, 158, 159, 160, 161, 162, 163, 164, 165, 166, 167, 168, 169, 170, 171, 172, 173] hbaseF hsF (by kernel_rfl)
                  simp only [List.foldl_cons, List.foldl_nil, List.setIfInBounds_toArray, List.set_cons_zero, List.set_cons_succ] at hT
                  clear hbaseF hfactF hsF
                  rw [e12] at hT; clear e12
                  generalize T[154]?.getD undef = u154 at hT
                  generalize T[155]?.getD undef = u155 at hT
                  generalize T[156]?.getD undef = u156 at hT
                  generalize T[157]?.getD undef = u157 at hT
                  generalize T[158]?.getD undef = u158 at hT
                  generalize T[159]?.getD undef = u159 at hT
                  generalize T[160]?.getD undef = u160 at hT
                  generalize T[161]?.getD undef = u161 at hT
                  generalize T[162]?.getD undef = u162 at hT
                  generalize T[163]?.getD undef = u163 at hT
                  generalize T[164]?.getD undef = u164 at hT
                  generalize T[165]?.getD undef = u165 at hT
                  generalize T[166]?.getD undef = u166 at hT
                  generalize T[167]?.getD undef = u167 at hT
                  generalize T[168]?.getD undef = u168 at hT
                  generalize T[169]?.getD undef = u169 at hT
                  generalize T[170]?.getD undef = u170 at hT
                  generalize T[171]?.getD undef = u171 at hT
                  generalize T[172]?.getD undef = u172 at hT
                  generalize T[173]?.getD undef = u173 at hT
                  subst hT
                  go_wp2_with fail
                  go_ret
                  exact ⟨rfl, b9.trans (hbF.mono b9.size)⟩
end Go.Proofs.Ythepgnankelmeaa
