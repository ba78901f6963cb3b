/- Rows of byte slices that a call has built; the document's Epoch. -/
import Derived.Test.YthepgnankelmeaaSuper6
import Derived.Test.YthepgnankelmeaaFresh
import Derived.Test.YthepgnankelmeaaWord4
import Derived.Laws.AppendOwn
namespace Go.Proofs.Ythepgnankelmeaa
open Go.RowKit

/-- Slices: address, length, room. -/
def ssE : Enc (Option Addr × Nat × Nat) where
  sz := 1
  f x := [.slice x.1 x.2.1 x.2.2]
  len _ := rfl
  pos := by decide
  one x u hu := by simp at hu; subst hu; rfl
theorem infoSS : (Try.prog.info? 39).map (fun i => (i.zero, i.size, i.bytes)) = some (some (.slice none 0 0), 1, 24) := by kernel_rfl
/-- A row of rows of bytes, all the call's own (T1: the byte's type; T2: the slices'). -/
def OwnSS (T1 T2 : TypeId) (B : Nat) (w : World) (v : Value) (ls : List (List UInt8)) : Prop :=
  ∃ bs, FreshG ssE T2 B w v bs ∧ bs.length = ls.length ∧ ∀ (k : Nat) (x : Option Addr × Nat × Nat) (l : List UInt8), bs[k]? = some x → ls[k]? = some l → Fresh T1 B w (.slice x.1 x.2.1 x.2.2) l
section
variable {T1 T2 : TypeId} {B : Nat} {w w' : World} {v : Value} {ls : List (List UInt8)}
theorem OwnSS.nil (w : World) : OwnSS T1 T2 B w (.slice none 0 0) [] := ⟨[], FreshG.nil _ _ _, rfl, fun k x l h => by simp at h⟩
theorem OwnSS.on {B' : Nat} (h : OwnSS T1 T2 B w v ls) (hb : Below B' w w') (hB : w.heap.size ≤ B') : OwnSS T1 T2 B w' v ls := by
  obtain ⟨bs, h1, h2, h3⟩ := h
  exact ⟨bs, h1.on hb hB, h2, fun k x l hx hl => (h3 k x l hx hl).on hb hB⟩
theorem OwnSS.below (h : OwnSS T1 T2 B w v ls) (hb : Below w.heap.size w w') : OwnSS T1 T2 B w' v ls := h.on hb (Nat.le_refl _)
theorem OwnSS.drew (h : OwnSS T1 T2 B w v ls) : OwnSS T1 T2 B w.drew v ls := h
/-- It can be read. -/
theorem OwnSS.rd (h : OwnSS T1 T2 B w v ls) (n : Nat) (hn : ls.length = n) : ∃ A c, v = .slice A n c ∧ RdSS w A n ls ∧ n ≤ c ∧ c ≤ maxLen := by
  obtain ⟨bs, h1, h2, h3⟩ := h
  obtain ⟨A, c, rfl, hR, _, hc, hm⟩ := h1.rdn n (h2.trans hn)
  refine ⟨A, c, rfl, ⟨hn, fun hpos => ?_⟩, hc, hm⟩
  obtain ⟨b, off, e, hlt, hcell⟩ := hR.2 hpos
  refine ⟨b, off, e, hlt, fun k l hl => ?_⟩
  have hk : k < bs.length := by rw [h2]; exact (List.getElem?_eq_some_iff.1 hl).1
  obtain ⟨Ai, ci, e1, hRi, _, hci, hmi⟩ := (h3 k bs[k] l (List.getElem?_eq_getElem hk) hl).rdn l.length rfl
  have := hcell k bs[k] (List.getElem?_eq_getElem hk) 0 (.slice bs[k].1 bs[k].2.1 bs[k].2.2) rfl
  rw [e1] at this
  exact ⟨Ai, ci, by simpa [ssE] using this, hRi, hci, hmi⟩
/-- A row of another type's elements lies elsewhere. -/
theorem own_other {T T' : TypeId} {s s' : Nat} {B B' : Nat} {v v' : Value} {n n' : Nat} {xs xs' : List Value} (h : w.ownsRow B T s v n xs) (h' : w.ownsRow B' T' s' v' n' xs') (hT : T ≠ T') : v.ownBlock = none ∨ v.ownBlock ≠ v'.ownBlock := by
  rcases h.2 with ⟨e, _⟩ | ⟨g, cap, cur, e, _, hh, _⟩
  · left; rw [e]; rfl
  · right
    rcases h'.2 with ⟨e', _⟩ | ⟨g', cap', cur', e', _, hh', _⟩
    · rw [e, e']; intro hx; cases hx
    · rw [e, e']
      intro hx
      injection hx with hx
      have hx : g = g' := hx
      subst hx
      rw [hh] at hh'
      injection hh' with hh'
      injection hh' with _ hh'
      exact hT hh'
/-- One more row is appended. -/
theorem OwnSS.more {w1 : World} (hT : T1 ≠ T2) {bs : List (Option Addr × Nat × Nat)} {x : Option Addr × Nat × Nat} {l : List UInt8}
    (hbs : bs.length = ls.length) (hrow : FreshG ssE T2 B w v bs) (hall : ∀ (k : Nat) (x : Option Addr × Nat × Nat) (l : List UInt8), bs[k]? = some x → ls[k]? = some l → Fresh T1 B w (.slice x.1 x.2.1 x.2.2) l)
    (hl : Fresh T1 B w (.slice x.1 x.2.1 x.2.2) l) {v' : Value} (hF : FreshG ssE T2 B w1 v' (bs ++ [x])) (hg : w.grownBy w1 v.ownBlock) : OwnSS T1 T2 B w1 v' (ls ++ [l]) := by
  obtain ⟨A0, c0, e0, hown0⟩ := hrow
  have keep : ∀ (y : Option Addr × Nat × Nat) (m : List UInt8), Fresh T1 B w (.slice y.1 y.2.1 y.2.2) m → Fresh T1 B w1 (.slice y.1 y.2.1 y.2.2) m := by
    rintro y m ⟨A, c, e, hown⟩
    exact ⟨A, c, e, hown.kept hg (own_other hown hown0 hT)⟩
  refine ⟨bs ++ [x], hF, by simp [hbs], fun k y m hy hm => ?_⟩
  rcases Nat.lt_or_ge k bs.length with hk | hk
  · rw [List.getElem?_append_left hk] at hy
    rw [List.getElem?_append_left (by omega)] at hm
    exact keep _ _ (hall k y m hy hm)
  · rw [List.getElem?_append_right hk] at hy
    rw [List.getElem?_append_right (by omega), ← hbs] at hm
    generalize k - bs.length = q at hy hm
    match q, hy, hm with
    | 0, hy, hm =>
      simp at hy hm
      subst hy hm
      exact keep _ _ hl
    | _ + 1, hy, hm => simp at hy
end
/-- The first row is cut. -/
theorem OwnSS.first {T1 T2 : TypeId} {B : Nat} {w : World} {A : Option Addr} {n c : Nat} {l : List UInt8} {ls : List (List UInt8)} (h : OwnSS T1 T2 B w (.slice A n c) (l :: ls)) (hT : T1 ≠ T2) (hn : (l :: ls).length = n) (m : Nat) (hm : m ≤ l.length) :
    ∃ g Ai ci cur, A = some ⟨g, 0, none⟩ ∧ Blk w g T2 cur ∧ cur[0]? = some (.slice Ai l.length ci) ∧ l.length ≤ ci ∧ ci ≤ maxLen ∧ OwnSS T1 T2 B (w.setCell ⟨g, 0, none⟩ (.slice Ai m ci)) (.slice A n c) (l.take m :: ls) ∧ B ≤ g := by
  obtain ⟨bs, h1, h2, h3⟩ := h
  match bs, h1, h2, h3 with
  | [], _, h2, _ => simp at h2
  | x :: bs, h1, h2, h3 =>
    have hbl : (x :: bs).length = n := h2.trans hn
    have hpos : 0 < n := by rw [← hn]; simp
    obtain ⟨g, cur, hA, hg, hB, hsz, hx, hc⟩ := h1.open_ hbl hpos
    have hF0 := h3 0 x l rfl rfl
    obtain ⟨Ai, ci, e1, hRi, _, hci, hmi⟩ := hF0.rdn l.length rfl
    have hcell : cur[0]? = some (.slice x.1 x.2.1 x.2.2) := by
      have := h1.cells hbl hA hB (k := 0) (j := 0) (a := x) (u := .slice x.1 x.2.1 x.2.2) rfl rfl
      simpa using this
    rw [e1] at hcell
    refine ⟨g, Ai, ci, cur, hA, hB, hcell, hci, hmi, ?_, hg⟩
    have hset := h1.setOne hbl rfl hA hB 0 hpos (Ai, m, ci) (.slice Ai m ci) rfl
    have hgr : w.grownBy (w.setCell ⟨g, 0, none⟩ (.slice Ai m ci)) (some g) := ⟨rfl, rfl, rfl, by simp [World.setCell], fun i _ hi => Below.heap_setCell w _ _ i (fun e => hi (by rw [e]))⟩
    obtain ⟨A0, c0, e0, hown0⟩ := h1
    have hob : Value.ownBlock (.slice A n c) = some g := by rw [hA]; rfl
    have keep : ∀ (y : Option Addr × Nat × Nat) (m2 : List UInt8), Fresh T1 B w (.slice y.1 y.2.1 y.2.2) m2 → Fresh T1 B (w.setCell ⟨g, 0, none⟩ (.slice Ai m ci)) (.slice y.1 y.2.1 y.2.2) m2 := by
      rintro y m2 ⟨A, c, e, hown⟩
      exact ⟨A, c, e, hown.kept hgr (by rw [← hob]; exact own_other hown hown0 hT)⟩
    refine ⟨(Ai, m, ci) :: bs, by simpa using hset, by simpa using h2, fun k y m2 hy hm2 => ?_⟩
    match k, hy, hm2 with
    | 0, hy, hm2 =>
      simp at hy hm2
      subst hy hm2
      have := keep x l hF0
      rw [e1] at this
      exact this.cut_ rfl m hm
    | k + 1, hy, hm2 => exact keep y m2 (h3 (k + 1) y m2 (by simpa using hy) (by simpa using hm2))
theorem flat256_drop : ∀ (ls : List (List UInt8)) (q : Nat) (l : List UInt8), ls.any shortB = false → ls[q]? = some l → l.length = 256 ∧ ∃ r, ls.flatten.drop (256 * q) = l ++ r
  | [], q, l, _, h => by simp at h
  | x :: ls, 0, l, hs, h => by
    rw [List.any_cons, Bool.or_eq_false_iff] at hs
    simp at h
    subst h
    exact ⟨by have := hs.1; unfold shortB at this; simpa using this, ls.flatten, by rw [List.flatten_cons]; rfl⟩
  | x :: ls, q + 1, l, hs, h => by
    rw [List.any_cons, Bool.or_eq_false_iff] at hs
    have hx : x.length = 256 := by have := hs.1; unfold shortB at this; simpa using this
    obtain ⟨h1, r, h2⟩ := flat256_drop ls q l hs.2 (by simpa using h)
    refine ⟨h1, r, ?_⟩
    rw [List.flatten_cons, show 256 * (q + 1) = x.length + 256 * q from by omega, ← List.drop_drop, List.drop_left]
    exact h2
theorem numAt_flat {ls : List (List UInt8)} {k : Nat} {l : List UInt8} (hs : ls.any shortB = false) (h : ls[k / 32]? = some l) : numAt ls.flatten k = getL ((l.drop (8 * (k % 32))).take 8) ∧ l.length = 256 := by
  obtain ⟨h1, r, h2⟩ := flat256_drop ls _ l hs h
  refine ⟨?_, h1⟩
  unfold numAt
  rw [show 8 * k = 256 * (k / 32) + 8 * (k % 32) from by omega, ← List.drop_drop, h2, List.drop_append_of_le_length (by omega), List.take_append_of_le_length (by rw [List.length_drop]; omega)]

set_option maxHeartbeats 1000000 in
theorem repoch_any (A : Option Addr) (n c : Nat) (ls : List (List UInt8)) (k : Nat) (w : World) (hr : RdSS w A n ls) (hn : n ≤ 3) (hk : k < 32 * n) (hs : ls.any shortB = false) :
    Calls Try.prog 45 #[.slice A n c, .int .i64 k] w fun e w' => e = .returned (.int .u64 (numAt ls.flatten k : Int)) ∧ w = w' := by
  obtain ⟨b, off, l, Ai, ci, rfl, hb, hl, hcell, hR, hci, hcm⟩ := hr.at_ (k := k / 32) (by omega)
  obtain ⟨hv, hlen⟩ := numAt_flat hs hl
  obtain ⟨q, hq⟩ : ∃ q, q = k / 32 := ⟨_, rfl⟩
  obtain ⟨m, hm⟩ : ∃ m, m = k % 32 := ⟨_, rfl⟩
  rw [← hq] at hcell hl
  rw [← hm] at hv
  have hm32 : m < 32 := by omega
  have hqn : q < n := by omega
  have e1 : (k : Int).tdiv 32 = (q : Int) := by rw [Int.tdiv_eq_ediv_of_nonneg (by omega)]; omega
  have e2 : (k : Int).tmod 32 = (m : Int) := by rw [Int.tmod_eq_emod_of_nonneg (by omega)]; omega
  have E1 := Lib.hid hv
  have hcut := hR.cut (k := 8 * m) (m := 8 * m + 8) (cap := ci) (by omega) (by omega) (by omega)
  rw [if_neg (by omega), Nat.mul_one, show 8 * m + 8 - 8 * m = 8 from by omega] at hcut
  have hq3 : (q : Int) < n := by omega
  clear hv hs hl hr hq hm
  go_enter Try.func45, Try.ntmps45
  go_wp2_with fail
  refine (rget_any _ _ _ _ _ hcut (by omega) (by omega)).mono ?_
  rintro e w1 ⟨rfl, rfl⟩
  go_wp2_with fail
  go_ret
  refine ⟨ret1 (int_eq ?_), rfl⟩
  rw [E1.out, List.drop_take, show 8 * m + 8 - 8 * m = 8 from by omega, List.take_take]
  rfl
end Go.Proofs.Ythepgnankelmeaa
