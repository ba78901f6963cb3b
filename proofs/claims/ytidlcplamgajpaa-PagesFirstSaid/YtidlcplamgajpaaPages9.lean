/- The walk of the statement PagesRuns. -/
import Derived.Test.YtidlcplamgajpaaPages8
import Derived.Test.YtidlcplamgajpaaKept

namespace Go.Proofs.Ytidlcplamgajpaa
open Go.RowKit

theorem RdG.kept {α : Type} {E : Enc α} {w w' : World} {A : Option Addr} {n : Nat} {l : List α} {gs : List Nat} (h : RdG E w A n l) (hk : Kept gs w w') (hA : ∀ ad, A = some ad → ad.block ∉ gs) : RdG E w' A n l := by
  refine ⟨h.1, fun hn => ?_⟩
  obtain ⟨b, off, e, hlt, hc⟩ := h.2 hn
  have hb := hA _ e
  refine ⟨b, off, e, Nat.lt_of_lt_of_le hlt hk.size, fun k a ha j u hu => ?_⟩
  rw [← hc k a ha j u hu]
  simp [World.cell?, hk.block b hlt hb]
def boolE : Enc Bool where
  sz := 1
  f b := [.bool b]
  len _ := rfl
  pos := by decide
  one b u hu := by simp at hu; subst hu; rfl
theorem infoBool : (Try.prog.info? 4).map (fun i => (i.zero, i.size, i.bytes)) = some (some (.bool false), 1, 1) := by kernel_rfl
theorem FreshG.setB {T : TypeId} {B : Nat} {w : World} {l : List Bool} {A : Option Addr} {n c : Nat} (h : FreshG boolE T B w (.slice A n c) l) (hn : l.length = n) {g : Nat} {cur : Array Value} (hA : A = some ⟨g, 0, none⟩) (hB : Blk w g T cur) (k : Nat) (hk : k < n) (b : Bool) :
    FreshG boolE T B (w.setCell ⟨g, k, none⟩ (.bool b)) (.slice A n c) (l.set k b) := by
  have hsz : n ≤ cur.size := by
    obtain ⟨g', cur', hA', _, hB', hs, _⟩ := h.open_ hn (by omega)
    rw [hA] at hA'
    injection hA' with hA'
    injection hA' with hA'
    subst hA'
    have e : cur = cur' := by unfold Blk at hB hB'; rw [hB] at hB'; injection hB' with hB'; injection hB'
    subst e
    have : n * boolE.sz = n := by show n * 1 = n; omega
    omega
  refine h.turn hn (by omega) hA hB (hB.set_ _ _) (by simp) (by simpa using hn) fun q j x u hq hu => ?_
  have hj : j < 1 := by have := (List.getElem?_eq_some_iff.1 hu).1; rw [boolE.len] at this; exact this
  obtain rfl : j = 0 := by omega
  show (cur.setIfInBounds k (.bool b))[q * 1 + 0]? = some u
  rw [Array.getElem?_setIfInBounds]
  rw [List.getElem?_set] at hq
  by_cases hqk : k = q
  · subst hqk
    rw [if_pos rfl, if_pos (by omega)] at hq
    injection hq with hq
    subst hq
    rw [if_pos (by omega), if_pos (by omega)]
    exact hu
  · rw [if_neg hqk] at hq
    rw [if_neg (by omega)]
    exact h.cells hn hA hB hq hu

/-- Which places the first k runs, and q of the next one, cover. -/
def covB (rs : List (Nat × Nat)) (k q j : Nat) : Bool := (rs.take k).any (fun r => decide (r.1 ≤ j ∧ j < r.1 + r.2)) || (match rs[k]? with | some r => decide (r.1 ≤ j ∧ j < r.1 + q) | none => false)
def marks (rs : List (Nat × Nat)) (s k q : Nat) : List Bool := (List.range s).map (covB rs k q)
theorem marks_len (rs : List (Nat × Nat)) (s k q : Nat) : (marks rs s k q).length = s := by simp [marks]
theorem marks_start (rs : List (Nat × Nat)) (s : Nat) : marks rs s 0 0 = List.replicate s false := by
  apply List.ext_getElem?
  intro i
  unfold marks
  rw [List.getElem?_map, List.getElem?_replicate]
  by_cases h : i < s
  · rw [if_pos h, List.getElem?_range h]
    simp only [Option.map_some, Option.some.injEq]
    unfold covB
    cases rs[0]? with
    | none => rfl
    | some r => simp <;> omega
  · rw [if_neg h, List.getElem?_eq_none (by simpa using h)]; rfl
theorem marks_set {rs : List (Nat × Nat)} {s k q : Nat} {r : Nat × Nat} (hr : rs[k]? = some r) (_hs : r.1 + q < s) : (marks rs s k q).set (r.1 + q) true = marks rs s k (q + 1) := by
  apply List.ext_getElem?
  intro i
  rw [List.getElem?_set, marks_len]
  unfold marks
  rw [List.getElem?_map, List.getElem?_map]
  by_cases h : i < s
  · rw [List.getElem?_range h]
    simp only [Option.map_some]
    by_cases hi : r.1 + q = i
    · subst hi
      rw [if_pos rfl, if_pos h]
      unfold covB
      rw [hr]
      simp
    · rw [if_neg hi]
      congr 1
      unfold covB
      rw [hr]
      simp only []
      congr 1
      rw [Bool.eq_iff_iff]
      simp
      omega
  · have hn : (List.range s)[i]? = none := List.getElem?_eq_none (by simpa using h)
    rw [hn]
    simp only [Option.map_none]
    split <;> first | omega | rfl
theorem marks_next {rs : List (Nat × Nat)} {s k : Nat} {r : Nat × Nat} (hr : rs[k]? = some r) : marks rs s k r.2 = marks rs s (k + 1) 0 := by
  unfold marks
  apply List.map_congr_left
  intro j _
  unfold covB
  rw [hr, take_step hr, List.any_append]
  simp only [List.any_cons, List.any_nil, Bool.or_false]
  cases rs[k + 1]? with
  | none => simp
  | some q =>
    simp
    intro _ h
    omega
/-- Behind all runs: the free ones are marked. -/
theorem marks_end {l : List Pg} {j : Nat} {p : Pg} (hj : l[j]? = some p) : (marks (runsR l l.length) l.length (runsR l l.length).length 0)[j]? = some (freeB p) := by
  have hjl : j < l.length := (List.getElem?_eq_some_iff.1 hj).1
  have h := runs_ok l l.length (Nat.le_refl _)
  unfold marks
  rw [List.getElem?_map, List.getElem?_range hjl]
  simp only [Option.map_some, Option.some.injEq]
  unfold covB
  rw [List.take_of_length_le (Nat.le_refl _), List.getElem?_eq_none (Nat.le_refl _)]
  simp only [Bool.or_false]
  rw [Bool.eq_iff_iff, h.free j p hjl hj, List.any_eq_true]
  simp
/-- Where the run ahead of number k ends. -/
def endR (rs : List (Nat × Nat)) : Nat → Int
  | 0 => -1
  | k + 1 => match rs[k]? with | some r => (r.1 : Int) + r.2 | none => -1
theorem endR_succ {rs : List (Nat × Nat)} {k : Nat} {r : Nat × Nat} (h : rs[k]? = some r) : endR rs (k + 1) = (r.1 : Int) + r.2 := by
  show (match rs[k]? with | some r => (r.1 : Int) + r.2 | none => -1) = _
  rw [h]
theorem endR_lt {l : List Pg} {k : Nat} {r : Nat × Nat} (h : (runsR l l.length)[k]? = some r) : endR (runsR l l.length) k < r.1 := by
  have hok := runs_ok l l.length (Nat.le_refl _)
  cases k with
  | zero => show (-1 : Int) < r.1; omega
  | succ k =>
    obtain ⟨q, hq⟩ : ∃ q, (runsR l l.length)[k]? = some q := ⟨_, List.getElem?_eq_getElem (by have := (List.getElem?_eq_some_iff.1 h).1; omega)⟩
    rw [endR_succ hq]
    have := hok.gap k q r hq h
    omega
/-- First, by the program and by the document. -/
theorem first_both (l : List Pg) (m : Int) : ∃ (b : Bool) (X Y : Int), firstR (runsR l l.length) m = (X, b) ∧ firstFI l m = Y ∧ (b = true → X = Y ∧ 0 ≤ Y) ∧ (b = false → X = 0 ∧ Y = -1) := by
  by_cases h : m ≤ 0
  · refine ⟨false, 0, -1, firstR_none ?_, by unfold firstFI; rw [if_pos h], (fun hx => by cases hx), fun _ => ⟨rfl, rfl⟩⟩
    rw [List.any_eq_false]
    intro x _
    simp [fitB]
    omega
  · obtain ⟨q, rfl⟩ := Int.eq_ofNat_of_zero_le (show 0 ≤ m by omega)
    obtain ⟨b, h1, h2, h3⟩ := first_same l q (by omega)
    have e : firstFI l q = firstF l q := by unfold firstFI; rw [if_neg h]; rfl
    refine ⟨b, _, _, h1, e, fun hb => ?_, fun hb => ?_⟩
    · subst hb; exact ⟨rfl, h3 rfl⟩
    · subst hb; exact ⟨rfl, h2 rfl⟩
theorem first_big (l : List Pg) (m : Int) (h : l.length < m) : firstR (runsR l l.length) m = (0, false) := by
  refine firstR_none ?_
  rw [List.any_eq_false]
  intro r hr
  have := (runs_ok l l.length (Nat.le_refl _)).pos r hr
  simp [fitB]
  omega

set_option maxRecDepth 100000 in
set_option maxHeartbeats 8000000 in
theorem law_runs (A : Option Addr) (n c : Nat) (l0 : List Pg) (m : Int) (w : World) (hr0 : RdG pgE w A n l0) (hnc : n ≤ c) (hc : c ≤ maxLen) (hm : m ≤ 9223372036854775807) :
    Calls Try.prog 3 #[.slice A n c, .int .i64 m] w fun e w' => e = .returned (.bool true) ∧ Below w.heap.size w w' := by
  have hr := hr0.cutTo (min n 70) (by omega)
  obtain ⟨l, hl⟩ : ∃ l, l = l0.take (min n 70) := ⟨_, rfl⟩
  obtain ⟨s, hs⟩ : ∃ s, s = min n 70 := ⟨_, rfl⟩
  rw [← hl, ← hs] at hr
  have hs70 : s ≤ 70 := by omega
  have hsc : s ≤ c := by omega
  have HS := Lib.hid hs
  have hlen := hr.len
  clear hl hs hr0
  go_enter Try.func3, Try.ntmps3
  go_wp2_with fail
  refine (few_any _ _ _ _ hnc hc).mono ?_
  rintro e w1 ⟨rfl, rfl⟩
  rw [← HS.out]
  go_wp2_with fail
  refine (ours_any A s c l _ hr (by omega)).mono ?_
  rintro e w1 ⟨v, rfl, hF1, hb1⟩
  obtain ⟨A1, c1, rfl, hR1, _, hc1, hc2⟩ := hF1.rdn s hlen
  clear hF1
  go_wp2_with fail
  go_loopw [6, 22] (fun v i wr => ∃ k : Nat, k ≤ s ∧ i = .int .i64 k ∧ FreshG boolE 4 w1.heap.size wr v (List.replicate k false) ∧ Below w1.heap.size w1 wr) (fun _ i _ => s - (intOf i).toNat)
  case atStart => exact ⟨0, by omega, rfl, FreshG.nil _ _ _, Below.refl _ _⟩
  case round =>
    obtain ⟨k, hk, rfl, hF, hbel⟩ := hrel
    have hbz := hbel.size
    by_cases hlt : k < s
    · go_wp2_with (at_builtin; refine wpList_append_G (E := boolE) _ rfl (.tmp 24) (.tmp 25) _ rfl w1.heap.size 4 Try.underlying26 infoBool rfl _ _ rfl (hF.alloc _) _ _ _ [false] rfl (RdG.boxed _ _ false _ rfl) (by simp; omega) (by simp; omega) (by simp; omega) ?_; intro b' w3 hF3 hg3 hb3)
      go_roundw
      case rel => exact ⟨k + 1, by omega, by go_num, by rw [List.replicate_succ']; exact hF3, (by (have q_hb3 := Below.size hb3; (try simp at q_hb3); have q_hbel := Below.size hbel; (try simp at q_hbel); repeat (first | exact Below.refl _ _ | (refine Below.trans ?_ (Below.mono hb3 (by first | omega | (simp; omega) | simp))) | (refine Below.trans ?_ (Below.mono hbel (by first | omega | (simp; omega) | simp))) | (refine Below.setCell ?_ (by first | omega | (simp; omega) | simp) _) | (refine Below.alloc ?_ (by first | omega | (simp; omega) | simp) _) | apply Below.drew | apply below_drewN)))⟩
      case measure => simp [intOf] <;> omega
    · obtain rfl : k = s := by omega
      obtain ⟨A6, c6, rfl, _, _, hc61, hc62⟩ := hF.rdn k (by simp)
      have hblk := hF.block
      obtain ⟨wo, rfl⟩ : ∃ wo : World, wo = wr := ⟨_, rfl⟩
      go_wp2_with fail
      refine (runs_any A1 k c1 l _ (hR1.below hbel) (by omega)).mono ?_
      rintro e w2 ⟨vr, rfl, hFr, hb2⟩
      have hrb := runs_bound l k
      obtain ⟨rs, hrs⟩ : ∃ rs, rs = runsR l k := ⟨_, rfl⟩
      rw [← hrs] at hFr hrb
      have HRS := Lib.hid (show rs = runsR l l.length by rw [hlen]; exact hrs)
      clear hrs
      obtain ⟨q, hq⟩ : ∃ q, q = rs.length := ⟨_, rfl⟩
      obtain ⟨Ar, cr, rfl, hRr, _, hcr1, hcr2⟩ := hFr.rdn q hq.symm
      have HQ := Lib.hid hq
      rw [← hq] at hrb
      clear hq
      have hF2 := hF.below hb2
      have hb12 : Below w1.heap.size w1 w2 := (by (have q_hb2 := Below.size hb2; (try simp at q_hb2); have q_hbel := Below.size hbel; (try simp at q_hbel); repeat (first | exact Below.refl _ _ | (refine Below.trans ?_ (Below.mono hb2 (by first | omega | (simp; omega) | simp))) | (refine Below.trans ?_ (Below.mono hbel (by first | omega | (simp; omega) | simp))) | (refine Below.setCell ?_ (by first | omega | (simp; omega) | simp) _) | (refine Below.alloc ?_ (by first | omega | (simp; omega) | simp) _) | apply Below.drew | apply below_drewN)))
      have hbw2 : Below w.heap.size w w2 := (by (have q_hb12 := Below.size hb12; (try simp at q_hb12); have q_hb1 := Below.size hb1; (try simp at q_hb1); repeat (first | exact Below.refl _ _ | (refine Below.trans ?_ (Below.mono hb12 (by first | omega | (simp; omega) | simp))) | (refine Below.trans ?_ (Below.mono hb1 (by first | omega | (simp; omega) | simp))) | (refine Below.setCell ?_ (by first | omega | (simp; omega) | simp) _) | (refine Below.alloc ?_ (by first | omega | (simp; omega) | simp) _) | apply Below.drew | apply below_drewN)))
      have hzr : wo.heap.size ≤ w2.heap.size := hb2.size
      have hM0 : FreshG boolE 4 w1.heap.size w2 (.slice A6 k c6) (marks rs k 0 0) := by rw [marks_start]; exact hF2
      have hblr := hFr.block
      obtain ⟨gs, hg1, hg2⟩ : ∃ gs : List Nat, (∀ ad, A6 = some ad → ad.block ∈ gs) ∧ ∀ x ∈ gs, w1.heap.size ≤ x ∧ x < wo.heap.size := by
        cases A6 with
        | none => exact ⟨[], fun ad h => (by cases h), fun x h => (by simp at h)⟩
        | some a => exact ⟨[a.block], fun ad h => (by injection h with h; subst h; simp), fun x h => (by simp at h; subst h; exact hblk _ rfl)⟩
      have hgr : ∀ ad, Ar = some ad → ad.block ∉ gs := fun ad h hx => by
        subst h
        have h1 := (hblr _ rfl).1
        have h2 := (hg2 _ hx).2
        omega
      unfold maxLen at hc2 hcr2 hc62
      have hw1 := hb1.size
      have hlow : ∀ {wX : World}, Kept gs w2 wX → Below w1.heap.size w1 wX := fun hK => hb12.trans (hK.below hb12.size (fun x hx => (hg2 x hx).1))
      clear hF hF2 hFr hblk hblr hbel hb2
      go_wp2_with fail
      go_loopw [7, 31] (fun e i wx => ∃ j : Nat, j ≤ q ∧ i = .int .i64 j ∧ e = .int .i64 (endR rs j) ∧ FreshG boolE 4 w1.heap.size wx (.slice A6 k c6) (marks rs k j 0) ∧ Kept gs w2 wx) (fun _ i _ => q - (intOf i).toNat)
      case atStart => exact ⟨0, by omega, rfl, rfl, hM0, .refl _ _⟩
      case round =>
        clear hM0
        obtain ⟨wx, rfl⟩ : ∃ wx : World, wx = wr := ⟨_, rfl⟩
        obtain ⟨j, hj, rfl, rfl, hM, hK⟩ := hrel
        by_cases hjq : j < q
        · obtain ⟨b, off, r, rfl, hbk, hrj, hcell⟩ := (hRr.kept hK hgr).at_ hjq
          have c0 := hcell 0 _ rfl
          have c1' := hcell 1 _ rfl
          simp only [show runE.sz = 2 from rfl, Nat.add_zero] at c0 c1'
          have hok := runs_ok l l.length (Nat.le_refl _)
          rw [← HRS.out] at hok
          obtain ⟨p1, p2⟩ := hok.pos r (List.mem_of_getElem? hrj)
          have hend : endR rs j < r.1 := by have := hrj; rw [HRS.out] at this ⊢; exact endR_lt this
          rw [hlen] at p2
          have hE1 := Lib.hid (endR_succ hrj)
          have hN1 := Lib.hid (marks_next (s := k) hrj)
          have HRJ := Lib.hid hrj
          have hz := hK.size
          clear hcell hok hrj
          obtain ⟨E0, hE0⟩ : ∃ E0, E0 = endR rs j := ⟨_, rfl⟩
          rw [← hE0] at hend ⊢
          clear hE0
          have p3 : ((r.1 : Int) + r.2) ≤ k := by omega
          have p4 : (1 : Int) ≤ r.2 := by omega
          have p5 : ¬ ((k : Int) < (r.1 : Int) + r.2) := by omega
          have hKa : Kept gs w2 (wx.alloc (.cells #[.int .i64 (r.1 : Int), .int .i64 (r.2 : Int)] 30)) := hK.alloc _
          have hMa := hM.alloc (.cells #[.int .i64 (r.1 : Int), .int .i64 (r.2 : Int)] 30)
          have Ba := Blk.new wx 30 #[.int .i64 (r.1 : Int), .int .i64 (r.2 : Int)]
          have hgn : wx.heap.size ∉ gs := fun h => by have := (hg2 _ h).2; omega
          go_wp2_with fail
          go_loopw [10] (fun i wr => ∃ y : Nat, y ≤ r.2 ∧ i = .int .i64 ((r.1 : Int) + y) ∧ FreshG boolE 4 w1.heap.size wr (.slice A6 k c6) (marks rs k j y) ∧ Kept gs w2 wr ∧ Blk wr wx.heap.size 30 #[.int .i64 (r.1 : Int), .int .i64 (r.2 : Int)]) (fun i _ => r.1 + r.2 - (intOf i).toNat)
          case atStart => exact ⟨0, by omega, by simp, hMa, hKa, Ba⟩
          case round =>
            clear hMa hKa Ba c0 c1'
            obtain ⟨y, hy, rfl, hMy, hKy, hBy⟩ := hrel
            have cB := hBy.cell
            have zB := hBy.lt
            by_cases hyl : y < r.2
            · obtain ⟨g, cur, rfl, hg, hB, hs6, _, _⟩ := hMy.open_ (marks_len _ _ _ _) (by omega)
              have hset := hMy.setB (marks_len _ _ _ _) rfl hB (r.1 + y) (by omega) true
              rw [marks_set HRJ.out (by omega)] at hset
              have hsk : k ≤ cur.size := by have : k * boolE.sz = k := by show k * 1 = k; omega
                                            omega
              obtain ⟨u, hu⟩ : ∃ u, cur[r.1 + y]? = some u := ⟨_, Array.getElem?_eq_getElem (by omega)⟩
              have cc := (hB.cell (r.1 + y)).trans hu
              have ff := hB.frozen
              have q6 : ((r.1 : Int) + y).toNat = r.1 + y := by omega
              have q7 : (0 : Int) ≤ (r.1 : Int) + y := by omega
              have q8 : (r.1 : Int) + y < k := by omega
              have hgg : g ∈ gs := hg1 _ rfl
              have hne : wx.heap.size ≠ g := fun e => hgn (e ▸ hgg)
              clear hu hMy
              go_wp2_with fail
              go_roundw
              case rel => exact ⟨y + 1, by omega, int_eq (by omega), hset, hKy.setCell hgg _, hBy.far hne _⟩
              case measure => simp [intOf]; omega
            · obtain rfl : y = r.2 := by omega
              rw [hN1.out] at hMy
              go_wp2_with fail
              go_roundw
              case rel => exact ⟨j + 1, by omega, by go_num, by rw [hE1.out], hMy, hKy⟩
              case measure => simp [intOf] <;> omega
        · obtain rfl : j = q := by omega
          have hend0 : ∀ (i : Nat) (p : Pg), l[i]? = some p → (marks rs k j 0)[i]? = some (freeB p) := fun i p hp => by
            have := marks_end hp
            rw [← HRS.out, hlen, ← HQ.out] at this
            exact this
          have hend := Lib.hid hend0
          clear hend0
          have hbX : Below w1.heap.size w1 wx := hlow hK
          have hbW : Below w.heap.size w wx := (by (have q_hbX := Below.size hbX; (try simp at q_hbX); have q_hb1 := Below.size hb1; (try simp at q_hb1); repeat (first | exact Below.refl _ _ | (refine Below.trans ?_ (Below.mono hbX (by first | omega | (simp; omega) | simp))) | (refine Below.trans ?_ (Below.mono hb1 (by first | omega | (simp; omega) | simp))) | (refine Below.setCell ?_ (by first | omega | (simp; omega) | simp) _) | (refine Below.alloc ?_ (by first | omega | (simp; omega) | simp) _) | apply Below.drew | apply below_drewN)))
          have hRl := hr.below hbW
          have hRm := hR1.below hbX
          clear hRr hg1 hg2 hgr hb12 hbw2 hr hR1 hK
          go_wp2_with fail
          go_loopw [81] (fun i wr => ∃ y : Nat, y ≤ k ∧ i = .int .i64 y ∧ Below wx.heap.size wx wr) (fun i _ => k - (intOf i).toNat)
          case atStart => exact ⟨0, by omega, rfl, Below.refl _ _⟩
          case round =>
            obtain ⟨y, hy, rfl, hby⟩ := hrel
            by_cases hyk : y < k
            · obtain ⟨b, off, p, rfl, hbk, hp, hcell⟩ := (hRl.below hby).at_ hyk
              have d0 := hcell 0 _ rfl
              have d1 := hcell 1 _ rfl
              have d2 := hcell 2 _ rfl
              have d3 := hcell 3 _ rfl
              have d4 := hcell 4 _ rfl
              simp only [show pgE.sz = 5 from rfl, Nat.add_zero] at d0 d1 d2 d3 d4
              obtain ⟨g, cur, rfl, hg, hB, hs6, _, _⟩ := (hM.below hby).open_ (marks_len _ _ _ _) (by omega)
              have cf : wr.cell? ⟨g, y, none⟩ = some (.bool (freeB p)) := by
                have h1 := (hM.below hby).cells (marks_len _ _ _ _) rfl hB (k := y) (j := 0) (a := freeB p) (u := .bool (freeB p)) (hend.out y p hp) rfl
                have h2 : y * boolE.sz + 0 = y := by show y * 1 + 0 = y; omega
                rw [h2] at h1
                exact (hB.cell y).trans h1
              have Bp := Blk.new wr 33 #[.int .i64 p.1, .int .i64 p.2.1, .int .i64 p.2.2.1, .int .i64 p.2.2.2.1, .int .u64 p.2.2.2.2]
              have hzg := hB.lt
              obtain ⟨fb, hfb⟩ : ∃ fb, fb = freeB p := ⟨_, rfl⟩
              rw [← hfb] at cf
              have HFB := Lib.hid (show eqPg (p.1, p.2.1, p.2.2.1, p.2.2.2.1, p.2.2.2.2) (0, 0, 0, 0, 0) = fb by rw [hfb]; rfl)
              clear hfb hcell hp hB
              go_wp2_with fail
              have qy : (y : Int) < k := by omega
              have cfa : (wr.alloc (.cells #[.int .i64 p.1, .int .i64 p.2.1, .int .i64 p.2.2.1, .int .i64 p.2.2.2.1, .int .u64 p.2.2.2.2] 33)).cell? ⟨g, y, none⟩ = some (.bool fb) := by
                rw [(Below.alloc (Below.refl _ wr) (Nat.le_refl _) _).cell (p := ⟨g, y, none⟩) hzg]; exact cf
              have zga : g < (wr.alloc (.cells #[.int .i64 p.1, .int .i64 p.2.1, .int .i64 p.2.2.1, .int .i64 p.2.2.2.1, .int .u64 p.2.2.2.2] 33)).heap.size := by simp; omega
              refine wp_flows [(fun y_ _ => y_ = .slice (some ⟨g, 0, none⟩) k c6), (fun y_ _ => y_ = .int .i64 (y : Int)), (fun y_ _ => y_ = .pointer (some ⟨g, y, none⟩)), (fun y_ _ => y_ = .bool fb), (fun y_ _ => y_ = .agg #[.int .i64 p.1, .int .i64 p.2.1, .int .i64 p.2.2.1, .int .i64 p.2.2.2.1, .int .u64 p.2.2.2.2]), (fun y_ _ => y_ = .agg #[.int .i64 0, .int .i64 0, .int .i64 0, .int .i64 0, .int .u64 0]), (fun y_ _ => y_ = .bool fb), (fun y_ _ => y_ = .bool false)] (by kernel_rfl) ⟨Stab.eq _, Stab.eq _, Stab.eq _, Stab.eq _, Stab.eq _, Stab.eq _, Stab.eq _, Stab.eq _, trivial⟩ (by kernel_rfl) (by rfl) ?_ ?_
              · intro kq hkq
                match kq, hkq with
                | 0, _ =>
                  refine StepOk.plain _ 86 rfl rfl rfl [(6, none)] (by kernel_rfl) (fun af wf hbw hf Kf hKf => ?_)
                  obtain ⟨g6, _⟩ := hf
                  have h6 : af.tmps[6]?.getD undef = .slice (some ⟨g, 0, none⟩) k c6 := g6
                  clear g6
                  go_simp
                  exact hKf _ _ (Below.refl _ _) rfl
                | 1, _ =>
                  refine StepOk.plain _ 87 rfl rfl rfl [(11, none)] (by kernel_rfl) (fun af wf hbw hf Kf hKf => ?_)
                  obtain ⟨g11, _⟩ := hf
                  have h11 : af.tmps[11]?.getD undef = .int .i64 (y : Int) := g11
                  clear g11
                  go_simp
                  exact hKf _ _ (Below.refl _ _) rfl
                | 2, _ =>
                  refine StepOk.plain _ 88 rfl rfl rfl [(86, some 0), (87, some 1)] (by kernel_rfl) (fun af wf hbw hf Kf hKf => ?_)
                  obtain ⟨g86, g87, _⟩ := hf
                  have h86 : af.tmps[86]?.getD undef = .slice (some ⟨g, 0, none⟩) k c6 := g86
                  have h87 : af.tmps[87]?.getD undef = .int .i64 (y : Int) := g87
                  clear g86 g87
                  go_simp
                  exact hKf _ _ (Below.refl _ _) rfl
                | 3, _ =>
                  refine StepOk.plain _ 89 rfl rfl rfl [(88, some 2)] (by kernel_rfl) (fun af wf hbw hf Kf hKf => ?_)
                  obtain ⟨g88, _⟩ := hf
                  have h88 : af.tmps[88]?.getD undef = .pointer (some ⟨g, y, none⟩) := g88
                  clear g88
                  have cB0 := (Blk.on (Blk.drew (Bp)) hbw).cell
                  have hcx := (Below.cell (p := ⟨g, y, none⟩) hbw zga).trans cfa
                  go_simp
                  exact hKf _ _ (Below.refl _ _) rfl
                | 4, _ =>
                  refine StepOk.plain _ 90 rfl rfl rfl [(12, none)] (by kernel_rfl) (fun af wf hbw hf Kf hKf => ?_)
                  obtain ⟨g12, _⟩ := hf
                  have h12 : af.tmps[12]?.getD undef = .pointer (some ⟨wr.heap.size, 0, none⟩) := g12
                  clear g12
                  have cB0 := (Blk.on (Blk.drew (Bp)) hbw).cell
                  go_simp
                  exact hKf _ _ (Below.refl _ _) rfl
                | 5, _ =>
                  refine StepOk.plain _ 91 rfl rfl rfl [] (by kernel_rfl) (fun af wf hbw hf Kf hKf => ?_)
                  go_simp
                  exact hKf _ _ (Below.refl _ _) rfl
                | 6, _ =>
                  refine StepOk.plain _ 92 rfl rfl rfl [(90, some 4), (91, some 5)] (by kernel_rfl) (fun af wf hbw hf Kf hKf => ?_)
                  obtain ⟨g90, g91, _⟩ := hf
                  have h90 : af.tmps[90]?.getD undef = .agg #[.int .i64 p.1, .int .i64 p.2.1, .int .i64 p.2.2.1, .int .i64 p.2.2.2.1, .int .u64 p.2.2.2.2] := g90
                  have h91 : af.tmps[91]?.getD undef = .agg #[.int .i64 0, .int .i64 0, .int .i64 0, .int .i64 0, .int .u64 0] := g91
                  clear g90 g91
                  have hqq : ∀ W : World, (binOp .eql 33 (.agg #[.int .i64 p.1, .int .i64 p.2.1, .int .i64 p.2.2.1, .int .i64 p.2.2.2.1, .int .u64 p.2.2.2.2]) (.agg #[.int .i64 0, .int .i64 0, .int .i64 0, .int .i64 0, .int .u64 0])).run Try.prog W = .ok (.bool fb) W := fun W => by rw [← HFB.out]; exact run_eql_rp _ _ _ _ _ _ _ _ _ _ W
                  go_simp
                  exact hKf _ _ (Below.refl _ _) rfl
                | 7, _ =>
                  refine StepOk.plain _ 93 rfl rfl rfl [(89, some 3), (92, some 6)] (by kernel_rfl) (fun af wf hbw hf Kf hKf => ?_)
                  obtain ⟨g89, g92, _⟩ := hf
                  have h89 : af.tmps[89]?.getD undef = .bool fb := g89
                  have h92 : af.tmps[92]?.getD undef = .bool fb := g92
                  clear g89 g92
                  go_simp
                  exact hKf _ _ (Below.refl _ _) rfl
                | i + 8, h => exact absurd h (by show ¬ (i + 8 < 8); omega)
              · intro af wF hbF hdF hsF hbaseF hfactF
                obtain ⟨T, dsF⟩ := af
                obtain rfl : dsF = _ := hdF
                have e0 := hbaseF 0 (not_dst (by kernel_rfl))
                simp only [List.getElem?_toArray, List.getElem?_cons_zero, Option.getD_some] at e0
                have e1 := hbaseF 1 (not_dst (by kernel_rfl))
                simp only [List.getElem?_toArray, List.getElem?_cons_zero, List.getElem?_cons_succ, Option.getD_some] at e1
                have e2 := hbaseF 2 (not_dst (by kernel_rfl))
                simp only [List.getElem?_toArray, List.getElem?_cons_zero, List.getElem?_cons_succ, Option.getD_some] at e2
                have e3 := hbaseF 3 (not_dst (by kernel_rfl))
                simp only [List.getElem?_toArray, List.getElem?_cons_zero, List.getElem?_cons_succ, Option.getD_some] at e3
                have e4 := hbaseF 4 (not_dst (by kernel_rfl))
                simp only [List.getElem?_toArray, List.getElem?_cons_zero, List.getElem?_cons_succ, Option.getD_some] at e4
                have e5 := hbaseF 5 (not_dst (by kernel_rfl))
                simp only [List.getElem?_toArray, List.getElem?_cons_zero, List.getElem?_cons_succ, Option.getD_some] at e5
                have e6 := hbaseF 6 (not_dst (by kernel_rfl))
                simp only [List.getElem?_toArray, List.getElem?_cons_zero, List.getElem?_cons_succ, Option.getD_some] at e6
                have e7 := hbaseF 7 (not_dst (by kernel_rfl))
                simp only [List.getElem?_toArray, List.getElem?_cons_zero, List.getElem?_cons_succ, Option.getD_some] at e7
                have e8 := hbaseF 8 (not_dst (by kernel_rfl))
                simp only [List.getElem?_toArray, List.getElem?_cons_zero, List.getElem?_cons_succ, Option.getD_some] at e8
                have e9 := hbaseF 9 (not_dst (by kernel_rfl))
                simp only [List.getElem?_toArray, List.getElem?_cons_zero, List.getElem?_cons_succ, Option.getD_some] at e9
                have e10 := hbaseF 10 (not_dst (by kernel_rfl))
                simp only [List.getElem?_toArray, List.getElem?_cons_zero, List.getElem?_cons_succ, Option.getD_some] at e10
                have e11 := hbaseF 11 (not_dst (by kernel_rfl))
                simp only [List.getElem?_toArray, List.getElem?_cons_zero, List.getElem?_cons_succ, Option.getD_some] at e11
                have e12 := hbaseF 12 (not_dst (by kernel_rfl))
                simp only [List.getElem?_toArray, List.getElem?_cons_zero, List.getElem?_cons_succ, Option.getD_some] at e12
                have e13 := hbaseF 13 (not_dst (by kernel_rfl))
                simp only [List.getElem?_toArray, List.getElem?_cons_zero, List.getElem?_cons_succ, Option.getD_some] at e13
                have e14 := hbaseF 14 (not_dst (by kernel_rfl))
                simp only [List.getElem?_toArray, List.getElem?_cons_zero, List.getElem?_cons_succ, Option.getD_some] at e14
                have e15 := hbaseF 15 (not_dst (by kernel_rfl))
                simp only [List.getElem?_toArray, List.getElem?_cons_zero, List.getElem?_cons_succ, Option.getD_some] at e15
                have e16 := hbaseF 16 (not_dst (by kernel_rfl))
                simp only [List.getElem?_toArray, List.getElem?_cons_zero, List.getElem?_cons_succ, Option.getD_some] at e16
                have e17 := hbaseF 17 (not_dst (by kernel_rfl))
                simp only [List.getElem?_toArray, List.getElem?_cons_zero, List.getElem?_cons_succ, Option.getD_some] at e17
                have e18 := hbaseF 18 (not_dst (by kernel_rfl))
                simp only [List.getElem?_toArray, List.getElem?_cons_zero, List.getElem?_cons_succ, Option.getD_some] at e18
                have e19 := hbaseF 19 (not_dst (by kernel_rfl))
                simp only [List.getElem?_toArray, List.getElem?_cons_zero, List.getElem?_cons_succ, Option.getD_some] at e19
                have e20 := hbaseF 20 (not_dst (by kernel_rfl))
                simp only [List.getElem?_toArray, List.getElem?_cons_zero, List.getElem?_cons_succ, Option.getD_some] at e20
                have e21 := hbaseF 21 (not_dst (by kernel_rfl))
                simp only [List.getElem?_toArray, List.getElem?_cons_zero, List.getElem?_cons_succ, Option.getD_some] at e21
                have e22 := hbaseF 22 (not_dst (by kernel_rfl))
                simp only [List.getElem?_toArray, List.getElem?_cons_zero, List.getElem?_cons_succ, Option.getD_some] at e22
                have e23 := hbaseF 23 (not_dst (by kernel_rfl))
                simp only [List.getElem?_toArray, List.getElem?_cons_zero, List.getElem?_cons_succ, Option.getD_some] at e23
                have e24 := hbaseF 24 (not_dst (by kernel_rfl))
                simp only [List.getElem?_toArray, List.getElem?_cons_zero, List.getElem?_cons_succ, Option.getD_some] at e24
                have e25 := hbaseF 25 (not_dst (by kernel_rfl))
                simp only [List.getElem?_toArray, List.getElem?_cons_zero, List.getElem?_cons_succ, Option.getD_some] at e25
                have e26 := hbaseF 26 (not_dst (by kernel_rfl))
                simp only [List.getElem?_toArray, List.getElem?_cons_zero, List.getElem?_cons_succ, Option.getD_some] at e26
                have e27 := hbaseF 27 (not_dst (by kernel_rfl))
                simp only [List.getElem?_toArray, List.getElem?_cons_zero, List.getElem?_cons_succ, Option.getD_some] at e27
                have e28 := hbaseF 28 (not_dst (by kernel_rfl))
                simp only [List.getElem?_toArray, List.getElem?_cons_zero, List.getElem?_cons_succ, Option.getD_some] at e28
                have e29 := hbaseF 29 (not_dst (by kernel_rfl))
                simp only [List.getElem?_toArray, List.getElem?_cons_zero, List.getElem?_cons_succ, Option.getD_some] at e29
                have e30 := hbaseF 30 (not_dst (by kernel_rfl))
                simp only [List.getElem?_toArray, List.getElem?_cons_zero, List.getElem?_cons_succ, Option.getD_some] at e30
                have e31 := hbaseF 31 (not_dst (by kernel_rfl))
                simp only [List.getElem?_toArray, List.getElem?_cons_zero, List.getElem?_cons_succ, Option.getD_some] at e31
                have e32 := hbaseF 32 (not_dst (by kernel_rfl))
                simp only [List.getElem?_toArray, List.getElem?_cons_zero, List.getElem?_cons_succ, Option.getD_some] at e32
                have e33 := hbaseF 33 (not_dst (by kernel_rfl))
                simp only [List.getElem?_toArray, List.getElem?_cons_zero, List.getElem?_cons_succ, Option.getD_some] at e33
                have e34 := hbaseF 34 (not_dst (by kernel_rfl))
                simp only [List.getElem?_toArray, List.getElem?_cons_zero, List.getElem?_cons_succ, Option.getD_some] at e34
                have e35 := hbaseF 35 (not_dst (by kernel_rfl))
                simp only [List.getElem?_toArray, List.getElem?_cons_zero, List.getElem?_cons_succ, Option.getD_some] at e35
                have e36 := hbaseF 36 (not_dst (by kernel_rfl))
                simp only [List.getElem?_toArray, List.getElem?_cons_zero, List.getElem?_cons_succ, Option.getD_some] at e36
                have e37 := hbaseF 37 (not_dst (by kernel_rfl))
                simp only [List.getElem?_toArray, List.getElem?_cons_zero, List.getElem?_cons_succ, Option.getD_some] at e37
                have e38 := hbaseF 38 (not_dst (by kernel_rfl))
                simp only [List.getElem?_toArray, List.getElem?_cons_zero, List.getElem?_cons_succ, Option.getD_some] at e38
                have e39 := hbaseF 39 (not_dst (by kernel_rfl))
                simp only [List.getElem?_toArray, List.getElem?_cons_zero, List.getElem?_cons_succ, Option.getD_some] at e39
                have e40 := hbaseF 40 (not_dst (by kernel_rfl))
                simp only [List.getElem?_toArray, List.getElem?_cons_zero, List.getElem?_cons_succ, Option.getD_some] at e40
                have e41 := hbaseF 41 (not_dst (by kernel_rfl))
                simp only [List.getElem?_toArray, List.getElem?_cons_zero, List.getElem?_cons_succ, Option.getD_some] at e41
                have e42 := hbaseF 42 (not_dst (by kernel_rfl))
                simp only [List.getElem?_toArray, List.getElem?_cons_zero, List.getElem?_cons_succ, Option.getD_some] at e42
                have e43 := hbaseF 43 (not_dst (by kernel_rfl))
                simp only [List.getElem?_toArray, List.getElem?_cons_zero, List.getElem?_cons_succ, Option.getD_some] at e43
                have e44 := hbaseF 44 (not_dst (by kernel_rfl))
                simp only [List.getElem?_toArray, List.getElem?_cons_zero, List.getElem?_cons_succ, Option.getD_some] at e44
                have e45 := hbaseF 45 (not_dst (by kernel_rfl))
                simp only [List.getElem?_toArray, List.getElem?_cons_zero, List.getElem?_cons_succ, Option.getD_some] at e45
                have e46 := hbaseF 46 (not_dst (by kernel_rfl))
                simp only [List.getElem?_toArray, List.getElem?_cons_zero, List.getElem?_cons_succ, Option.getD_some] at e46
                have e47 := hbaseF 47 (not_dst (by kernel_rfl))
                simp only [List.getElem?_toArray, List.getElem?_cons_zero, List.getElem?_cons_succ, Option.getD_some] at e47
                have e48 := hbaseF 48 (not_dst (by kernel_rfl))
                simp only [List.getElem?_toArray, List.getElem?_cons_zero, List.getElem?_cons_succ, Option.getD_some] at e48
                have e49 := hbaseF 49 (not_dst (by kernel_rfl))
                simp only [List.getElem?_toArray, List.getElem?_cons_zero, List.getElem?_cons_succ, Option.getD_some] at e49
                have e50 := hbaseF 50 (not_dst (by kernel_rfl))
                simp only [List.getElem?_toArray, List.getElem?_cons_zero, List.getElem?_cons_succ, Option.getD_some] at e50
                have e51 := hbaseF 51 (not_dst (by kernel_rfl))
                simp only [List.getElem?_toArray, List.getElem?_cons_zero, List.getElem?_cons_succ, Option.getD_some] at e51
                have e52 := hbaseF 52 (not_dst (by kernel_rfl))
                simp only [List.getElem?_toArray, List.getElem?_cons_zero, List.getElem?_cons_succ, Option.getD_some] at e52
                have e53 := hbaseF 53 (not_dst (by kernel_rfl))
                simp only [List.getElem?_toArray, List.getElem?_cons_zero, List.getElem?_cons_succ, Option.getD_some] at e53
                have e54 := hbaseF 54 (not_dst (by kernel_rfl))
                simp only [List.getElem?_toArray, List.getElem?_cons_zero, List.getElem?_cons_succ, Option.getD_some] at e54
                have e55 := hbaseF 55 (not_dst (by kernel_rfl))
                simp only [List.getElem?_toArray, List.getElem?_cons_zero, List.getElem?_cons_succ, Option.getD_some] at e55
                have e56 := hbaseF 56 (not_dst (by kernel_rfl))
                simp only [List.getElem?_toArray, List.getElem?_cons_zero, List.getElem?_cons_succ, Option.getD_some] at e56
                have e57 := hbaseF 57 (not_dst (by kernel_rfl))
                simp only [List.getElem?_toArray, List.getElem?_cons_zero, List.getElem?_cons_succ, Option.getD_some] at e57
                have e58 := hbaseF 58 (not_dst (by kernel_rfl))
                simp only [List.getElem?_toArray, List.getElem?_cons_zero, List.getElem?_cons_succ, Option.getD_some] at e58
                have e59 := hbaseF 59 (not_dst (by kernel_rfl))
                simp only [List.getElem?_toArray, List.getElem?_cons_zero, List.getElem?_cons_succ, Option.getD_some] at e59
                have e60 := hbaseF 60 (not_dst (by kernel_rfl))
                simp only [List.getElem?_toArray, List.getElem?_cons_zero, List.getElem?_cons_succ, Option.getD_some] at e60
                have e61 := hbaseF 61 (not_dst (by kernel_rfl))
                simp only [List.getElem?_toArray, List.getElem?_cons_zero, List.getElem?_cons_succ, Option.getD_some] at e61
                have e62 := hbaseF 62 (not_dst (by kernel_rfl))
                simp only [List.getElem?_toArray, List.getElem?_cons_zero, List.getElem?_cons_succ, Option.getD_some] at e62
                have e63 := hbaseF 63 (not_dst (by kernel_rfl))
                simp only [List.getElem?_toArray, List.getElem?_cons_zero, List.getElem?_cons_succ, Option.getD_some] at e63
                have e64 := hbaseF 64 (not_dst (by kernel_rfl))
                simp only [List.getElem?_toArray, List.getElem?_cons_zero, List.getElem?_cons_succ, Option.getD_some] at e64
                have e65 := hbaseF 65 (not_dst (by kernel_rfl))
                simp only [List.getElem?_toArray, List.getElem?_cons_zero, List.getElem?_cons_succ, Option.getD_some] at e65
                have e66 := hbaseF 66 (not_dst (by kernel_rfl))
                simp only [List.getElem?_toArray, List.getElem?_cons_zero, List.getElem?_cons_succ, Option.getD_some] at e66
                have e67 := hbaseF 67 (not_dst (by kernel_rfl))
                simp only [List.getElem?_toArray, List.getElem?_cons_zero, List.getElem?_cons_succ, Option.getD_some] at e67
                have e68 := hbaseF 68 (not_dst (by kernel_rfl))
                simp only [List.getElem?_toArray, List.getElem?_cons_zero, List.getElem?_cons_succ, Option.getD_some] at e68
                have e69 := hbaseF 69 (not_dst (by kernel_rfl))
                simp only [List.getElem?_toArray, List.getElem?_cons_zero, List.getElem?_cons_succ, Option.getD_some] at e69
                have e70 := hbaseF 70 (not_dst (by kernel_rfl))
                simp only [List.getElem?_toArray, List.getElem?_cons_zero, List.getElem?_cons_succ, Option.getD_some] at e70
                have e71 := hbaseF 71 (not_dst (by kernel_rfl))
                simp only [List.getElem?_toArray, List.getElem?_cons_zero, List.getElem?_cons_succ, Option.getD_some] at e71
                have e72 := hbaseF 72 (not_dst (by kernel_rfl))
                simp only [List.getElem?_toArray, List.getElem?_cons_zero, List.getElem?_cons_succ, Option.getD_some] at e72
                have e73 := hbaseF 73 (not_dst (by kernel_rfl))
                simp only [List.getElem?_toArray, List.getElem?_cons_zero, List.getElem?_cons_succ, Option.getD_some] at e73
                have e74 := hbaseF 74 (not_dst (by kernel_rfl))
                simp only [List.getElem?_toArray, List.getElem?_cons_zero, List.getElem?_cons_succ, Option.getD_some] at e74
                have e75 := hbaseF 75 (not_dst (by kernel_rfl))
                simp only [List.getElem?_toArray, List.getElem?_cons_zero, List.getElem?_cons_succ, Option.getD_some] at e75
                have e76 := hbaseF 76 (not_dst (by kernel_rfl))
                simp only [List.getElem?_toArray, List.getElem?_cons_zero, List.getElem?_cons_succ, Option.getD_some] at e76
                have e77 := hbaseF 77 (not_dst (by kernel_rfl))
                simp only [List.getElem?_toArray, List.getElem?_cons_zero, List.getElem?_cons_succ, Option.getD_some] at e77
                have e78 := hbaseF 78 (not_dst (by kernel_rfl))
                simp only [List.getElem?_toArray, List.getElem?_cons_zero, List.getElem?_cons_succ, Option.getD_some] at e78
                have e79 := hbaseF 79 (not_dst (by kernel_rfl))
                simp only [List.getElem?_toArray, List.getElem?_cons_zero, List.getElem?_cons_succ, Option.getD_some] at e79
                have e80 := hbaseF 80 (not_dst (by kernel_rfl))
                simp only [List.getElem?_toArray, List.getElem?_cons_zero, List.getElem?_cons_succ, Option.getD_some] at e80
                have e81 := hbaseF 81 (not_dst (by kernel_rfl))
                simp only [List.getElem?_toArray, List.getElem?_cons_zero, List.getElem?_cons_succ, Option.getD_some] at e81
                have e82 := hbaseF 82 (not_dst (by kernel_rfl))
                simp only [List.getElem?_toArray, List.getElem?_cons_zero, List.getElem?_cons_succ, Option.getD_some] at e82
                have e83 := hbaseF 83 (not_dst (by kernel_rfl))
                simp only [List.getElem?_toArray, List.getElem?_cons_zero, List.getElem?_cons_succ, Option.getD_some] at e83
                have e84 := hbaseF 84 (not_dst (by kernel_rfl))
                simp only [List.getElem?_toArray, List.getElem?_cons_zero, List.getElem?_cons_succ, Option.getD_some] at e84
                have e85 := hbaseF 85 (not_dst (by kernel_rfl))
                simp only [List.getElem?_toArray, List.getElem?_cons_zero, List.getElem?_cons_succ, Option.getD_some] at e85
                have e94 := hbaseF 94 (not_dst (by kernel_rfl))
                simp only [List.getElem?_toArray, List.getElem?_cons_zero, List.getElem?_cons_succ, Option.getD_some] at e94
                have e95 := hbaseF 95 (not_dst (by kernel_rfl))
                simp only [List.getElem?_toArray, List.getElem?_cons_zero, List.getElem?_cons_succ, Option.getD_some] at e95
                have e96 := hbaseF 96 (not_dst (by kernel_rfl))
                simp only [List.getElem?_toArray, List.getElem?_cons_zero, List.getElem?_cons_succ, Option.getD_some] at e96
                have e97 := hbaseF 97 (not_dst (by kernel_rfl))
                simp only [List.getElem?_toArray, List.getElem?_cons_zero, List.getElem?_cons_succ, Option.getD_some] at e97
                have e98 := hbaseF 98 (not_dst (by kernel_rfl))
                simp only [List.getElem?_toArray, List.getElem?_cons_zero, List.getElem?_cons_succ, Option.getD_some] at e98
                have e99 := hbaseF 99 (not_dst (by kernel_rfl))
                simp only [List.getElem?_toArray, List.getElem?_cons_zero, List.getElem?_cons_succ, Option.getD_some] at e99
                have e100 := hbaseF 100 (not_dst (by kernel_rfl))
                simp only [List.getElem?_toArray, List.getElem?_cons_zero, List.getElem?_cons_succ, Option.getD_some] at e100
                have e101 := hbaseF 101 (not_dst (by kernel_rfl))
                simp only [List.getElem?_toArray, List.getElem?_cons_zero, List.getElem?_cons_succ, Option.getD_some] at e101
                have e102 := hbaseF 102 (not_dst (by kernel_rfl))
                simp only [List.getElem?_toArray, List.getElem?_cons_zero, List.getElem?_cons_succ, Option.getD_some] at e102
                have e103 := hbaseF 103 (not_dst (by kernel_rfl))
                simp only [List.getElem?_toArray, List.getElem?_cons_zero, List.getElem?_cons_succ, Option.getD_some] at e103
                have e104 := hbaseF 104 (not_dst (by kernel_rfl))
                simp only [List.getElem?_toArray, List.getElem?_cons_zero, List.getElem?_cons_succ, Option.getD_some] at e104
                have e105 := hbaseF 105 (not_dst (by kernel_rfl))
                simp only [List.getElem?_toArray, List.getElem?_cons_zero, List.getElem?_cons_succ, Option.getD_some] at e105
                have e106 := hbaseF 106 (not_dst (by kernel_rfl))
                simp only [List.getElem?_toArray, List.getElem?_cons_zero, List.getElem?_cons_succ, Option.getD_some] at e106
                have e107 := hbaseF 107 (not_dst (by kernel_rfl))
                simp only [List.getElem?_toArray, List.getElem?_cons_zero, List.getElem?_cons_succ, Option.getD_some] at e107
                have e108 := hbaseF 108 (not_dst (by kernel_rfl))
                simp only [List.getElem?_toArray, List.getElem?_cons_zero, List.getElem?_cons_succ, Option.getD_some] at e108
                have e109 := hbaseF 109 (not_dst (by kernel_rfl))
                simp only [List.getElem?_toArray, List.getElem?_cons_zero, List.getElem?_cons_succ, Option.getD_some] at e109
                have e110 := hbaseF 110 (not_dst (by kernel_rfl))
                simp only [List.getElem?_toArray, List.getElem?_cons_zero, List.getElem?_cons_succ, Option.getD_some] at e110
                have e111 := hbaseF 111 (not_dst (by kernel_rfl))
                simp only [List.getElem?_toArray, List.getElem?_cons_zero, List.getElem?_cons_succ, Option.getD_some] at e111
                have e112 := hbaseF 112 (not_dst (by kernel_rfl))
                simp only [List.getElem?_toArray, List.getElem?_cons_zero, List.getElem?_cons_succ, Option.getD_some] at e112
                have e113 := hbaseF 113 (not_dst (by kernel_rfl))
                simp only [List.getElem?_toArray, List.getElem?_cons_zero, List.getElem?_cons_succ, Option.getD_some] at e113
                have e114 := hbaseF 114 (not_dst (by kernel_rfl))
                simp only [List.getElem?_toArray, List.getElem?_cons_zero, List.getElem?_cons_succ, Option.getD_some] at e114
                have e115 := hbaseF 115 (not_dst (by kernel_rfl))
                simp only [List.getElem?_toArray, List.getElem?_cons_zero, List.getElem?_cons_succ, Option.getD_some] at e115
                have e116 := hbaseF 116 (not_dst (by kernel_rfl))
                simp only [List.getElem?_toArray, List.getElem?_cons_zero, List.getElem?_cons_succ, Option.getD_some] at e116
                have e117 := hbaseF 117 (not_dst (by kernel_rfl))
                simp only [List.getElem?_toArray, List.getElem?_cons_zero, List.getElem?_cons_succ, Option.getD_some] at e117
                have e118 := hbaseF 118 (not_dst (by kernel_rfl))
                simp only [List.getElem?_toArray, List.getElem?_cons_zero, List.getElem?_cons_succ, Option.getD_some] at e118
                have e119 := hbaseF 119 (not_dst (by kernel_rfl))
                simp only [List.getElem?_toArray, List.getElem?_cons_zero, List.getElem?_cons_succ, Option.getD_some] at e119
                have e120 := hbaseF 120 (not_dst (by kernel_rfl))
                simp only [List.getElem?_toArray, List.getElem?_cons_zero, List.getElem?_cons_succ, Option.getD_some] at e120
                have e121 := hbaseF 121 (not_dst (by kernel_rfl))
                simp only [List.getElem?_toArray, List.getElem?_cons_zero, List.getElem?_cons_succ, Option.getD_some] at e121
                have e122 := hbaseF 122 (not_dst (by kernel_rfl))
                simp only [List.getElem?_toArray, List.getElem?_cons_zero, List.getElem?_cons_succ, Option.getD_some] at e122
                have e123 := hbaseF 123 (not_dst (by kernel_rfl))
                simp only [List.getElem?_toArray, List.getElem?_cons_zero, List.getElem?_cons_succ, Option.getD_some] at e123
                have e124 := hbaseF 124 (not_dst (by kernel_rfl))
                simp only [List.getElem?_toArray, List.getElem?_cons_zero, List.getElem?_cons_succ, Option.getD_some] at e124
                have e125 := hbaseF 125 (not_dst (by kernel_rfl))
                simp only [List.getElem?_toArray, List.getElem?_cons_zero, List.getElem?_cons_succ, Option.getD_some] at e125
                have e126 := hbaseF 126 (not_dst (by kernel_rfl))
                simp only [List.getElem?_toArray, List.getElem?_cons_zero, List.getElem?_cons_succ, Option.getD_some] at e126
                have e127 := hbaseF 127 (not_dst (by kernel_rfl))
                simp only [List.getElem?_toArray, List.getElem?_cons_zero, List.getElem?_cons_succ, Option.getD_some] at e127
                have e128 := hbaseF 128 (not_dst (by kernel_rfl))
                simp only [List.getElem?_toArray, List.getElem?_cons_zero, List.getElem?_cons_succ, Option.getD_some] at e128
                have e129 := hbaseF 129 (not_dst (by kernel_rfl))
                simp only [List.getElem?_toArray, List.getElem?_cons_zero, List.getElem?_cons_succ, Option.getD_some] at e129
                have e130 := hbaseF 130 (not_dst (by kernel_rfl))
                simp only [List.getElem?_toArray, List.getElem?_cons_zero, List.getElem?_cons_succ, Option.getD_some] at e130
                have e131 := hbaseF 131 (not_dst (by kernel_rfl))
                simp only [List.getElem?_toArray, List.getElem?_cons_zero, List.getElem?_cons_succ, Option.getD_some] at e131
                have e132 := hbaseF 132 (not_dst (by kernel_rfl))
                simp only [List.getElem?_toArray, List.getElem?_cons_zero, List.getElem?_cons_succ, Option.getD_some] at e132
                have e133 := hbaseF 133 (not_dst (by kernel_rfl))
                simp only [List.getElem?_toArray, List.getElem?_cons_zero, List.getElem?_cons_succ, Option.getD_some] at e133
                have e134 := hbaseF 134 (not_dst (by kernel_rfl))
                simp only [List.getElem?_toArray, List.getElem?_cons_zero, List.getElem?_cons_succ, Option.getD_some] at e134
                have e135 := hbaseF 135 (not_dst (by kernel_rfl))
                simp only [List.getElem?_toArray, List.getElem?_cons_zero, List.getElem?_cons_succ, Option.getD_some] at e135
                have e136 := hbaseF 136 (not_dst (by kernel_rfl))
                simp only [List.getElem?_toArray, List.getElem?_cons_zero, List.getElem?_cons_succ, Option.getD_some] at e136
                have e137 := hbaseF 137 (not_dst (by kernel_rfl))
                simp only [List.getElem?_toArray, List.getElem?_cons_zero, List.getElem?_cons_succ, Option.getD_some] at e137
                have e93 := hfactF 7 93 (by decide) rfl
                replace e93 : T[93]?.getD undef = .bool false := e93
                clear hbaseF hfactF
                have hT : T = #[T[0]?.getD undef, T[1]?.getD undef, T[2]?.getD undef, T[3]?.getD undef, T[4]?.getD undef, T[5]?.getD undef, T[6]?.getD undef, T[7]?.getD undef, T[8]?.getD undef, T[9]?.getD undef, T[10]?.getD undef, T[11]?.getD undef, T[12]?.getD undef, T[13]?.getD undef, T[14]?.getD undef, T[15]?.getD undef, T[16]?.getD undef, T[17]?.getD undef, T[18]?.getD undef, T[19]?.getD undef, T[20]?.getD undef, T[21]?.getD undef, T[22]?.getD undef, T[23]?.getD undef, T[24]?.getD undef, T[25]?.getD undef, T[26]?.getD undef, T[27]?.getD undef, T[28]?.getD undef, T[29]?.getD undef, T[30]?.getD undef, T[31]?.getD undef, T[32]?.getD undef, T[33]?.getD undef, T[34]?.getD undef, T[35]?.getD undef, T[36]?.getD undef, T[37]?.getD undef, T[38]?.getD undef, T[39]?.getD undef, T[40]?.getD undef, T[41]?.getD undef, T[42]?.getD undef, T[43]?.getD undef, T[44]?.getD undef, T[45]?.getD undef, T[46]?.getD undef, T[47]?.getD undef, T[48]?.getD undef, T[49]?.getD undef, T[50]?.getD undef, T[51]?.getD undef, T[52]?.getD undef, T[53]?.getD undef, T[54]?.getD undef, T[55]?.getD undef, T[56]?.getD undef, T[57]?.getD undef, T[58]?.getD undef, T[59]?.getD undef, T[60]?.getD undef, T[61]?.getD undef, T[62]?.getD undef, T[63]?.getD undef, T[64]?.getD undef, T[65]?.getD undef, T[66]?.getD undef, T[67]?.getD undef, T[68]?.getD undef, T[69]?.getD undef, T[70]?.getD undef, T[71]?.getD undef, T[72]?.getD undef, T[73]?.getD undef, T[74]?.getD undef, T[75]?.getD undef, T[76]?.getD undef, T[77]?.getD undef, T[78]?.getD undef, T[79]?.getD undef, T[80]?.getD undef, T[81]?.getD undef, T[82]?.getD undef, T[83]?.getD undef, T[84]?.getD undef, T[85]?.getD undef, T[86]?.getD undef, T[87]?.getD undef, T[88]?.getD undef, T[89]?.getD undef, T[90]?.getD undef, T[91]?.getD undef, T[92]?.getD undef, T[93]?.getD undef, T[94]?.getD undef, T[95]?.getD undef, T[96]?.getD undef, T[97]?.getD undef, T[98]?.getD undef, T[99]?.getD undef, T[100]?.getD undef, T[101]?.getD undef, T[102]?.getD undef, T[103]?.getD undef, T[104]?.getD undef, T[105]?.getD undef, T[106]?.getD undef, T[107]?.getD undef, T[108]?.getD undef, T[109]?.getD undef, T[110]?.getD undef, T[111]?.getD undef, T[112]?.getD undef, T[113]?.getD undef, T[114]?.getD undef, T[115]?.getD undef, T[116]?.getD undef, T[117]?.getD undef, T[118]?.getD undef, T[119]?.getD undef, T[120]?.getD undef, T[121]?.getD undef, T[122]?.getD undef, T[123]?.getD undef, T[124]?.getD undef, T[125]?.getD undef, T[126]?.getD undef, T[127]?.getD undef, T[128]?.getD undef, T[129]?.getD undef, T[130]?.getD undef, T[131]?.getD undef, T[132]?.getD undef, T[133]?.getD undef, T[134]?.getD undef, T[135]?.getD undef, T[136]?.getD undef, T[137]?.getD undef] := arr_eq T 138 hsF
                clear hsF
                rw [e0] at hT; clear e0
                rw [e1] at hT; clear e1
                rw [e2] at hT; clear e2
                rw [e3] at hT; clear e3
                rw [e4] at hT; clear e4
                rw [e5] at hT; clear e5
                rw [e6] at hT; clear e6
                rw [e7] at hT; clear e7
                rw [e8] at hT; clear e8
                rw [e9] at hT; clear e9
                rw [e10] at hT; clear e10
                rw [e11] at hT; clear e11
                rw [e12] at hT; clear e12
                rw [e13] at hT; clear e13
                rw [e14] at hT; clear e14
                rw [e15] at hT; clear e15
                rw [e16] at hT; clear e16
                rw [e17] at hT; clear e17
                rw [e18] at hT; clear e18
                rw [e19] at hT; clear e19
                rw [e20] at hT; clear e20
                rw [e21] at hT; clear e21
                rw [e22] at hT; clear e22
                rw [e23] at hT; clear e23
                rw [e24] at hT; clear e24
                rw [e25] at hT; clear e25
                rw [e26] at hT; clear e26
                rw [e27] at hT; clear e27
                rw [e28] at hT; clear e28
                rw [e29] at hT; clear e29
                rw [e30] at hT; clear e30
                rw [e31] at hT; clear e31
                rw [e32] at hT; clear e32
                rw [e33] at hT; clear e33
                rw [e34] at hT; clear e34
                rw [e35] at hT; clear e35
                rw [e36] at hT; clear e36
                rw [e37] at hT; clear e37
                rw [e38] at hT; clear e38
                rw [e39] at hT; clear e39
                rw [e40] at hT; clear e40
                rw [e41] at hT; clear e41
                rw [e42] at hT; clear e42
                rw [e43] at hT; clear e43
                rw [e44] at hT; clear e44
                rw [e45] at hT; clear e45
                rw [e46] at hT; clear e46
                rw [e47] at hT; clear e47
                rw [e48] at hT; clear e48
                rw [e49] at hT; clear e49
                rw [e50] at hT; clear e50
                rw [e51] at hT; clear e51
                rw [e52] at hT; clear e52
                rw [e53] at hT; clear e53
                rw [e54] at hT; clear e54
                rw [e55] at hT; clear e55
                rw [e56] at hT; clear e56
                rw [e57] at hT; clear e57
                rw [e58] at hT; clear e58
                rw [e59] at hT; clear e59
                rw [e60] at hT; clear e60
                rw [e61] at hT; clear e61
                rw [e62] at hT; clear e62
                rw [e63] at hT; clear e63
                rw [e64] at hT; clear e64
                rw [e65] at hT; clear e65
                rw [e66] at hT; clear e66
                rw [e67] at hT; clear e67
                rw [e68] at hT; clear e68
                rw [e69] at hT; clear e69
                rw [e70] at hT; clear e70
                rw [e71] at hT; clear e71
                rw [e72] at hT; clear e72
                rw [e73] at hT; clear e73
                rw [e74] at hT; clear e74
                rw [e75] at hT; clear e75
                rw [e76] at hT; clear e76
                rw [e77] at hT; clear e77
                rw [e78] at hT; clear e78
                rw [e79] at hT; clear e79
                rw [e80] at hT; clear e80
                rw [e81] at hT; clear e81
                rw [e82] at hT; clear e82
                rw [e83] at hT; clear e83
                rw [e84] at hT; clear e84
                rw [e85] at hT; clear e85
                generalize T[86]?.getD undef = u86 at hT
                generalize T[87]?.getD undef = u87 at hT
                generalize T[88]?.getD undef = u88 at hT
                generalize T[89]?.getD undef = u89 at hT
                generalize T[90]?.getD undef = u90 at hT
                generalize T[91]?.getD undef = u91 at hT
                generalize T[92]?.getD undef = u92 at hT
                rw [e93] at hT; clear e93
                rw [e94] at hT; clear e94
                rw [e95] at hT; clear e95
                rw [e96] at hT; clear e96
                rw [e97] at hT; clear e97
                rw [e98] at hT; clear e98
                rw [e99] at hT; clear e99
                rw [e100] at hT; clear e100
                rw [e101] at hT; clear e101
                rw [e102] at hT; clear e102
                rw [e103] at hT; clear e103
                rw [e104] at hT; clear e104
                rw [e105] at hT; clear e105
                rw [e106] at hT; clear e106
                rw [e107] at hT; clear e107
                rw [e108] at hT; clear e108
                rw [e109] at hT; clear e109
                rw [e110] at hT; clear e110
                rw [e111] at hT; clear e111
                rw [e112] at hT; clear e112
                rw [e113] at hT; clear e113
                rw [e114] at hT; clear e114
                rw [e115] at hT; clear e115
                rw [e116] at hT; clear e116
                rw [e117] at hT; clear e117
                rw [e118] at hT; clear e118
                rw [e119] at hT; clear e119
                rw [e120] at hT; clear e120
                rw [e121] at hT; clear e121
                rw [e122] at hT; clear e122
                rw [e123] at hT; clear e123
                rw [e124] at hT; clear e124
                rw [e125] at hT; clear e125
                rw [e126] at hT; clear e126
                rw [e127] at hT; clear e127
                rw [e128] at hT; clear e128
                rw [e129] at hT; clear e129
                rw [e130] at hT; clear e130
                rw [e131] at hT; clear e131
                rw [e132] at hT; clear e132
                rw [e133] at hT; clear e133
                rw [e134] at hT; clear e134
                rw [e135] at hT; clear e135
                rw [e136] at hT; clear e136
                rw [e137] at hT; clear e137
                subst hT
                go_wp2_with fail
                go_roundw
                case rel => exact ⟨y + 1, by omega, by go_num, (by (have q_hbF := Below.size hbF; (try simp at q_hbF); have q_hby := Below.size hby; (try simp at q_hby); repeat (first | exact Below.refl _ _ | (refine Below.trans ?_ (Below.mono hbF (by first | omega | (simp; omega) | simp))) | (refine Below.trans ?_ (Below.mono hby (by first | omega | (simp; omega) | simp))) | (refine Below.setCell ?_ (by first | omega | (simp; omega) | simp) _) | (refine Below.alloc ?_ (by first | omega | (simp; omega) | simp) _) | apply Below.drew | apply below_drewN)))⟩
                case measure => simp [intOf] <;> omega
            · obtain rfl : y = k := by omega
              obtain ⟨bb, X, Y, f1, f2, f3, f4⟩ := first_both l m
              rw [hlen] at f1
              have HF1 := Lib.hid f1
              have HF2 := Lib.hid f2
              clear f1 f2
              have hbY : Below w.heap.size w wr := (by (have q_hby := Below.size hby; (try simp at q_hby); have q_hbW := Below.size hbW; (try simp at q_hbW); repeat (first | exact Below.refl _ _ | (refine Below.trans ?_ (Below.mono hby (by first | omega | (simp; omega) | simp))) | (refine Below.trans ?_ (Below.mono hbW (by first | omega | (simp; omega) | simp))) | (refine Below.setCell ?_ (by first | omega | (simp; omega) | simp) _) | (refine Below.alloc ?_ (by first | omega | (simp; omega) | simp) _) | apply Below.drew | apply below_drewN)))
              obtain ⟨wz, rfl⟩ : ∃ wz : World, wz = wr := ⟨_, rfl⟩
              go_wp2_with fail
              refine (first_any A1 y c1 l m _ (hRm.below hby) (by omega)).mono ?_
              rintro e w5 ⟨rfl, hb5⟩
              have hb5w : Below w.heap.size w w5 := (by (have q_hb5 := Below.size hb5; (try simp at q_hb5); have q_hbY := Below.size hbY; (try simp at q_hbY); repeat (first | exact Below.refl _ _ | (refine Below.trans ?_ (Below.mono hb5 (by first | omega | (simp; omega) | simp))) | (refine Below.trans ?_ (Below.mono hbY (by first | omega | (simp; omega) | simp))) | (refine Below.setCell ?_ (by first | omega | (simp; omega) | simp) _) | (refine Below.alloc ?_ (by first | omega | (simp; omega) | simp) _) | apply Below.drew | apply below_drewN)))
              rw [HF1.out]
              by_cases hm100 : m ≤ 100
              · go_wp2_with fail
                refine (rfirst_any A y c l m _ (hRl.below (by (have q_hb5 := Below.size hb5; (try simp at q_hb5); have q_hby := Below.size hby; (try simp at q_hby); repeat (first | exact Below.refl _ _ | (refine Below.trans ?_ (Below.mono hb5 (by first | omega | (simp; omega) | simp))) | (refine Below.trans ?_ (Below.mono hby (by first | omega | (simp; omega) | simp))) | (refine Below.setCell ?_ (by first | omega | (simp; omega) | simp) _) | (refine Below.alloc ?_ (by first | omega | (simp; omega) | simp) _) | apply Below.drew | apply below_drewN)))) (by omega) (by omega)).mono ?_
                rintro e w6 ⟨rfl, rfl⟩
                rw [HF2.out]
                cases bb
                · obtain ⟨rfl, rfl⟩ := f4 rfl
                  go_wp2_with fail
                  refine (pawake_any _).mono ?_
                  rintro e w7 ⟨rfl, hb7⟩
                  go_wp2_with fail
                  go_ret
                  exact ⟨rfl, (by (have q_hb7 := Below.size hb7; (try simp at q_hb7); have q_hb5w := Below.size hb5w; (try simp at q_hb5w); repeat (first | exact Below.refl _ _ | (refine Below.trans ?_ (Below.mono hb7 (by first | omega | (simp; omega) | simp))) | (refine Below.trans ?_ (Below.mono hb5w (by first | omega | (simp; omega) | simp))) | (refine Below.setCell ?_ (by first | omega | (simp; omega) | simp) _) | (refine Below.alloc ?_ (by first | omega | (simp; omega) | simp) _) | apply Below.drew | apply below_drewN)))⟩
                · obtain ⟨rfl, hX0⟩ := f3 rfl
                  go_wp2_with fail
                  refine (pawake_any _).mono ?_
                  rintro e w7 ⟨rfl, hb7⟩
                  go_wp2_with fail
                  go_ret
                  exact ⟨rfl, (by (have q_hb7 := Below.size hb7; (try simp at q_hb7); have q_hb5w := Below.size hb5w; (try simp at q_hb5w); repeat (first | exact Below.refl _ _ | (refine Below.trans ?_ (Below.mono hb7 (by first | omega | (simp; omega) | simp))) | (refine Below.trans ?_ (Below.mono hb5w (by first | omega | (simp; omega) | simp))) | (refine Below.setCell ?_ (by first | omega | (simp; omega) | simp) _) | (refine Below.alloc ?_ (by first | omega | (simp; omega) | simp) _) | apply Below.drew | apply below_drewN)))⟩
              · have hbig := first_big l m (by omega)
                rw [hlen, HF1.out] at hbig
                injection hbig with e1 e2
                subst e1 e2
                have hmm : 100 < m := by omega
                clear hm100 f3 f4
                go_wp2_with fail
                refine (pawake_any _).mono ?_
                rintro e w7 ⟨rfl, hb7⟩
                go_wp2_with fail
                go_ret
                exact ⟨rfl, (by (have q_hb7 := Below.size hb7; (try simp at q_hb7); have q_hb5w := Below.size hb5w; (try simp at q_hb5w); repeat (first | exact Below.refl _ _ | (refine Below.trans ?_ (Below.mono hb7 (by first | omega | (simp; omega) | simp))) | (refine Below.trans ?_ (Below.mono hb5w (by first | omega | (simp; omega) | simp))) | (refine Below.setCell ?_ (by first | omega | (simp; omega) | simp) _) | (refine Below.alloc ?_ (by first | omega | (simp; omega) | simp) _) | apply Below.drew | apply below_drewN)))⟩
end Go.Proofs.Ytidlcplamgajpaa
