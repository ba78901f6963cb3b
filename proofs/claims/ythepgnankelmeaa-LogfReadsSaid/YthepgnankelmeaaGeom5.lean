/- Contracts over the document's list of all blocks: how many of a kind, where the one of a kind stands. -/
import Derived.Test.YthepgnankelmeaaGeom4
namespace Go.Proofs.Ythepgnankelmeaa
open Go.RowKit

set_option maxHeartbeats 1000000 in
theorem all_no (p t : Int) (w : World) (h : gmay p t = false) :
    Calls Try.prog 16 #[.agg #[.int .i64 p, .int .i64 t]] w (GivesG pairE 38 w []) := by
  go_enter Try.func16, Try.ntmps16
  go_wp2_with fail
  refine (grmay_any _ _ _).mono ?_
  rintro e wa ⟨rfl, hba⟩
  rw [h]
  go_wp2_with fail
  go_ret
  exact ⟨_, rfl, FreshG.nil _ _ _, (by (have q_hba := Below.size hba; (try simp at q_hba); repeat (first | exact Below.refl _ _ | (refine Below.trans ?_ (Below.mono hba (by first | omega | (simp; omega) | simp))) | (refine Below.setCell ?_ (by first | omega | (simp; omega) | simp) _) | (refine Below.alloc ?_ (by first | omega | (simp; omega) | simp) _) | apply Below.drew | apply below_drewN)))⟩

/-- The blocks of any geometry. -/
def blocksL (p t : Int) : List (Int × Int) := if gmay p t then allL p t else []
theorem blocks_len (p t : Int) : (blocksL p t).length ≤ 200 := by
  unfold blocksL
  split
  · rename_i h
    obtain ⟨h1, h2, h3, h4⟩ := gmay_true h
    obtain ⟨m0, m1, s0, s1, e0, e1⟩ := geo_range h1 h2
    unfold allL
    simp only [List.length_cons, List.length_append, run_len]
    omega
  · simp
theorem all_any (p t : Int) (w : World) :
    Calls Try.prog 16 #[.agg #[.int .i64 p, .int .i64 t]] w (GivesG pairE 38 w (blocksL p t)) := by
  unfold blocksL
  cases h : gmay p t
  · exact all_no p t w h
  · exact all_yes p t w h

def countL (kind : Int) (l : List (Int × Int)) : Nat := l.countP fun x => x.1 == kind
theorem countL_snoc (kind : Int) (l : List (Int × Int)) (x : Int × Int) : countL kind (l ++ [x]) = countL kind l + if x.1 == kind then 1 else 0 := by
  unfold countL
  rw [List.countP_append, List.countP_singleton]
theorem countL_le (kind : Int) (l : List (Int × Int)) : countL kind l ≤ l.length := List.countP_le_length

set_option maxRecDepth 100000 in
set_option maxHeartbeats 2000000 in
theorem count_any (p t kind : Int) (w : World) :
    Calls Try.prog 20 #[.agg #[.int .i64 p, .int .i64 t], .int .i64 kind] w fun e w' => e = .returned (.int .i64 (countL kind (blocksL p t))) ∧ Below w.heap.size w w' := by
  have hlen := blocks_len p t
  obtain ⟨L, hL⟩ : ∃ L, L = blocksL p t := ⟨_, rfl⟩
  rw [← hL] at hlen ⊢
  have HL := Lib.hid hL
  clear hL
  go_enter Try.func20, Try.ntmps20
  go_wp2_with fail
  refine (all_any p t _).mono ?_
  rintro e w1 ⟨r, rfl, hF, hb1⟩
  rw [← HL.out] at hF
  obtain ⟨n, hn⟩ : ∃ n, n = L.length := ⟨_, rfl⟩
  obtain ⟨A, c, rfl, hR, _, hnc, hcm⟩ := hF.rdn n hn.symm
  have HN := Lib.hid hn
  rw [← hn] at hlen
  clear hF hn
  go_wp2_with fail
  go_loopw [5, 11] (fun v i wr => ∃ k : Nat, k ≤ n ∧ i = .int .i64 k ∧ v = .int .i64 (countL kind (L.take k)) ∧ RdG pairE wr A n L ∧ Below w.heap.size w wr) (fun _ i _ => n - (intOf i).toNat)
  case atStart => exact ⟨0, by omega, rfl, rfl, hR, (by (have q_hb1 := Below.size hb1; (try simp at q_hb1); repeat (first | exact Below.refl _ _ | (refine Below.trans ?_ (Below.mono hb1 (by first | omega | (simp; omega) | simp))) | (refine Below.setCell ?_ (by first | omega | (simp; omega) | simp) _) | (refine Below.alloc ?_ (by first | omega | (simp; omega) | simp) _) | apply Below.drew | apply below_drewN)))⟩
  case round =>
    obtain ⟨k, hk, rfl, rfl, hRr, hbel⟩ := hrel
    by_cases hlt : k < n
    · obtain ⟨b, off, x, rfl, hbl, hx, hc⟩ := hRr.at_ hlt
      have c0 := hc 0 _ rfl
      have c1 := hc 1 _ rfl
      simp only [show pairE.sz = 2 from rfl, Nat.add_zero] at c0 c1
      have hs := countL_snoc kind (L.take k) x
      rw [← take_step hx] at hs
      have hcl := countL_le kind (L.take k)
      have hcl2 : (L.take k).length ≤ 200 := by rw [List.length_take]; omega
      obtain ⟨q, hq⟩ : ∃ q, q = countL kind (L.take k) := ⟨_, rfl⟩
      rw [← hq] at hs hcl ⊢
      have hq200 : q ≤ 200 := by omega
      clear hq hcl hcl2
      by_cases hxk : x.1 = kind
      · have hb : (x.1 == kind) = true := by simpa using hxk
        rw [hb] at hs
        have HS := Lib.hid hs
        clear hs hx hc hxk
        go_wp2_with fail
        go_roundw
        case rel => exact ⟨k + 1, by omega, by go_num, int_eq (by rw [HS.out]; simp), hRr.alloc _, (by (have q_hbel := Below.size hbel; (try simp at q_hbel); repeat (first | exact Below.refl _ _ | (refine Below.trans ?_ (Below.mono hbel (by first | omega | (simp; omega) | simp))) | (refine Below.setCell ?_ (by first | omega | (simp; omega) | simp) _) | (refine Below.alloc ?_ (by first | omega | (simp; omega) | simp) _) | apply Below.drew | apply below_drewN)))⟩
        case measure => simp [intOf] <;> omega
      · have hb : (x.1 == kind) = false := by simpa using hxk
        rw [hb] at hs
        have HS := Lib.hid hs
        clear hs hx hc hxk
        go_wp2_with fail
        go_roundw
        case rel => exact ⟨k + 1, by omega, by go_num, int_eq (by rw [HS.out]; simp), hRr.alloc _, (by (have q_hbel := Below.size hbel; (try simp at q_hbel); repeat (first | exact Below.refl _ _ | (refine Below.trans ?_ (Below.mono hbel (by first | omega | (simp; omega) | simp))) | (refine Below.setCell ?_ (by first | omega | (simp; omega) | simp) _) | (refine Below.alloc ?_ (by first | omega | (simp; omega) | simp) _) | apply Below.drew | apply below_drewN)))⟩
        case measure => simp [intOf] <;> omega
    · have hT := Lib.hid (show L.take k = L from List.take_of_length_le (by rw [← HN.out]; omega))
      go_wp2_with fail
      go_ret
      exact ⟨ret1 (int_eq (by rw [hT.out])), hbel⟩

/-- Where the one of a kind stands; -1: nowhere. -/
def atL (kind j : Int) (l : List (Int × Int)) : Int := match l.findIdx? (fun x => x.1 == kind && x.2 == j) with
  | some i => i
  | none => -1
theorem atL_hit (kind j : Int) (l : List (Int × Int)) (k : Nat) (x : Int × Int) (hx : l[k]? = some x) (h1 : x.1 = kind) (h2 : x.2 = j) (hno : ∀ i, i < k → ∀ y, l[i]? = some y → ¬ (y.1 = kind ∧ y.2 = j)) : atL kind j l = k := by
  have hk : k < l.length := (List.getElem?_eq_some_iff.1 hx).1
  have e : l[k] = x := (List.getElem?_eq_some_iff.1 hx).2
  have : l.findIdx? (fun x => x.1 == kind && x.2 == j) = some k := by
    rw [List.findIdx?_eq_some_iff_getElem]
    refine ⟨hk, by rw [e]; simp [h1, h2], fun i hi => ?_⟩
    have := hno i hi l[i] (List.getElem?_eq_getElem (by omega))
    simpa using this
  unfold atL
  rw [this]
theorem atL_miss (kind j : Int) (l : List (Int × Int)) (hno : ∀ (i : Nat) (y : Int × Int), l[i]? = some y → ¬ (y.1 = kind ∧ y.2 = j)) : atL kind j l = -1 := by
  have : l.findIdx? (fun x => x.1 == kind && x.2 == j) = none := by
    rw [List.findIdx?_eq_none_iff]
    intro y hy
    obtain ⟨i, hi, rfl⟩ := List.getElem_of_mem hy
    have := hno i l[i] (List.getElem?_eq_getElem hi)
    simpa using this
  unfold atL
  rw [this]

set_option maxRecDepth 100000 in
set_option maxHeartbeats 2000000 in
theorem rat_any (p t kind j : Int) (w : World) :
    Calls Try.prog 26 #[.agg #[.int .i64 p, .int .i64 t], .int .i64 kind, .int .i64 j] w fun e w' => e = .returned (.int .i64 (atL kind j (blocksL p t))) ∧ Below w.heap.size w w' := by
  have hlen := blocks_len p t
  obtain ⟨L, hL⟩ : ∃ L, L = blocksL p t := ⟨_, rfl⟩
  rw [← hL] at hlen ⊢
  have HL := Lib.hid hL
  clear hL
  go_enter Try.func26, Try.ntmps26
  go_wp2_with fail
  refine (all_any p t _).mono ?_
  rintro e w1 ⟨r, rfl, hF, hb1⟩
  rw [← HL.out] at hF
  obtain ⟨n, hn⟩ : ∃ n, n = L.length := ⟨_, rfl⟩
  obtain ⟨A, c, rfl, hR, _, hnc, hcm⟩ := hF.rdn n hn.symm
  have HN := Lib.hid hn
  rw [← hn] at hlen
  clear hF hn
  go_wp2_with fail
  go_loopw [12] (fun i wr => ∃ k : Nat, k ≤ n ∧ i = .int .i64 k ∧ Hid (∀ i, i < k → ∀ y, L[i]? = some y → ¬ (y.1 = kind ∧ y.2 = j)) ∧ RdG pairE wr A n L ∧ Below w.heap.size w wr) (fun i _ => n - (intOf i).toNat)
  case atStart => exact ⟨0, by omega, rfl, fun i hi => absurd hi (by omega), hR, (by (have q_hb1 := Below.size hb1; (try simp at q_hb1); repeat (first | exact Below.refl _ _ | (refine Below.trans ?_ (Below.mono hb1 (by first | omega | (simp; omega) | simp))) | (refine Below.setCell ?_ (by first | omega | (simp; omega) | simp) _) | (refine Below.alloc ?_ (by first | omega | (simp; omega) | simp) _) | apply Below.drew | apply below_drewN)))⟩
  case round =>
    obtain ⟨k, hk, rfl, hno, hRr, hbel⟩ := hrel
    by_cases hlt : k < n
    · obtain ⟨b, off, x, rfl, hbl, hx, hc⟩ := hRr.at_ hlt
      have c0 := hc 0 _ rfl
      have c1 := hc 1 _ rfl
      simp only [show pairE.sz = 2 from rfl, Nat.add_zero] at c0 c1
      have HX := Lib.hid hx
      clear hx hc
      by_cases hxk : x.1 = kind
      · have hb : (x.1 == kind) = true := by simpa using hxk
        by_cases hxj : x.2 = j
        · have hb2 : (x.2 == j) = true := by simpa using hxj
          have hA := Lib.hid (atL_hit kind j L k x HX.out hxk hxj hno.out)
          clear hxk hxj
          go_wp2_with fail
          go_ret
          exact ⟨ret1 (int_eq hA.out.symm), (by (have q_hbel := Below.size hbel; (try simp at q_hbel); repeat (first | exact Below.refl _ _ | (refine Below.trans ?_ (Below.mono hbel (by first | omega | (simp; omega) | simp))) | (refine Below.setCell ?_ (by first | omega | (simp; omega) | simp) _) | (refine Below.alloc ?_ (by first | omega | (simp; omega) | simp) _) | apply Below.drew | apply below_drewN)))⟩
        · have hb2 : (x.2 == j) = false := by simpa using hxj
          have hno' : Hid (∀ i, i < k + 1 → ∀ y, L[i]? = some y → ¬ (y.1 = kind ∧ y.2 = j)) := by
            intro i hi y hy hyy
            rcases Nat.lt_or_ge i k with h | h
            · exact hno.out i h y hy hyy
            · obtain rfl : i = k := by omega
              rw [HX.out] at hy
              obtain rfl := Option.some.inj hy
              exact hxj hyy.2
          clear hxk hxj
          go_wp2_with fail
          go_roundw
          case rel => exact ⟨k + 1, by omega, by go_num, hno', hRr.alloc _, (by (have q_hbel := Below.size hbel; (try simp at q_hbel); repeat (first | exact Below.refl _ _ | (refine Below.trans ?_ (Below.mono hbel (by first | omega | (simp; omega) | simp))) | (refine Below.setCell ?_ (by first | omega | (simp; omega) | simp) _) | (refine Below.alloc ?_ (by first | omega | (simp; omega) | simp) _) | apply Below.drew | apply below_drewN)))⟩
          case measure => simp [intOf] <;> omega
      · have hb : (x.1 == kind) = false := by simpa using hxk
        have hno' : Hid (∀ i, i < k + 1 → ∀ y, L[i]? = some y → ¬ (y.1 = kind ∧ y.2 = j)) := by
          intro i hi y hy hyy
          rcases Nat.lt_or_ge i k with h | h
          · exact hno.out i h y hy hyy
          · obtain rfl : i = k := by omega
            rw [HX.out] at hy
            obtain rfl := Option.some.inj hy
            exact hxk hyy.1
        clear hxk
        go_wp2_with fail
        go_roundw
        case rel => exact ⟨k + 1, by omega, by go_num, hno', hRr.alloc _, (by (have q_hbel := Below.size hbel; (try simp at q_hbel); repeat (first | exact Below.refl _ _ | (refine Below.trans ?_ (Below.mono hbel (by first | omega | (simp; omega) | simp))) | (refine Below.setCell ?_ (by first | omega | (simp; omega) | simp) _) | (refine Below.alloc ?_ (by first | omega | (simp; omega) | simp) _) | apply Below.drew | apply below_drewN)))⟩
        case measure => simp [intOf] <;> omega
    · have hA := Lib.hid (atL_miss kind j L (fun i y hy => hno.out i (by have := (List.getElem?_eq_some_iff.1 hy).1; have := HN.out; omega) y hy))
      go_wp2_with fail
      go_ret
      exact ⟨ret1 (int_eq hA.out.symm), hbel⟩
end Go.Proofs.Ythepgnankelmeaa
