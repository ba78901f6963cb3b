/- Logs: which may be; their blocks. -/
import Derived.Test.YthepgnankelmeaaLog3
import Derived.Test.YthepgnankelmeaaSuper9
import Derived.Test.YthepgnankelmeaaSuper
namespace Go.Proofs.Ythepgnankelmeaa
open Go.RowKit

/-- One more entry, behind the block's number last. -/
def stE (S : Int) (o : Option Int) (e : Ent) : Option Int := match o with | some last => if last < e.1 ∧ e.1 < S ∧ e.2.length = 256 then some e.1 else none | none => none
def foldE (S : Int) (es : List Ent) : Option Int := es.foldl (stE S) (some (-1))
theorem foldE_snoc (S : Int) (l : List Ent) (e : Ent) : foldE S (l ++ [e]) = stE S (foldE S l) e := by simp [foldE]
theorem foldE_none {S : Int} {es : List Ent} {k : Nat} (h : foldE S (es.take k) = none) : foldE S es = none := by
  have key : ∀ l : List Ent, l.foldl (stE S) none = none := by
    intro l
    induction l with
    | nil => rfl
    | cons e l ih => exact ih
  rw [← List.take_append_drop k es]
  unfold foldE at h ⊢
  rw [List.foldl_append, h, key]
theorem foldE_ge {S : Int} {es : List Ent} {x : Int} (h : foldE S es = some x) : -1 ≤ x := by
  have key : ∀ (l : List Ent) (o : Option Int), (∀ y, o = some y → -1 ≤ y) → ∀ x, l.foldl (stE S) o = some x → -1 ≤ x := by
    intro l
    induction l with
    | nil => intro o ho x hx; exact ho x hx
    | cons e l ih =>
      intro o ho x hx
      refine ih (stE S o e) (fun y hy => ?_) x hx
      unfold stE at hy
      cases o with
      | none => cases hy
      | some last =>
        simp only at hy
        split at hy
        · rename_i h1
          injection hy with hy
          have := ho last rfl
          omega
        · cases hy
  exact key es _ (fun y hy => by injection hy with hy; omega) x h
/-- What holds of each entry of those that may be. -/
theorem foldE_all {S : Int} {es : List Ent} {x : Int} (h : foldE S es = some x) : ∀ e ∈ es, 0 ≤ e.1 ∧ e.1 < S ∧ e.2.length = 256 := by
  intro e he
  obtain ⟨k, hk, hke⟩ := List.getElem_of_mem he
  have hke' : es[k]? = some e := by rw [List.getElem?_eq_getElem hk, hke]
  cases h1 : foldE S (es.take (k + 1)) with
  | none => rw [foldE_none h1] at h; cases h
  | some y =>
    rw [take_step hke', foldE_snoc] at h1
    cases h2 : foldE S (es.take k) with
    | none => rw [h2] at h1; cases h1
    | some last =>
      rw [h2] at h1
      have := foldE_ge h2
      unfold stE at h1
      simp only at h1
      split at h1
      · rename_i h3; exact ⟨by omega, h3.2.1, h3.2.2⟩
      · cases h1
/-- May a log be? -/
def mayLog (p t : Int) (es : List Ent) : Bool := gmay p t && (decide (1 ≤ es.length ∧ (es.length : Int) ≤ t) && (foldE (sealedI p) es).isSome)
theorem mayLog_true {p t : Int} {es : List Ent} (h : mayLog p t es = true) : gmay p t = true ∧ 1 ≤ es.length ∧ (es.length : Int) ≤ t ∧ ∀ e ∈ es, 0 ≤ e.1 ∧ e.1 < sealedI p ∧ e.2.length = 256 := by
  unfold mayLog at h
  simp only [Bool.and_eq_true, decide_eq_true_eq] at h
  obtain ⟨x, hx⟩ := Option.isSome_iff_exists.1 h.2.2
  exact ⟨h.1, h.2.1.1, h.2.1.2, foldE_all hx⟩

set_option maxRecDepth 100000 in
set_option maxHeartbeats 8000000 in
theorem lmay_any (p t cnt : Int) (A : Option Addr) (n c B : Nat) (T : TypeId) (es : List Ent) (w : World) (hr : RdR entK B T w A n es) (hn : n ≤ 1000000) :
    Calls Try.prog 49 #[.agg #[.int .i64 p, .int .i64 t], .agg #[.int .u64 cnt, .slice A n c]] w fun e w' => e = .returned (.bool (mayLog p t es)) ∧ Below w.heap.size w w' := by
  have hlen := hr.len
  have P0 : Blk ((w.alloc (.cells #[.int .i64 p, .int .i64 t] 23)).alloc (.cells #[.int .u64 cnt, .slice A n c] 56)) w.heap.size 23 #[.int .i64 p, .int .i64 t] := (Blk.new _ _ _).alloc _
  have Q0 : Blk ((w.alloc (.cells #[.int .i64 p, .int .i64 t] 23)).alloc (.cells #[.int .u64 cnt, .slice A n c] 56)) (w.heap.size + 1) 56 #[.int .u64 cnt, .slice A n c] := by
    simpa using Blk.new (w.alloc (.cells #[.int .i64 p, .int .i64 t] 23)) 56 #[.int .u64 cnt, .slice A n c]
  cases hm : gmay p t
  · have hres := Lib.hid (show mayLog p t es = false by unfold mayLog; rw [hm]; rfl)
    go_enter Try.func49, Try.ntmps49
    go_wp2_with fail
    refine (check_no p t _ hm).mono ?_
    rintro e w1 ⟨rfl, hb1⟩
    go_wp2_with fail
    go_ret
    exact ⟨by rw [hres.out]; rfl, (by (have q_hb1 := Below.size hb1; (try simp at q_hb1); repeat (first | exact Below.refl _ _ | (refine Below.trans ?_ (Below.mono hb1 (by first | omega | (simp; omega) | simp))) | (refine Below.setCell ?_ (by first | omega | (simp; omega) | simp) _) | (refine Below.alloc ?_ (by first | omega | (simp; omega) | simp) _) | apply Below.drew | apply below_drewN)))⟩
  · by_cases hlen1 : 1 ≤ es.length ∧ (es.length : Int) ≤ t
    · have hres := Lib.hid (show mayLog p t es = (foldE (sealedI p) es).isSome by unfold mayLog; rw [hm, decide_eq_true hlen1]; rfl)
      obtain ⟨l1, l2⟩ := hlen1
      have l1' : (1 : Int) ≤ n := by omega
      have l2' : (n : Int) ≤ t := by omega
      obtain ⟨S, hS⟩ : ∃ S, S = sealedI p := ⟨_, rfl⟩
      rw [← hS] at hres
      have HS := Lib.hid hS
      clear hS
      go_enter Try.func49, Try.ntmps49
      go_wp2_with fail
      refine (check_yes p t _ hm).mono ?_
      rintro e w1 ⟨rfl, hb1⟩
      have P1 := P0.on hb1
      have Q1 := Q0.on hb1
      have cQ := Q1.cell
      have cP := P1.cell
      have b1 : Below w.heap.size w w1 := (by (have q_hb1 := Below.size hb1; (try simp at q_hb1); repeat (first | exact Below.refl _ _ | (refine Below.trans ?_ (Below.mono hb1 (by first | omega | (simp; omega) | simp))) | (refine Below.setCell ?_ (by first | omega | (simp; omega) | simp) _) | (refine Below.alloc ?_ (by first | omega | (simp; omega) | simp) _) | apply Below.drew | apply below_drewN)))
      clear P0 Q0 hb1
      go_wp2_with fail
      go_loopw [5, 28] (fun la i wr => ∃ k : Nat, k ≤ n ∧ i = .int .i64 k ∧ (∃ x, la = .int .i64 x ∧ foldE S (es.take k) = some x) ∧ Blk wr w.heap.size 23 #[.int .i64 p, .int .i64 t] ∧ Below w.heap.size w wr) (fun _ i _ => n - (intOf i).toNat)
      case atStart => exact ⟨0, by omega, rfl, ⟨-1, rfl, rfl⟩, P1, b1⟩
      case round =>
        clear P1 Q1 cQ cP b1
        obtain ⟨k, hk, rfl, ⟨x, rfl, hx⟩, hP, hbel⟩ := hrel
        have hx1 := foldE_ge hx
        have HX := Lib.hid hx
        have cP := hP.cell
        clear hx
        by_cases hlt : k < n
        · obtain ⟨b, off, K, Ad, nd, cd, L, rfl, hb, he, c0, c1, hX, hnd, hcd⟩ := (hr.below hbel).ent hlt
          have hLl : L.length = nd := hX.1.len
          have hst := Lib.hid (show foldE S (es.take (k + 1)) = stE S (some x) (K, L) by rw [take_step he, foldE_snoc, HX.out])
          have hfa : stE S (some x) (K, L) = none → mayLog p t es = false := fun h => by
            rw [hres.out, foldE_none (show foldE S (es.take (k + 1)) = none by rw [hst.out, h])]; rfl
          have q1 : (k : Int) < n := by omega
          have hPa := hP.alloc (.cells #[.int .i64 K, .slice Ad nd cd] 102)
          have Bx := Blk.new wr 102 #[.int .i64 K, .slice Ad nd cd]
          have HFA := Lib.hid hfa
          clear he hfa
          by_cases hle : K ≤ x
          · have hno := Lib.hid (HFA.out (by unfold stE; simp only; rw [if_neg (by omega)]))
            go_wp2_with fail
            go_ret
            exact ⟨by rw [hno.out]; rfl, (by (have q_hbel := Below.size hbel; (try simp at q_hbel); repeat (first | exact Below.refl _ _ | (refine Below.trans ?_ (Below.mono hbel (by first | omega | (simp; omega) | simp))) | (refine Below.setCell ?_ (by first | omega | (simp; omega) | simp) _) | (refine Below.alloc ?_ (by first | omega | (simp; omega) | simp) _) | apply Below.drew | apply below_drewN)))⟩
          · have hK0 : 0 ≤ K := by omega
            have hle' : x < K := by omega
            have cPa := hPa.cell
            go_wp2_with fail
            refine (sAt_any p t K _).mono ?_
            rintro e w2 ⟨rfl, hb2⟩
            have cB := (Bx.on hb2).cell
            have hP2 := hPa.on hb2
            have b2 : Below w.heap.size w w2 := (by (have q_hb2 := Below.size hb2; (try simp at q_hb2); have q_hbel := Below.size hbel; (try simp at q_hbel); repeat (first | exact Below.refl _ _ | (refine Below.trans ?_ (Below.mono hb2 (by first | omega | (simp; omega) | simp))) | (refine Below.trans ?_ (Below.mono hbel (by first | omega | (simp; omega) | simp))) | (refine Below.setCell ?_ (by first | omega | (simp; omega) | simp) _) | (refine Below.alloc ?_ (by first | omega | (simp; omega) | simp) _) | apply Below.drew | apply below_drewN)))
            clear hPa
            by_cases hKS : K < S
            · obtain ⟨y, hy, hy0⟩ : ∃ y, sAt p t K = y ∧ 0 ≤ y := by
                refine ⟨_, rfl, ?_⟩
                unfold sAt
                rw [if_pos ⟨hm, hK0, by rw [← HS.out]; exact hKS⟩]
                unfold aheadI
                obtain ⟨g1, g2, _, _⟩ := gmay_true hm
                obtain ⟨_, _, _, _, _, _⟩ := geo_range g1 g2
                simp
                omega
              rw [hy]
              clear hy
              by_cases h256 : nd = 256
              · subst h256
                have hyes := Lib.hid (show foldE S (es.take (k + 1)) = some K by rw [hst.out]; unfold stE; simp only; rw [if_pos ⟨by omega, hKS, hLl⟩])
                go_wp2_with fail
                go_roundw
                case rel => exact ⟨k + 1, by omega, by go_num, ⟨K, rfl, hyes.out⟩, hP2, b2⟩
                case measure => simp [intOf] <;> omega
              · have hno := Lib.hid (HFA.out (by unfold stE; simp only; rw [if_neg (by rw [hLl]; omega)]))
                have hne : ((nd : Int) != 256) = true := by simp; omega
                clear h256
                go_wp2_with fail
                go_ret
                exact ⟨by rw [hno.out]; rfl, b2⟩
            · have hno := Lib.hid (HFA.out (by unfold stE; simp only; rw [if_neg (by omega)]))
              have hs : sAt p t K = -1 := by unfold sAt; rw [if_neg (by rw [← HS.out]; omega)]
              rw [hs]
              go_wp2_with fail
              go_ret
              exact ⟨by rw [hno.out]; rfl, b2⟩
        · obtain rfl : k = n := by omega
          have hyes := Lib.hid (show mayLog p t es = true by rw [hres.out]; have := HX.out; rw [List.take_of_length_le (by omega)] at this; rw [this]; rfl)
          go_wp2_with fail
          go_ret
          exact ⟨by rw [hyes.out]; rfl, hbel⟩
    · have hres := Lib.hid (show mayLog p t es = false by unfold mayLog; rw [decide_eq_false hlen1]; simp)
      have hcase : n = 0 ∨ (1 ≤ n ∧ t < n) := by omega
      clear hlen1
      rcases hcase with h0 | ⟨h1, h2⟩
      · subst h0
        go_enter Try.func49, Try.ntmps49
        go_wp2_with fail
        refine (check_yes p t _ hm).mono ?_
        rintro e w1 ⟨rfl, hb1⟩
        have cQ := (Q0.on hb1).cell
        go_wp2_with fail
        go_ret
        exact ⟨by rw [hres.out]; rfl, (by (have q_hb1 := Below.size hb1; (try simp at q_hb1); repeat (first | exact Below.refl _ _ | (refine Below.trans ?_ (Below.mono hb1 (by first | omega | (simp; omega) | simp))) | (refine Below.setCell ?_ (by first | omega | (simp; omega) | simp) _) | (refine Below.alloc ?_ (by first | omega | (simp; omega) | simp) _) | apply Below.drew | apply below_drewN)))⟩
      · have h1' : (1 : Int) ≤ n := by omega
        go_enter Try.func49, Try.ntmps49
        go_wp2_with fail
        refine (check_yes p t _ hm).mono ?_
        rintro e w1 ⟨rfl, hb1⟩
        have cQ := (Q0.on hb1).cell
        have cP := (P0.on hb1).cell
        go_wp2_with fail
        go_ret
        exact ⟨by rw [hres.out]; rfl, (by (have q_hb1 := Below.size hb1; (try simp at q_hb1); repeat (first | exact Below.refl _ _ | (refine Below.trans ?_ (Below.mono hb1 (by first | omega | (simp; omega) | simp))) | (refine Below.setCell ?_ (by first | omega | (simp; omega) | simp) _) | (refine Below.alloc ?_ (by first | omega | (simp; omega) | simp) _) | apply Below.drew | apply below_drewN)))⟩
end Go.Proofs.Ythepgnankelmeaa
