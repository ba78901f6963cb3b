/- Pages: the walk of Runs. -/
import Derived.Test.YtidlcplamgajpaaPages3

namespace Go.Proofs.Ytidlcplamgajpaa
open Go.RowKit

theorem FreshG.far {α : Type} {E : Enc α} {T t : TypeId} {B g : Nat} {w : World} {v : Value} {l : List α} {cs : Array Value} (h : FreshG E T B w v l) (hg : Blk w g t cs) (hne : T ≠ t) : some g ≠ v.ownBlock := by
  obtain ⟨A, c, rfl, hown⟩ := h
  exact fun e => own_blk_ne hown hg hne e.symm
/-- A run made longer in place. -/
theorem FreshG.longer {T : TypeId} {B : Nat} {w : World} {ys : List (Nat × Nat)} {r : Nat × Nat} {A : Option Addr} {n c : Nat} (h : FreshG runE T B w (.slice A n c) (ys ++ [r])) (hn : n = ys.length + 1) {g : Nat} {cur : Array Value} (hA : A = some ⟨g, 0, none⟩) (hB : Blk w g T cur) :
    FreshG runE T B (w.setCell ⟨g, ys.length * 2 + 1, none⟩ (.int .i64 ((r.2 : Int) + 1))) (.slice A n c) (ys ++ [(r.1, r.2 + 1)]) := by
  refine h.turn (by simp [hn]) (by omega) hA hB (hB.set_ (ys.length * 2 + 1) (.int .i64 ((r.2 : Int) + 1))) (by simp) (by simp [hn]) fun k j a u hk hu => ?_
  have hj : j < 2 := by have := (List.getElem?_eq_some_iff.1 hu).1; rw [runE.len] at this; exact this
  have hkl : k < ys.length + 1 := by have := (List.getElem?_eq_some_iff.1 hk).1; simpa using this
  have hsz : ys.length * 2 + 1 < cur.size := by
    obtain ⟨g', cur', hA', _, hB', hs, _⟩ := h.open_ (by simp [hn]) (by omega)
    rw [hA] at hA'
    injection hA' with hA'
    injection hA' with hA'
    subst hA'
    have e : cur = cur' := by unfold Blk at hB hB'; rw [hB] at hB'; injection hB' with hB'; injection hB'
    subst e
    rw [hn] at hs
    have : runE.sz = 2 := rfl
    rw [this] at hs
    omega
  show (cur.setIfInBounds _ _)[k * 2 + j]? = some u
  rw [Array.getElem?_setIfInBounds]
  by_cases hkk : k = ys.length
  · subst hkk
    rw [List.getElem?_append_right (by omega), Nat.sub_self] at hk
    simp at hk
    subst hk
    rcases (show j = 0 ∨ j = 1 by omega) with rfl | rfl
    · rw [if_neg (by omega)]
      have := h.cells (by simp [hn]) hA hB (k := ys.length) (j := 0) (a := r) (u := .int .i64 (r.1 : Int)) (by simp) rfl
      rw [show ys.length * runE.sz + 0 = ys.length * 2 + 0 from rfl] at this
      rw [this]
      exact hu
    · rw [if_pos rfl, if_pos hsz]
      rw [← hu]
      show some (Value.int .i64 ((r.2 : Int) + 1)) = some (Value.int .i64 (((r.2 + 1 : Nat)) : Int))
      congr 2
  · rw [if_neg (by omega)]
    rw [List.getElem?_append_left (by omega)] at hk
    exact h.cells (by simp [hn]) hA hB (k := k) (j := j) (a := a) (u := u) (by rw [List.getElem?_append_left (by omega)]; exact hk) hu

set_option maxRecDepth 100000 in
set_option maxHeartbeats 4000000 in
theorem runs_any (A : Option Addr) (n c : Nat) (l : List Pg) (w : World) (hr : RdG pgE w A n l) (hn : n ≤ 1000000) :
    Calls Try.prog 12 #[.slice A n c] w (GivesG runE 30 w (runsR l n)) := by
  go_enter Try.func12, Try.ntmps12
  go_wp2_with fail
  go_loopw [3, 4, 9] (fun v op i wr => ∃ k : Nat, k ≤ n ∧ i = .int .i64 k ∧ op = .bool (runsO l k) ∧ FreshG runE 30 w.heap.size wr v (runsR l k) ∧ Below w.heap.size w wr) (fun _ _ i _ => n - (intOf i).toNat)
  case atStart => exact ⟨0, by omega, rfl, rfl, FreshG.nil _ _ _, Below.refl _ _⟩
  case round =>
    obtain ⟨k, hk, rfl, rfl, hF, hbel⟩ := hrel
    have hbz := hbel.size
    by_cases hlt : k < n
    · obtain ⟨b, off, x, rfl, hb, hx, hcell⟩ := (hr.below hbel).at_ hlt
      have c0 := hcell 0 _ rfl
      have c1 := hcell 1 _ rfl
      have c2 := hcell 2 _ rfl
      have c3 := hcell 3 _ rfl
      have c4 := hcell 4 _ rfl
      simp only [show pgE.sz = 5 from rfl, Nat.add_zero] at c0 c1 c2 c3 c4
      obtain ⟨s1, s2, s3⟩ := runs_step hx
      have hok := runs_ok l k (by rw [hr.len]; omega)
      have hrb := runs_bound l k
      clear hcell hx
      go_wp2_with fail
      refine (free_any _ _ _ _ _ _).mono ?_
      rintro e w1 ⟨rfl, hb1⟩
      have Bp := (Blk.new wr 65 #[.int .i64 x.1, .int .i64 x.2.1, .int .i64 x.2.2.1, .int .i64 x.2.2.2.1, .int .u64 x.2.2.2.2]).on hb1
      have hF1 := (hF.alloc (.cells #[.int .i64 x.1, .int .i64 x.2.1, .int .i64 x.2.2.1, .int .i64 x.2.2.2.1, .int .u64 x.2.2.2.2] 65)).below hb1
      have hbel1 : Below w.heap.size w w1 := (by (have q_hb1 := Below.size hb1; (try simp at q_hb1); have q_hbel := Below.size hbel; (try simp at q_hbel); repeat (first | exact Below.refl _ _ | (refine Below.trans ?_ (Below.mono hb1 (by first | omega | (simp; omega) | simp))) | (refine Below.trans ?_ (Below.mono hbel (by first | omega | (simp; omega) | simp))) | (refine Below.setCell ?_ (by first | omega | (simp; omega) | simp) _) | (refine Below.alloc ?_ (by first | omega | (simp; omega) | simp) _) | apply Below.drew | apply below_drewN)))
      have cp := Bp.cell
      have zp := Bp.lt
      clear hF c0 c1 c2 c3 c4
      cases hf : freeB (x.1, x.2.1, x.2.2.1, x.2.2.2.1, x.2.2.2.2)
      · obtain ⟨e1, e2⟩ := s1 hf
        have E1 := Lib.hid e1
        have E2 := Lib.hid e2
        clear s1 s2 s3 e1 e2 hok
        go_wp2_with fail
        refine (free_any _ _ _ _ _ _).mono ?_
        rintro e w2 ⟨rfl, hb2⟩
        have cp2 := (Bp.on hb2).cell
        rw [hf]
        go_wp2_with fail
        refine (free_any _ _ _ _ _ _).mono ?_
        rintro e w3 ⟨rfl, hb3⟩
        rw [hf]
        go_wp2_with fail
        go_roundw
        case rel => exact ⟨k + 1, by omega, by go_num, by rw [E2.out], by rw [E1.out]; exact (hF1.below hb2).below hb3, (by (have q_hb3 := Below.size hb3; (try simp at q_hb3); have q_hb2 := Below.size hb2; (try simp at q_hb2); have q_hbel1 := Below.size hbel1; (try simp at q_hbel1); repeat (first | exact Below.refl _ _ | (refine Below.trans ?_ (Below.mono hb3 (by first | omega | (simp; omega) | simp))) | (refine Below.trans ?_ (Below.mono hb2 (by first | omega | (simp; omega) | simp))) | (refine Below.trans ?_ (Below.mono hbel1 (by first | omega | (simp; omega) | simp))) | (refine Below.setCell ?_ (by first | omega | (simp; omega) | simp) _) | (refine Below.alloc ?_ (by first | omega | (simp; omega) | simp) _) | apply Below.drew | apply below_drewN)))⟩
        case measure => simp [intOf] <;> omega
      · cases ho : runsO l k
        · obtain ⟨e1, e2⟩ := s2 hf ho
          have E1 := Lib.hid e1
          have E2 := Lib.hid e2
          clear s1 s2 s3 e1 e2 hok
          go_wp2_with fail
          refine (free_any _ _ _ _ _ _).mono ?_
          rintro e w2 ⟨rfl, hb2⟩
          have cp2 := (Bp.on hb2).cell
          have hF2 := hF1.below hb2
          have hbel2 : Below w.heap.size w w2 := (by (have q_hb2 := Below.size hb2; (try simp at q_hb2); have q_hbel1 := Below.size hbel1; (try simp at q_hbel1); repeat (first | exact Below.refl _ _ | (refine Below.trans ?_ (Below.mono hb2 (by first | omega | (simp; omega) | simp))) | (refine Below.trans ?_ (Below.mono hbel1 (by first | omega | (simp; omega) | simp))) | (refine Below.setCell ?_ (by first | omega | (simp; omega) | simp) _) | (refine Below.alloc ?_ (by first | omega | (simp; omega) | simp) _) | apply Below.drew | apply below_drewN)))
          have hz2 := hbel2.size
          have zp2 := (Bp.on hb2).lt
          rw [hf]
          go_wp2_with (at_builtin; refine wpList_append_G (E := runE) _ rfl (.tmp 33) (.tmp 36) _ rfl w.heap.size 30 Try.underlying27 infoRun rfl _ _ rfl (hF2.alloc _) _ _ _ [(k, 1)] rfl (RdG.boxed _ _ (k, 1) _ rfl) (by omega) (by omega) (by simp; omega) ?_; intro b' w3 hF3 hg3 hb3; have Bp3 := (((Bp.on hb2).alloc (.cells #[.int .i64 (k : Int), .int .i64 1] 30)).grown hg3 (hF2.far (Bp.on hb2) (by decide))).cell)
          have hbel3 : Below w.heap.size w w3 := (by (have q_hb3 := Below.size hb3; (try simp at q_hb3); have q_hbel2 := Below.size hbel2; (try simp at q_hbel2); repeat (first | exact Below.refl _ _ | (refine Below.trans ?_ (Below.mono hb3 (by first | omega | (simp; omega) | simp))) | (refine Below.trans ?_ (Below.mono hbel2 (by first | omega | (simp; omega) | simp))) | (refine Below.setCell ?_ (by first | omega | (simp; omega) | simp) _) | (refine Below.alloc ?_ (by first | omega | (simp; omega) | simp) _) | apply Below.drew | apply below_drewN)))
          go_wp2_with fail
          refine (free_any _ _ _ _ _ _).mono ?_
          rintro e w4 ⟨rfl, hb4⟩
          rw [hf]
          go_wp2_with fail
          go_roundw
          case rel => exact ⟨k + 1, by omega, by go_num, by rw [E2.out], by rw [E1.out]; exact hF3.below hb4, (by (have q_hb4 := Below.size hb4; (try simp at q_hb4); have q_hbel3 := Below.size hbel3; (try simp at q_hbel3); repeat (first | exact Below.refl _ _ | (refine Below.trans ?_ (Below.mono hb4 (by first | omega | (simp; omega) | simp))) | (refine Below.trans ?_ (Below.mono hbel3 (by first | omega | (simp; omega) | simp))) | (refine Below.setCell ?_ (by first | omega | (simp; omega) | simp) _) | (refine Below.alloc ?_ (by first | omega | (simp; omega) | simp) _) | apply Below.drew | apply below_drewN)))⟩
          case measure => simp [intOf] <;> omega
        · obtain ⟨r, hr0, her⟩ := hok.opn ho
          obtain ⟨ys, hys⟩ := List.getLast?_eq_some_iff.1 hr0
          obtain ⟨e1, e2⟩ := s3 ys r hf ho hys
          have hlen : (runsR l k).length = ys.length + 1 := by rw [hys]; simp
          have hr2 : r.2 ≤ k := by omega
          rw [hys] at hF1
          obtain ⟨A1, c1, rfl, _, _, hc1, hc2⟩ := hF1.rdn (ys.length + 1) (by simp)
          obtain ⟨g, cur, rfl, hg, hB, hs, _, _⟩ := hF1.open_ (by simp) (by omega)
          have hlong := hF1.longer rfl rfl hB
          have cr := (hB.cell (ys.length * 2 + 1)).trans (hF1.cells (by simp) rfl hB (k := ys.length) (j := 1) (a := r) (u := .int .i64 (r.2 : Int)) (by simp) rfl)
          have fr := hB.frozen (ys.length * 2 + 1)
          have hne := hF1.far Bp (by decide)
          have hgne : g ≠ wr.heap.size := by intro e; apply hne; rw [e]; rfl
          have Bp2 := Bp.far (p := ⟨g, ys.length * 2 + 1, none⟩) (Ne.symm hgne) (.int .i64 ((r.2 : Int) + 1))
          have E1 := Lib.hid e1
          have E2 := Lib.hid e2
          have hyk : ys.length + 1 ≤ 1000000 := by omega
          unfold maxLen at hc2
          have q1 : ys.length < ys.length + 1 := by omega
          have cp2 := Bp2.cell
          clear s1 s2 s3 e1 e2 hok hr0 her hys hlen hrb hs hne
          go_wp2_with fail
          refine (free_any _ _ _ _ _ _).mono ?_
          rintro e w2 ⟨rfl, hb2⟩
          rw [hf]
          go_wp2_with fail
          go_roundw
          case rel => exact ⟨k + 1, by omega, by go_num, by rw [E2.out], by rw [E1.out]; exact hlong.below hb2, (by (have q_hb2 := Below.size hb2; (try simp at q_hb2); have q_hbel1 := Below.size hbel1; (try simp at q_hbel1); repeat (first | exact Below.refl _ _ | (refine Below.trans ?_ (Below.mono hb2 (by first | omega | (simp; omega) | simp))) | (refine Below.trans ?_ (Below.mono hbel1 (by first | omega | (simp; omega) | simp))) | (refine Below.setCell ?_ (by first | omega | (simp; omega) | simp) _) | (refine Below.alloc ?_ (by first | omega | (simp; omega) | simp) _) | apply Below.drew | apply below_drewN)))⟩
          case measure => simp [intOf] <;> omega
    · obtain rfl : k = n := by omega
      go_wp2_with fail
      go_ret
      exact ⟨_, rfl, hF, hbel⟩

/-- The first run of at least m. -/
def fitB (m : Int) (r : Nat × Nat) : Bool := decide (0 < m) && decide (m ≤ (r.2 : Int))
def firstR (rs : List (Nat × Nat)) (m : Int) : Int × Bool := match rs.find? (fitB m) with | some r => (r.1, true) | none => (0, false)
theorem firstR_hit {rs : List (Nat × Nat)} {m : Int} {k : Nat} {x : Nat × Nat} (hx : rs[k]? = some x) (hf : fitB m x = true) (hn : (rs.take k).any (fitB m) = false) : firstR rs m = ((x.1 : Int), true) := by
  have hk : k < rs.length := (List.getElem?_eq_some_iff.1 hx).1
  have e : rs[k] = x := (List.getElem?_eq_some_iff.1 hx).2
  have h1 : rs.find? (fitB m) = some x := by
    rw [List.find?_eq_some_iff_getElem]
    refine ⟨hf, k, hk, e, fun j hj => ?_⟩
    rw [List.any_eq_false] at hn
    have hjl : j < (rs.take k).length := by simp; omega
    have := hn ((rs.take k)[j]) (List.getElem_mem hjl)
    simpa using this
  unfold firstR
  rw [h1]
theorem firstR_none {rs : List (Nat × Nat)} {m : Int} (h : rs.any (fitB m) = false) : firstR rs m = (0, false) := by
  have h1 : rs.find? (fitB m) = none := by
    rw [List.find?_eq_none]
    intro x hx
    rw [List.any_eq_false] at h
    exact h x hx
  unfold firstR
  rw [h1]
theorem anyR_step {f : Nat × Nat → Bool} {l : List (Nat × Nat)} {k : Nat} {x : Nat × Nat} (hx : l[k]? = some x) : (l.take (k + 1)).any f = ((l.take k).any f || f x) := by rw [take_step hx]; simp
def Ret2I (w : World) (r : Int × Bool) (e : Ending) (w' : World) : Prop := e = .returned (.tuple #[.int .i64 r.1, .bool r.2]) ∧ Below w.heap.size w w'

set_option maxRecDepth 100000 in
set_option maxHeartbeats 4000000 in
theorem first_any (A : Option Addr) (n c : Nat) (l : List Pg) (m : Int) (w : World) (hr : RdG pgE w A n l) (hn : n ≤ 1000000) :
    Calls Try.prog 13 #[.slice A n c, .int .i64 m] w (Ret2I w (firstR (runsR l n) m)) := by
  go_enter Try.func13, Try.ntmps13
  go_wp2_with fail
  refine (runs_any A n c l _ hr hn).mono ?_
  rintro e w1 ⟨v, rfl, hF, hb1⟩
  have hrb := runs_bound l n
  obtain ⟨rs, hrs⟩ : ∃ rs, rs = runsR l n := ⟨_, rfl⟩
  rw [← hrs] at hF hrb ⊢
  have HRS := Lib.hid hrs
  clear hrs
  obtain ⟨q, hq⟩ : ∃ q, q = rs.length := ⟨_, rfl⟩
  obtain ⟨A1, c1, rfl, hR, _, hc1, hc2⟩ := hF.rdn q hq.symm
  have hq6 : q ≤ 1000000 := by omega
  clear hrb hF hq
  unfold maxLen at hc2
  go_wp2_with fail
  go_loopw [11] (fun i wr => ∃ k : Nat, k ≤ q ∧ i = .int .i64 k ∧ (rs.take k).any (fitB m) = false ∧ Below w.heap.size w wr ∧ Below w1.heap.size w1 wr) (fun i _ => q - (intOf i).toNat)
  case atStart => exact ⟨0, by omega, rfl, rfl, hb1, Below.refl _ _⟩
  case round =>
    obtain ⟨k, hk, rfl, hno, hbel, hbel1⟩ := hrel
    have HNO := Lib.hid hno
    clear hno
    by_cases hlt : k < q
    · obtain ⟨b, off, x, rfl, hb, hx, hcell⟩ := (hR.below hbel1).at_ hlt
      have c0 := hcell 0 _ rfl
      have c1 := hcell 1 _ rfl
      simp only [show runE.sz = 2 from rfl, Nat.add_zero] at c0 c1
      have HX := Lib.hid hx
      clear hcell hx
      have hcase : m ≤ 0 ∨ (0 < m ∧ m ≤ (x.2 : Int)) ∨ (0 < m ∧ (x.2 : Int) < m) := by omega
      rcases hcase with h1 | ⟨h1, h2⟩ | ⟨h1, h2⟩
      · have hst := Lib.hid (show (rs.take (k + 1)).any (fitB m) = false by rw [anyR_step HX.out, HNO.out]; simp [fitB]; omega)
        go_wp2_with fail
        go_roundw
        case rel => exact ⟨k + 1, by omega, by go_num, hst.out, (by (have q_hbel := Below.size hbel; (try simp at q_hbel); repeat (first | exact Below.refl _ _ | (refine Below.trans ?_ (Below.mono hbel (by first | omega | (simp; omega) | simp))) | (refine Below.setCell ?_ (by first | omega | (simp; omega) | simp) _) | (refine Below.alloc ?_ (by first | omega | (simp; omega) | simp) _) | apply Below.drew | apply below_drewN))), (by (have q_hbel1 := Below.size hbel1; (try simp at q_hbel1); repeat (first | exact Below.refl _ _ | (refine Below.trans ?_ (Below.mono hbel1 (by first | omega | (simp; omega) | simp))) | (refine Below.setCell ?_ (by first | omega | (simp; omega) | simp) _) | (refine Below.alloc ?_ (by first | omega | (simp; omega) | simp) _) | apply Below.drew | apply below_drewN)))⟩
        case measure => simp [intOf] <;> omega
      · have hst := Lib.hid (firstR_hit (m := m) HX.out (by simp [fitB]; omega) HNO.out)
        go_wp2_with fail
        go_ret2
        exact ⟨by rw [← HRS.out, hst.out]; rfl, (by (have q_hbel := Below.size hbel; (try simp at q_hbel); repeat (first | exact Below.refl _ _ | (refine Below.trans ?_ (Below.mono hbel (by first | omega | (simp; omega) | simp))) | (refine Below.setCell ?_ (by first | omega | (simp; omega) | simp) _) | (refine Below.alloc ?_ (by first | omega | (simp; omega) | simp) _) | apply Below.drew | apply below_drewN)))⟩
      · have hst := Lib.hid (show (rs.take (k + 1)).any (fitB m) = false by rw [anyR_step HX.out, HNO.out]; simp [fitB]; omega)
        go_wp2_with fail
        go_roundw
        case rel => exact ⟨k + 1, by omega, by go_num, hst.out, (by (have q_hbel := Below.size hbel; (try simp at q_hbel); repeat (first | exact Below.refl _ _ | (refine Below.trans ?_ (Below.mono hbel (by first | omega | (simp; omega) | simp))) | (refine Below.setCell ?_ (by first | omega | (simp; omega) | simp) _) | (refine Below.alloc ?_ (by first | omega | (simp; omega) | simp) _) | apply Below.drew | apply below_drewN))), (by (have q_hbel1 := Below.size hbel1; (try simp at q_hbel1); repeat (first | exact Below.refl _ _ | (refine Below.trans ?_ (Below.mono hbel1 (by first | omega | (simp; omega) | simp))) | (refine Below.setCell ?_ (by first | omega | (simp; omega) | simp) _) | (refine Below.alloc ?_ (by first | omega | (simp; omega) | simp) _) | apply Below.drew | apply below_drewN)))⟩
        case measure => simp [intOf] <;> omega
    · obtain rfl : k = q := by omega
      have hst := Lib.hid (firstR_none (show rs.any (fitB m) = false by have := HNO.out; rw [List.take_of_length_le (by rw [hR.len]; omega)] at this; exact this))
      go_wp2_with fail
      go_ret2
      exact ⟨by rw [← HRS.out, hst.out]; rfl, hbel⟩
end Go.Proofs.Ytidlcplamgajpaa
