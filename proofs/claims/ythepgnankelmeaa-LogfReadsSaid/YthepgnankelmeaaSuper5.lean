/- Contracts of the functions on supers: Epochs. -/
import Derived.Test.YthepgnankelmeaaSuper3
import Derived.Test.YthepgnankelmeaaNums
import Derived.Test.YthepgnankelmeaaGeom3
import Derived.Laws.EntriesVeiled
import Derived.Outline
namespace Go.Proofs.Ythepgnankelmeaa
open Go.RowKit

theorem info64 : (Try.prog.info? 46).map (fun i => (i.zero, i.size, i.bytes)) = some (some (.int .u64 0), 1, 8) := by kernel_rfl
/-- Number k of bytes, eight each. -/
def numAt (b : List UInt8) (k : Nat) : Nat := getL ((b.drop (8 * k)).take 8)
def epsL (b : List UInt8) (S : Nat) : List Nat := (List.range S).map (numAt b)
theorem epsL_len (b : List UInt8) (S : Nat) : (epsL b S).length = S := by simp [epsL]
theorem epsL_get (b : List UInt8) (S k : Nat) (h : k < S) : (epsL b S)[k]? = some (numAt b k) := by simp [epsL, h]
def shortB (l : List UInt8) : Bool := decide (l.length ≠ 256)
/-- The place of the first that is so; -1: there is none. -/
def firstS (f : List UInt8 → Bool) (l : List (List UInt8)) : Int := if l.any f then (l.findIdx f : Int) else -1
theorem firstS_hit {f : List UInt8 → Bool} {l : List (List UInt8)} {k : Nat} {x : List UInt8} (hx : l[k]? = some x) (hf : f x = true) (hn : (l.take k).any f = false) : firstS f l = k := by
  have hk : k < l.length := (List.getElem?_eq_some_iff.1 hx).1
  have e : l[k] = x := (List.getElem?_eq_some_iff.1 hx).2
  have h1 : l.findIdx f = k := by
    rw [List.findIdx_eq hk]
    refine ⟨by rw [e]; exact hf, fun j hj => ?_⟩
    rw [List.any_eq_false] at hn
    have hjl : j < (l.take k).length := by simp; omega
    have := hn ((l.take k)[j]) (List.getElem_mem hjl)
    simpa using this
  have h2 : l.any f = true := List.any_eq_true.2 ⟨x, e ▸ List.getElem_mem hk, hf⟩
  unfold firstS
  rw [if_pos h2, h1]
theorem firstS_none {f : List UInt8 → Bool} {l : List (List UInt8)} (h : l.any f = false) : firstS f l = -1 := by unfold firstS; rw [h]; rfl
theorem anyS_step {f : List UInt8 → Bool} {l : List (List UInt8)} {k : Nat} {x : List UInt8} (hx : l[k]? = some x) : (l.take (k + 1)).any f = ((l.take k).any f || f x) := by rw [take_step hx]; simp

theorem bad_len (A : Option Addr) (n c : Nat) (l : List UInt8) (w : World) (hl : l.length = n) : Calls Try.prog 78 #[.slice A n c] w fun e w' => e = .returned (.bool (shortB l)) ∧ w = w' := by
  have hq := Lib.hid (show ((n : Int) != 256) = shortB l by unfold shortB; rw [hl, Bool.eq_iff_iff]; simp; omega)
  go_enter Try.func78, Try.ntmps78
  go_wp2_with fail
  go_ret
  exact ⟨ret_bool hq.out, rfl⟩
set_option maxRecDepth 100000 in
set_option maxHeartbeats 2000000 in
theorem idx_len (A : Option Addr) (n c : Nat) (ls : List (List UInt8)) (w : World) (hr : RdSS w A n ls) (hn : n ≤ 1000000) :
    Calls Try.prog 91 #[.slice A n c, .func (Fn.func 78) #[] #[]] w fun e w' => e = .returned (.int .i64 (firstS shortB ls)) ∧ w = w' := by
  go_enter Try.func91, Try.ntmps91
  go_wp2_with fail
  go_loop [8] (fun i => ∃ k : Nat, k ≤ n ∧ i = .int .i64 k ∧ (ls.take k).any shortB = false) (fun i => n - (intOf i).toNat)
  case atStart => exact ⟨0, by omega, rfl, rfl⟩
  case round =>
    obtain ⟨k, hk, rfl, hno⟩ := hrel
    have HNO := Lib.hid hno
    clear hno
    by_cases hlt : k < n
    · obtain ⟨b, off, l, Ai, ci, rfl, hb, hx, hcell, hR, _, _⟩ := hr.at_ hlt
      have HX := Lib.hid hx
      clear hx
      go_wp2_with fail
      refine (bad_len Ai l.length ci l _ rfl).mono ?_
      rintro e w1 ⟨rfl, rfl⟩
      cases hf : shortB l
      · have hst := Lib.hid (show (ls.take (k + 1)).any shortB = false by rw [anyS_step HX.out, HNO.out, hf]; rfl)
        go_wp2_with fail
        go_round
        case rel => exact ⟨k + 1, by omega, by go_num, hst.out⟩
        case measure => simp [intOf] <;> omega
      · have hst := Lib.hid (firstS_hit HX.out hf HNO.out)
        go_wp2_with fail
        go_ret
        exact ⟨by rw [hst.out]; rfl, rfl⟩
    · obtain rfl : k = n := by omega
      have hst := Lib.hid (firstS_none (show ls.any shortB = false by have := HNO.out; rw [List.take_of_length_le (by rw [hr.len]; omega)] at this; exact this))
      go_wp2_with fail
      go_ret
      exact ⟨by rw [hst.out]; rfl, rfl⟩
theorem has_len (A : Option Addr) (n c : Nat) (ls : List (List UInt8)) (w : World) (hr : RdSS w A n ls) (hn : n ≤ 1000000) :
    Calls Try.prog 79 #[.slice A n c, .func (Fn.func 78) #[] #[]] w fun e w' => e = .returned (.bool (ls.any shortB)) ∧ w = w' := by
  have hst := Lib.hid (show decide (firstS shortB ls ≥ 0) = ls.any shortB by unfold firstS; cases h : ls.any shortB <;> simp)
  go_enter Try.func79, Try.ntmps79
  go_wp2_with fail
  refine (idx_len A n c ls _ hr hn).mono ?_
  rintro e w1 ⟨rfl, rfl⟩
  go_wp2_with fail
  go_ret
  exact ⟨ret_bool hst.out, rfl⟩

/-- A call's end: numbers of its own and an error's number. -/
def GivesN (T : TypeId) (w : World) (l : List Nat) (x : Int) (e : Ending) (w' : World) : Prop := ∃ v, e = .returned (.tuple #[v, .int .i64 x]) ∧ FreshG u64E T w.heap.size w' v l ∧ Below w.heap.size w w'
theorem flat_len256 : ∀ ls : List (List UInt8), ls.any shortB = false → ls.flatten.length = 256 * ls.length
  | [], _ => by simp
  | l :: ls, h => by
    rw [List.any_cons, Bool.or_eq_false_iff] at h
    have ih := flat_len256 ls h.2
    have hl : l.length = 256 := by have := h.1; unfold shortB at this; simpa using this
    rw [List.flatten_cons, List.length_append, ih, hl, List.length_cons]
    omega
theorem take_eight (b : List UInt8) (k : Nat) (h : 8 * k + 8 ≤ b.length) : takeO (b.drop (8 * k)) 0 8 = (b.drop (8 * k)).take 8 ∧ takeL (b.drop (8 * k)) 0 8 = b.drop (8 * (k + 1)) ∧ takeE (b.drop (8 * k)) 0 8 = 0 := by
  obtain ⟨h1, h2, h3⟩ := take_yes (l := b.drop (8 * k)) (n := 8) (by rw [List.length_drop]; omega)
  refine ⟨h1, ?_, h3⟩
  have : takeL (b.drop (8 * k)) 0 ((8 : Nat) : Int) = (b.drop (8 * k)).drop 8 := h2
  rw [List.drop_drop] at this
  exact this

/-- No epochs are told. -/
def EpsNo (w : World) (e : Ending) (w' : World) : Prop := e = .returned (.tuple #[.slice none 0 0, .int .i64 1]) ∧ Below w.heap.size w w'
set_option maxRecDepth 100000 in
set_option maxHeartbeats 4000000 in
theorem epochs_few (p t : Int) (A : Option Addr) (n c : Nat) (w : World) (h : gmay p t = false ∨ (n : Int) ≠ epochsI p) :
    Calls Try.prog 43 #[.agg #[.int .i64 p, .int .i64 t], .slice A n c] w (EpsNo w) := by
  have B0 : Blk (w.alloc (.cells #[.int .i64 p, .int .i64 t] 23)) w.heap.size 23 #[.int .i64 p, .int .i64 t] := Blk.new _ _ _
  cases hm : gmay p t
  · go_enter Try.func43, Try.ntmps43
    go_wp2_with fail
    refine (check_no p t _ hm).mono ?_
    rintro e w1 ⟨rfl, hb1⟩
    go_wp2_with fail
    go_ret2
    exact ⟨rfl, (by (have q_hb1 := Below.size hb1; (try simp at q_hb1); repeat (first | exact Below.refl _ _ | (refine Below.trans ?_ (Below.mono hb1 (by first | omega | (simp; omega) | simp))) | (refine Below.setCell ?_ (by first | omega | (simp; omega) | simp) _) | (refine Below.alloc ?_ (by first | omega | (simp; omega) | simp) _) | apply Below.drew | apply below_drewN)))⟩
  · have hn1 : (n : Int) ≠ epochsI p := by
      rcases h with h | h
      · rw [hm] at h; cases h
      · exact h
    have hq : ((n : Int) != epochsI p) = true := by simp [hn1]
    clear hn1 h
    go_enter Try.func43, Try.ntmps43
    go_wp2_with fail
    refine (check_yes p t _ hm).mono ?_
    rintro e w1 ⟨rfl, hb1⟩
    have B1 := B0.on hb1
    have c1 := B1.cell
    go_wp2_with fail
    refine (gepochs p t _ hm).mono ?_
    rintro e w2 ⟨rfl, hb2⟩
    go_wp2_with fail
    go_ret2
    exact ⟨rfl, (by (have q_hb2 := Below.size hb2; (try simp at q_hb2); have q_hb1 := Below.size hb1; (try simp at q_hb1); repeat (first | exact Below.refl _ _ | (refine Below.trans ?_ (Below.mono hb2 (by first | omega | (simp; omega) | simp))) | (refine Below.trans ?_ (Below.mono hb1 (by first | omega | (simp; omega) | simp))) | (refine Below.setCell ?_ (by first | omega | (simp; omega) | simp) _) | (refine Below.alloc ?_ (by first | omega | (simp; omega) | simp) _) | apply Below.drew | apply below_drewN)))⟩
set_option maxRecDepth 100000 in
set_option maxHeartbeats 4000000 in
theorem epochs_short (p t : Int) (A : Option Addr) (n c : Nat) (ls : List (List UInt8)) (w : World) (hr : RdSS w A n ls) (hm : gmay p t = true) (hn1 : (n : Int) = epochsI p) (hany : ls.any shortB = true) :
    Calls Try.prog 43 #[.agg #[.int .i64 p, .int .i64 t], .slice A n c] w (EpsNo w) := by
  have B0 : Blk (w.alloc (.cells #[.int .i64 p, .int .i64 t] 23)) w.heap.size 23 #[.int .i64 p, .int .i64 t] := Blk.new _ _ _
  obtain ⟨h1, h2, _, _⟩ := gmay_true hm
  have hE : epochsI p ≤ 3 := (geo_range h1 h2).2.2.2.2.2
  have HN := Lib.hid hn1
  have HA := Lib.hid hany
  have hn : n ≤ 1000000 := by omega
  clear hn1 hany
  go_enter Try.func43, Try.ntmps43
  go_wp2_with fail
  refine (check_yes p t _ hm).mono ?_
  rintro e w1 ⟨rfl, hb1⟩
  have B1 := B0.on hb1
  have c1 := B1.cell
  have hr1 := (hr.alloc (.cells #[.int .i64 p, .int .i64 t] 23)).below hb1
  go_wp2_with fail
  refine (gepochs p t _ hm).mono ?_
  rintro e w2 ⟨rfl, hb2⟩
  rw [← HN.out]
  go_wp2_with fail
  refine (has_len A n c ls _ (hr1.below hb2) hn).mono ?_
  rintro e w3 ⟨rfl, rfl⟩
  rw [HA.out]
  go_wp2_with fail
  go_ret2
  exact ⟨rfl, (by (have q_hb2 := Below.size hb2; (try simp at q_hb2); have q_hb1 := Below.size hb1; (try simp at q_hb1); repeat (first | exact Below.refl _ _ | (refine Below.trans ?_ (Below.mono hb2 (by first | omega | (simp; omega) | simp))) | (refine Below.trans ?_ (Below.mono hb1 (by first | omega | (simp; omega) | simp))) | (refine Below.setCell ?_ (by first | omega | (simp; omega) | simp) _) | (refine Below.alloc ?_ (by first | omega | (simp; omega) | simp) _) | apply Below.drew | apply below_drewN)))⟩
end Go.Proofs.Ythepgnankelmeaa
