/- Logs: blocks' log, by the program: Parse. -/
import Derived.Test.YthepgnankelmeaaLogM
import Derived.Test.YthepgnankelmeaaLog13
import Derived.Test.YthepgnankelmeaaLog14
namespace Go.Proofs.Ythepgnankelmeaa
open Go.RowKit

theorem lbad_len (A : Option Addr) (n c : Nat) (l : List UInt8) (w : World) (hl : l.length = n) : Calls Try.prog 84 #[.slice A n c] w fun e w' => e = .returned (.bool (shortB l)) ∧ w = w' := by
  have hq := Lib.hid (show ((n : Int) != 256) = shortB l by unfold shortB; rw [hl, Bool.eq_iff_iff]; simp; omega)
  go_enter Try.func84, Try.ntmps84
  go_wp2_with fail
  go_ret
  exact ⟨ret_bool hq.out, rfl⟩
set_option maxRecDepth 100000 in
set_option maxHeartbeats 2000000 in
theorem lidx_len (A : Option Addr) (n c : Nat) (ls : List (List UInt8)) (w : World) (hr : RdSS w A n ls) (hn : n ≤ 1000000) :
    Calls Try.prog 91 #[.slice A n c, .func (Fn.func 84) #[] #[]] w fun e w' => e = .returned (.int .i64 (firstS shortB ls)) ∧ w = w' := by
  go_enter Try.func91, Try.ntmps91
  go_wp2_with fail
  go_loop [8] (fun i => ∃ k : Nat, k ≤ n ∧ i = .int .i64 k ∧ (ls.take k).any shortB = false) (fun i => n - (intOf i).toNat)
  case atStart => exact ⟨0, by omega, rfl, rfl⟩
  case round =>
    obtain ⟨k, hk, rfl, hno⟩ := hrel
    have HNO := Lib.hid hno
    clear hno
    by_cases hlt : k < n
    · obtain ⟨b, off, l, Ai, ci, rfl, hb, hx, hcell, hR, _, _⟩ := hr.at_ hlt
      have HX := Lib.hid hx
      clear hx
      go_wp2_with fail
      refine (lbad_len Ai l.length ci l _ rfl).mono ?_
      rintro e w1 ⟨rfl, rfl⟩
      cases hf : shortB l
      · have hst := Lib.hid (show (ls.take (k + 1)).any shortB = false by rw [anyS_step HX.out, HNO.out, hf]; rfl)
        go_wp2_with fail
        go_round
        case rel => exact ⟨k + 1, by omega, by go_num, hst.out⟩
        case measure => simp [intOf] <;> omega
      · have hst := Lib.hid (firstS_hit HX.out hf HNO.out)
        go_wp2_with fail
        go_ret
        exact ⟨by rw [hst.out]; rfl, rfl⟩
    · obtain rfl : k = n := by omega
      have hst := Lib.hid (firstS_none (show ls.any shortB = false by have := HNO.out; rw [List.take_of_length_le (by rw [hr.len]; omega)] at this; exact this))
      go_wp2_with fail
      go_ret
      exact ⟨by rw [hst.out]; rfl, rfl⟩
theorem lhas_len (A : Option Addr) (n c : Nat) (ls : List (List UInt8)) (w : World) (hr : RdSS w A n ls) (hn : n ≤ 1000000) :
    Calls Try.prog 79 #[.slice A n c, .func (Fn.func 84) #[] #[]] w fun e w' => e = .returned (.bool (ls.any shortB)) ∧ w = w' := by
  have hst := Lib.hid (show decide (firstS shortB ls ≥ 0) = ls.any shortB by unfold firstS; cases h : ls.any shortB <;> simp)
  go_enter Try.func79, Try.ntmps79
  go_wp2_with fail
  refine (lidx_len A n c ls _ hr hn).mono ?_
  rintro e w1 ⟨rfl, rfl⟩
  go_wp2_with fail
  go_ret
  exact ⟨ret_bool hst.out, rfl⟩

/-- What is parsed: count, entries, error's number. -/
def parC (p t : Int) (b : List UInt8) (bs : List (List UInt8)) : Int := if goodL p t b bs = true then cntB b else 0
def parS (p t : Int) (b : List UInt8) (bs : List (List UInt8)) : List Ent := if goodL p t b bs = true then esB b bs (nB b) else []
def parE (p t : Int) (b : List UInt8) (bs : List (List UInt8)) : Int := if goodL p t b bs = true then 0 else 4
/-- Parse's states as a round goes on: ahead; the number read; the bytes cloned; the record appended; stored. -/
def ParInv (TL Tw T2 : TypeId) (L g Br B B0 : Nat) (T8 : TypeId) (cnt : Int) (v : Value) (es es' : List Ent) (l l' : List UInt8) : Nat → Value → World → Prop
  | 0, _, W => Blk W L TL #[.int .u64 cnt, v] ∧ OwnR entK T2 Br B0 T8 W v es ∧ RowX Tw T8 B W g l
  | 1, _, W => Blk W L TL #[.int .u64 cnt, v] ∧ OwnR entK T2 Br B0 T8 W v es ∧ RowX Tw T8 B W g l'
  | 2, _, W => Blk W L TL #[.int .u64 cnt, v] ∧ OwnR entK T2 Br B0 T8 W v es ∧ RowX Tw T8 B W g l'
  | 3, u, W => Blk W L TL #[.int .u64 cnt, v] ∧ OwnR entK T2 Br B0 T8 W u es' ∧ RowX Tw T8 B W g l'
  | _, _, W => ∃ u, Blk W L TL #[.int .u64 cnt, u] ∧ OwnR entK T2 Br B0 T8 W u es' ∧ RowX Tw T8 B W g l'
section
variable {TL Tw T2 : TypeId} {L g Br B B0 : Nat} {T8 : TypeId} {cnt : Int} {v : Value} {es es' : List Ent} {l l' : List UInt8}
theorem ParInv.stab : ∀ i u w w', Below w.heap.size w w' → ParInv TL Tw T2 L g Br B B0 T8 cnt v es es' l l' i u w → ParInv TL Tw T2 L g Br B B0 T8 cnt v es es' l l' i u w'
  | 0, _, _, _, hb, h => ⟨h.1.on hb, h.2.1.below hb, h.2.2.below hb⟩
  | 1, _, _, _, hb, h => ⟨h.1.on hb, h.2.1.below hb, h.2.2.below hb⟩
  | 2, _, _, _, hb, h => ⟨h.1.on hb, h.2.1.below hb, h.2.2.below hb⟩
  | 3, _, _, _, hb, h => ⟨h.1.on hb, h.2.1.below hb, h.2.2.below hb⟩
  | _ + 4, _, _, _, hb, ⟨u, h⟩ => ⟨u, h.1.on hb, h.2.1.below hb, h.2.2.below hb⟩
theorem ParInv.low : ∀ {i : Nat} {u : Value} {W : World}, i ≤ 2 → ParInv TL Tw T2 L g Br B B0 T8 cnt v es es' l l' i u W → Blk W L TL #[.int .u64 cnt, v]
  | 0, _, _, _, h => h.1
  | 1, _, _, _, h => h.1
  | 2, _, _, _, h => h.1
  | _ + 3, _, _, hi, _ => by omega
end
theorem drop_two (b : List UInt8) (k : Nat) : (b.drop (18 + 2 * k)).drop 2 = b.drop (18 + 2 * (k + 1)) := by rw [List.drop_drop]; congr 1

/-- A parse's end: the log and an error's number. -/
def ParsedL (p t : Int) (b : List UInt8) (bs : List (List UInt8)) (w : World) (e : Ending) (w' : World) : Prop :=
  ∃ v, e = .returned (.tuple #[.agg #[.int .u64 (parC p t b bs), v], .int .i64 (parE p t b bs)]) ∧ OwnR entK 102 w.heap.size 0 5 w' v (parS p t b bs) ∧ Below w.heap.size w w'
/-- No log is parsed, for what is no log's blocks. -/
def ParNo (w : World) (e : Ending) (w' : World) : Prop := e = .returned (.tuple #[.agg #[.int .u64 0, .slice none 0 0], .int .i64 1]) ∧ Below w.heap.size w w'
set_option maxRecDepth 100000 in
set_option maxHeartbeats 4000000 in
theorem lparse_few (p t : Int) (A : Option Addr) (n c : Nat) (w : World) (h : gmay p t = false ∨ (n : Int) ≠ 1 + t) :
    Calls Try.prog 52 #[.agg #[.int .i64 p, .int .i64 t], .slice A n c] w (ParNo w) := by
  have G0 : Blk ((w.alloc (.cells #[.int .i64 p, .int .i64 t] 23)).alloc (.cells #[.int .u64 0, .slice none 0 0] 56)) w.heap.size 23 #[.int .i64 p, .int .i64 t] := (Blk.new _ _ _).alloc _
  have R0 : Blk ((w.alloc (.cells #[.int .i64 p, .int .i64 t] 23)).alloc (.cells #[.int .u64 0, .slice none 0 0] 56)) (w.heap.size + 1) 56 #[.int .u64 0, .slice none 0 0] := by
    simpa using Blk.new (w.alloc (.cells #[.int .i64 p, .int .i64 t] 23)) 56 #[.int .u64 0, .slice none 0 0]
  cases hm : gmay p t
  · go_enter Try.func52, Try.ntmps52
    go_wp2_with fail
    refine (check_no p t _ hm).mono ?_
    rintro e w1 ⟨rfl, hb1⟩
    have R1 := R0.on hb1
    have c7 := R1.cell
    have f7 := R1.frozen
    have z7 := R1.lt
    have e0 := (R1.set_ 0 (.int .u64 0)).cell 0
    have e1 := ((R1.set_ 0 (.int .u64 0)).set_ 1 (.slice none 0 0)).cell 0
    have e2 := ((R1.set_ 0 (.int .u64 0)).set_ 1 (.slice none 0 0)).cell 1
    simp at e0 e1 e2
    go_wp2_with fail
    refine bodyPost_ret (v := .tuple #[.agg #[.int .u64 0, .slice none 0 0], .int .i64 1]) (by simp [results, Try.results52, go_sem, e0, e1, e2]) rfl ⟨rfl, ?_⟩
    exact (by (have q_hb1 := Below.size hb1; (try simp at q_hb1); repeat (first | exact Below.refl _ _ | (refine Below.trans ?_ (Below.mono hb1 (by first | omega | (simp; omega) | simp))) | (refine Below.setCell ?_ (by first | omega | (simp; omega) | simp) _) | (refine Below.alloc ?_ (by first | omega | (simp; omega) | simp) _) | apply Below.drew | apply below_drewN)))
  · have hn1 : (n : Int) ≠ 1 + t := by
      rcases h with h | h
      · rw [hm] at h; cases h
      · exact h
    obtain ⟨_, _, t1, t2⟩ := gmay_true hm
    have hq : ((n : Int) != 1 + t) = true := by simp [hn1]
    clear hn1 h
    go_enter Try.func52, Try.ntmps52
    go_wp2_with fail
    refine (check_yes p t _ hm).mono ?_
    rintro e w1 ⟨rfl, hb1⟩
    have G1 := (G0.on hb1).cell
    have R1 := R0.on hb1
    have c7 := R1.cell
    have f7 := R1.frozen
    have z7 := R1.lt
    have e0 := (R1.set_ 0 (.int .u64 0)).cell 0
    have e1 := ((R1.set_ 0 (.int .u64 0)).set_ 1 (.slice none 0 0)).cell 0
    have e2 := ((R1.set_ 0 (.int .u64 0)).set_ 1 (.slice none 0 0)).cell 1
    simp at e0 e1 e2
    go_wp2_with fail
    refine bodyPost_ret (v := .tuple #[.agg #[.int .u64 0, .slice none 0 0], .int .i64 1]) (by simp [results, Try.results52, go_sem, e0, e1, e2]) rfl ⟨rfl, ?_⟩
    exact (by (have q_hb1 := Below.size hb1; (try simp at q_hb1); repeat (first | exact Below.refl _ _ | (refine Below.trans ?_ (Below.mono hb1 (by first | omega | (simp; omega) | simp))) | (refine Below.setCell ?_ (by first | omega | (simp; omega) | simp) _) | (refine Below.alloc ?_ (by first | omega | (simp; omega) | simp) _) | apply Below.drew | apply below_drewN)))
set_option maxRecDepth 100000 in
set_option maxHeartbeats 4000000 in
theorem lparse_short (p t : Int) (A : Option Addr) (n c : Nat) (ls : List (List UInt8)) (w : World) (hr : RdSS w A n ls) (hm : gmay p t = true) (hn1 : (n : Int) = 1 + t) (hany : ls.any shortB = true) :
    Calls Try.prog 52 #[.agg #[.int .i64 p, .int .i64 t], .slice A n c] w (ParNo w) := by
  have G0 : Blk ((w.alloc (.cells #[.int .i64 p, .int .i64 t] 23)).alloc (.cells #[.int .u64 0, .slice none 0 0] 56)) w.heap.size 23 #[.int .i64 p, .int .i64 t] := (Blk.new _ _ _).alloc _
  have R0 : Blk ((w.alloc (.cells #[.int .i64 p, .int .i64 t] 23)).alloc (.cells #[.int .u64 0, .slice none 0 0] 56)) (w.heap.size + 1) 56 #[.int .u64 0, .slice none 0 0] := by
    simpa using Blk.new (w.alloc (.cells #[.int .i64 p, .int .i64 t] 23)) 56 #[.int .u64 0, .slice none 0 0]
  obtain ⟨_, _, t1, t2⟩ := gmay_true hm
  have HA := Lib.hid hany
  have hq : ((n : Int) != 1 + t) = false := by simp [hn1]
  clear hany
  go_enter Try.func52, Try.ntmps52
  go_wp2_with fail
  refine (check_yes p t _ hm).mono ?_
  rintro e w1 ⟨rfl, hb1⟩
  have G1 := (G0.on hb1).cell
  have R1 := R0.on hb1
  have hr1 := ((hr.alloc (.cells #[.int .i64 p, .int .i64 t] 23)).alloc (.cells #[.int .u64 0, .slice none 0 0] 56)).below hb1
  have c7 := R1.cell
  have f7 := R1.frozen
  have z7 := R1.lt
  have e0 := (R1.set_ 0 (.int .u64 0)).cell 0
  have e1 := ((R1.set_ 0 (.int .u64 0)).set_ 1 (.slice none 0 0)).cell 0
  have e2 := ((R1.set_ 0 (.int .u64 0)).set_ 1 (.slice none 0 0)).cell 1
  simp at e0 e1 e2
  go_wp2_with fail
  refine (lhas_len A n c ls _ hr1 (by omega)).mono ?_
  rintro e w3 ⟨rfl, rfl⟩
  rw [HA.out]
  go_wp2_with fail
  refine bodyPost_ret (v := .tuple #[.agg #[.int .u64 0, .slice none 0 0], .int .i64 1]) (by simp [results, Try.results52, go_sem, e0, e1, e2]) rfl ⟨rfl, ?_⟩
  exact (by (have q_hb1 := Below.size hb1; (try simp at q_hb1); repeat (first | exact Below.refl _ _ | (refine Below.trans ?_ (Below.mono hb1 (by first | omega | (simp; omega) | simp))) | (refine Below.setCell ?_ (by first | omega | (simp; omega) | simp) _) | (refine Below.alloc ?_ (by first | omega | (simp; omega) | simp) _) | apply Below.drew | apply below_drewN)))
end Go.Proofs.Ythepgnankelmeaa
namespace Go.Proofs.Ythepgnankelmeaa
open Go.RowKit

set_option maxRecDepth 100000 in
set_option maxHeartbeats 16000000 in
theorem lparse_yes (p t : Int) (A : Option Addr) (n c : Nat) (b : List UInt8) (bs : List (List UInt8)) (w : World) (hr : RdSS w A n (b :: bs)) (hm : gmay p t = true) (hn : (n : Int) = 1 + t) (ha : (b :: bs).any shortB = false) :
    Calls Try.prog 52 #[.agg #[.int .i64 p, .int .i64 t], .slice A n c] w (ParsedL p t b bs w) := by
  have G0 : Blk ((w.alloc (.cells #[.int .i64 p, .int .i64 t] 23)).alloc (.cells #[.int .u64 0, .slice none 0 0] 56)) w.heap.size 23 #[.int .i64 p, .int .i64 t] := (Blk.new _ _ _).alloc _
  have R0 : Blk ((w.alloc (.cells #[.int .i64 p, .int .i64 t] 23)).alloc (.cells #[.int .u64 0, .slice none 0 0] 56)) (w.heap.size + 1) 56 #[.int .u64 0, .slice none 0 0] := by
    simpa using Blk.new (w.alloc (.cells #[.int .i64 p, .int .i64 t] 23)) 56 #[.int .u64 0, .slice none 0 0]
  obtain ⟨_, _, t1, t2⟩ := gmay_true hm
  have HA := Lib.hid ha
  have hq : ((n : Int) != 1 + t) = false := by simp [hn]
  have hb256 : b.length = 256 := by
    rw [List.any_cons, Bool.or_eq_false_iff] at ha
    simpa [shortB] using ha.1
  have hall : ∀ (k : Nat) (L : List UInt8), bs[k]? = some L → L.length = 256 := by
    intro k L hL
    rw [List.any_eq_false] at ha
    have h_ := ha L (List.mem_cons_of_mem _ (List.mem_of_getElem? hL))
    simpa [shortB] using h_
  have hbsl : bs.length + 1 = n := by have := hr.len; simpa using this
  obtain ⟨tN, htN⟩ := Int.eq_ofNat_of_zero_le (show 0 ≤ t by omega)
  subst htN
  have t3 : tN ≤ 24 := by omega
  have hntN : n = 1 + tN := by omega
  obtain ⟨bl, off, rfl, hbl, hcl⟩ := hr.2 (by omega)
  obtain ⟨A0, c0', hcell0, hRd0, hc00, hc01⟩ := hcl 0 b rfl
  rw [hb256] at hcell0 hRd0 hc00
  have HN := Lib.hid hntN
  have n1 : (1 : Int) ≤ n := by omega
  have n0 : (0 : Int) < n := by omega
  have nn : n ≤ 25 := by omega
  clear ha hn hntN
  go_enter Try.func52, Try.ntmps52
  go_wp2_with fail
  refine (check_yes p tN _ hm).mono ?_
  rintro e w1 ⟨rfl, hb1⟩
  have G1 := G0.on hb1
  have R1 := R0.on hb1
  have b1 : Below w.heap.size w w1 := (by (have q_hb1 := Below.size hb1; (try simp at q_hb1); repeat (first | exact Below.refl _ _ | (refine Below.trans ?_ (Below.mono hb1 (by first | omega | (simp; omega) | simp))) | (refine Below.setCell ?_ (by first | omega | (simp; omega) | simp) _) | (refine Below.alloc ?_ (by first | omega | (simp; omega) | simp) _) | apply Below.drew | apply below_drewN)))
  have cG1 := G1.cell
  clear G0 R0 hb1
  go_wp2_with fail
  refine (lhas_len _ n c (b :: bs) _ (hr.below b1) (by omega)).mono ?_
  rintro e w2 ⟨rfl, rfl⟩
  rw [HA.out]
  have cl1 : w1.cell? ⟨bl, off, none⟩ = some (.slice A0 256 c0') := (b1.cell (p := ⟨bl, off, none⟩) hbl).trans hcell0
  have z1 := b1.size
  clear cG1
  go_wp2_with fail
  refine (of_x A0 256 c0' b _ (hRd0.below b1) (by omega)).mono ?_
  rintro e w3 ⟨g, rfl, hg, hX3, hb3⟩
  obtain ⟨B, hB⟩ : ∃ B, B = w1.heap.size := ⟨_, rfl⟩
  rw [← hB] at hX3 hg
  have G3 := G1.on hb3
  have R3 := R1.on hb3
  have b3 : Below w.heap.size w w3 := b1.trans (hb3.mono z1)
  have hz3 := hX3.lt
  have hBw : w.heap.size + 1 < B := by rw [hB]; exact R1.lt
  clear G1 R1 hb3 b1 hB
  go_wp2_with fail
  refine (bytes_x g B 8 b _ hX3 hg (by omega) (by omega)).mono ?_
  rintro e w4 ⟨⟨v4, rfl⟩, hK4, hX4⟩
  go_wp2_with fail
  refine (num_x g B 8 _ _ hX4 hg (by omega) (by omega) (by simp; omega)).mono ?_
  rintro e w5 ⟨rfl, u5, hw5, hX5⟩
  have hd8 : (b.drop 8).drop 8 = b.drop 16 := by rw [List.drop_drop]
  rw [hd8] at hX5
  have hd16 : (b.drop 16).drop 2 = b.drop 18 := by rw [List.drop_drop]
  obtain ⟨C, hC⟩ : ∃ C, C = cntB b := ⟨_, rfl⟩
  have HC := Lib.hid hC
  have hC2 : (getL ((b.drop 8).take 8) : Int) = C := by rw [hC]; rfl
  rw [hC2]
  obtain ⟨hC0, hC1⟩ := cntB_range b
  rw [← hC] at hC0 hC1
  have hK5 : Kept [g] w3 w5 := hK4.trans (by rw [hw5]; exact Kept.setCell (.refl _ _) (by simp) _)
  have G5 := G3.kept hK5 (by simp; omega)
  have R5 := R3.kept hK5 (by simp; omega)
  have b5 : Below w.heap.size w w5 := b3.trans (hK5.below b3.size (by simp; omega))
  have hz5 := hX5.lt
  clear hX3 hX4 hw5 hK4 hK5 G3 R3 b3 hd8 hC hC2 cl1 z1 hcell0 hRd0 hc00 hc01
  go_wp2_with fail
  have hX6 := hX5.below ((Below.refl _ w5).alloc (Nat.le_refl _) (.cells #[.int .u64 C, .slice none 0 0] 56))
  refine (num_x g B 2 _ _ hX6 hg (by omega) (by omega) (by simp; omega)).mono ?_
  rintro e w7 ⟨rfl, u7, hw7, hX7⟩
  rw [hd16] at hX7
  obtain ⟨N, hN⟩ : ∃ N, N = nB b := ⟨_, rfl⟩
  have HNB := Lib.hid hN
  have hN2 : getL ((b.drop 16).take 2) = N := by rw [hN]; rfl
  rw [hN2]
  have hN3 : N < 65536 := by rw [hN]; exact nB_lt b
  have hN4 : (N : Int) < 65536 := by omega
  have hK7 : Kept [g] (w5.alloc (.cells #[.int .u64 C, .slice none 0 0] 56)) w7 := by rw [hw7]; exact Kept.setCell (.refl _ _) (by simp) _
  obtain ⟨L, hL⟩ : ∃ L, L = w5.heap.size := ⟨_, rfl⟩
  have B7 : Blk w7 L 56 #[.int .u64 C, .slice none 0 0] := by
    rw [hL]
    exact (Blk.new w5 56 #[.int .u64 C, .slice none 0 0]).kept hK7 (by simp; omega)
  have G7 := (G5.alloc (.cells #[.int .u64 C, .slice none 0 0] 56)).kept hK7 (by simp; omega)
  have R7 := (R5.alloc (.cells #[.int .u64 C, .slice none 0 0] 56)).kept hK7 (by simp; omega)
  have b6 : Below w.heap.size w (w5.alloc (.cells #[.int .u64 C, .slice none 0 0] 56)) := (by (have q_b5 := Below.size b5; (try simp at q_b5); repeat (first | exact Below.refl _ _ | (refine Below.trans ?_ (Below.mono b5 (by first | omega | (simp; omega) | simp))) | (refine Below.setCell ?_ (by first | omega | (simp; omega) | simp) _) | (refine Below.alloc ?_ (by first | omega | (simp; omega) | simp) _) | apply Below.drew | apply below_drewN)))
  have b7 : Below w.heap.size w w7 := b6.trans (hK7.below b6.size (by simp; omega))
  rw [← hL]
  have hgL : g < L := by omega
  clear hX5 hX6 G5 R5 b5 b6 hK7 hw7 hN hN2 hd16 hz5 hL
  go_wp2_with fail
  go_loopw [11] (fun i wr => ∃ k : Nat, k ≤ N ∧ k ≤ tN ∧ i = .int .i64 k ∧ (∃ v, Blk wr L 56 #[.int .u64 C, v] ∧ OwnR entK 102 (L + 1) 0 5 wr v (esB b bs k)) ∧ RowX 114 5 B wr g (b.drop (18 + 2 * k)) ∧ Blk wr w.heap.size 23 #[.int .i64 p, .int .i64 tN] ∧ Blk wr (w.heap.size + 1) 56 #[.int .u64 0, .slice none 0 0] ∧ Below w.heap.size w wr) (fun i _ => tN - (intOf i).toNat)
  case atStart => exact ⟨0, by omega, by omega, rfl, ⟨_, B7, OwnR.nil _⟩, hX7, G7, R7, b7⟩
  case round =>
    clear B7 hX7 G7 R7 b7
    obtain ⟨k, hk1, hk2, rfl, ⟨v, hBL, hO⟩, hX, hG, hR, hbel⟩ := hrel
    have hbz := hbel.size
    have cG := hG.cell
    have zL := hBL.lt
    have zX := hX.lt
    by_cases hlt : k < N ∧ k < tN
    · obtain ⟨hlt1, hlt2⟩ := hlt
      have q1 : (k : Int) < N := by omega
      have q2 : (k : Int) < tN := by omega
      have hkl : (esB b bs k).length = k := esB_len _ _ _
      obtain ⟨Lk, hLk⟩ : ∃ Lk, bs[k]? = some Lk := ⟨_, List.getElem?_eq_getElem (by have := HN.out; omega)⟩
      have hLl : Lk.length = 256 := hall k Lk hLk
      have hent : entB b bs k = (keyB b k, Lk) := by unfold entB; rw [List.getD, hLk]; rfl
      have hst := Lib.hid (show esB b bs k ++ [(keyB b k, Lk)] = esB b bs (k + 1) by rw [esB_step, hent])
      obtain ⟨Ak, ck, hcellk, hRdk, hck0, hck1⟩ := hcl (k + 1) Lk (by simpa using hLk)
      rw [hLl] at hcellk hRdk hck0
      have q3 : 1 + (k : Int) < n := by have := HN.out; omega
      have q4 : k + 1 < n := by have := HN.out; omega
      obtain ⟨K, hK⟩ : ∃ K, K = keyB b k := ⟨_, rfl⟩
      obtain ⟨hK0, hK1⟩ := keyB_range b k
      rw [← hK] at hK0 hK1
      have HK := Lib.hid (show (getL ((b.drop (18 + 2 * k)).take 2) : Int) = K by rw [hK]; rfl)
      have hst' := Lib.hid (show esB b bs k ++ [(K, Lk)] = esB b bs (k + 1) by rw [hK]; exact hst.out)
      obtain ⟨es, hes⟩ : ∃ es, es = esB b bs k := ⟨_, rfl⟩
      rw [← hes] at hO hst' hkl
      obtain ⟨l0, hl0⟩ : ∃ l0, l0 = b.drop (18 + 2 * k) := ⟨_, rfl⟩
      have hl0l : 2 ≤ l0.length := by rw [hl0, List.length_drop]; omega
      have HD2 := Lib.hid (show l0.drop 2 = b.drop (18 + 2 * (k + 1)) by rw [hl0]; exact drop_two b k)
      rw [← hl0] at hX HK
      obtain ⟨gs0, hg1, hg2, hg3, hg4, hg5, hg6⟩ := hO.blocks (B0 := w.heap.size) hBL (by decide) (by decide) (by omega) (by omega)
      have hgg : ∀ x ∈ g :: gs0, x = g ∨ x = L ∨ L + 1 ≤ x := by
        intro x hx
        rcases List.mem_cons.1 hx with h_ | h_
        · exact .inl h_
        · exact .inr (hg5 x h_)
      have hgw : ∀ x ∈ g :: gs0, x < wr.heap.size := by
        intro x hx
        rcases List.mem_cons.1 hx with h_ | h_
        · omega
        · exact hg3 x h_
      obtain ⟨gs, hgs⟩ : ∃ gs, gs = g :: gs0 := ⟨_, rfl⟩
      have gL : L ∈ gs := by rw [hgs]; exact List.mem_cons_of_mem _ hg1
      have gg : g ∈ gs := by rw [hgs]; exact List.mem_cons_self
      have gv : ∀ x, v.ownBlock = some x → x ∈ gs := fun x hx => by rw [hgs]; exact List.mem_cons_of_mem _ (hg2 x hx)
      rw [← hgs] at hgg hgw
      have glow : ∀ x, x < w.heap.size + 2 → x ∉ gs := fun x hx h_ => by have := hgg x h_; omega
      have hRk : RdN wr gs Ak 256 Lk := RdN.below (RdN.old hRdk (fun x hx => by have := hgg x hx; omega)) hbel
      have hck : wr.cell? ⟨bl, off + (k + 1), none⟩ = some (.slice Ak 256 ck) := (hbel.cell (p := ⟨bl, off + (k + 1), none⟩) hbl).trans hcellk
      have hbl2 : bl < wr.heap.size := by omega
      have hbg : bl ∉ gs := glow bl (by omega)
      clear hg1 hg2 hg3 hg4 hg5 hg6 hgs hLk hent hst hK hes hl0 hcellk hRdk
      go_wp2_with fail
      refine wp_flx [(fun y_ _ => y_ = .pointer (some ⟨L, 1, none⟩)), (fun y_ _ => y_ = v), (fun y_ _ => y_ = .func (Fn.func 71) #[.pointer (some ⟨g, 0, none⟩)] #[]), (fun y_ _ => y_ = .int .u64 K), (fun y_ _ => y_ = .int .i64 K), (fun y_ _ => y_ = .slice (some ⟨bl, off, none⟩) n c), (fun y_ _ => y_ = .int .i64 (k : Int)), (fun y_ _ => y_ = .int .i64 (1 + (k : Int))), (fun y_ _ => y_ = .pointer (some ⟨bl, off + (k + 1), none⟩)), (fun y_ _ => y_ = .slice Ak 256 ck), IsRow gs wr.heap.size 5 256 Lk, IsAg gs wr.heap.size 5 256 Lk (fun s => .agg #[.int .i64 K, s]), IsBox entE gs wr.heap.size 5 256 Lk (fun s => (K, s)), (fun _ _ => True), (fun y_ _ => y_ = .pointer (some ⟨L, 1, none⟩)), (fun _ _ => True)] gs (ParInv 56 114 102 L g (L + 1) B 0 5 C v es (es ++ [(K, Lk)]) l0 (l0.drop 2)) [3, 10, 13, 15] (by kernel_rfl) ⟨StabW.eq _ _, StabW.eq _ _, StabW.eq _ _, StabW.eq _ _, StabW.eq _ _, StabW.eq _ _, StabW.eq _ _, StabW.eq _ _, StabW.eq _ _, StabW.eq _ _, IsRow.stab _ _ _ _ _, IsAg.stab _ _ _ _ _ _, IsBox.stab _ _ _ _ _ _ _, StabW.any _, StabW.eq _ _, StabW.any _, trivial⟩ (ParInv.stab) (⟨hBL, hO, hX⟩) (by kernel_rfl) (by kernel_rfl) (by kernel_rfl) (by rfl) ?_ ?_
      · intro kq hkq
        match kq, hkq with
        | 0, _ =>
          refine StepX.plain _ rfl rfl rfl [(9, none)] (by kernel_rfl) (fun af wf hbw hz hf Kf hKf => ?_)
          obtain ⟨g9, _⟩ := hf
          have h9 : af.tmps[9]?.getD undef = .pointer (some ⟨L, 0, none⟩) := g9
          clear g9
          go_simp
          exact hKf _ _ (Below.refl _ _) rfl
        | 1, _ =>
          refine StepX.plain _ rfl rfl rfl [(54, some 0)] (by kernel_rfl) (fun af wf hbw hz hf Kf hKf => ?_)
          obtain ⟨g54, _⟩ := hf
          have h54 : af.tmps[54]?.getD undef = .pointer (some ⟨L, 1, none⟩) := g54
          clear g54
          obtain ⟨iz, uz, hiz, hvz⟩ := hz 2 13 rfl (by kernel_rfl)
          have cB9 := (ParInv.low hiz hvz).cell
          go_simp
          exact hKf _ _ (Below.refl _ _) rfl
        | 2, _ =>
          refine StepX.plain _ rfl rfl rfl [(8, none)] (by kernel_rfl) (fun af wf hbw hz hf Kf hKf => ?_)
          obtain ⟨g8, _⟩ := hf
          have h8 : af.tmps[8]?.getD undef = .func (Fn.func 71) #[.pointer (some ⟨g, 0, none⟩)] #[] := g8
          clear g8
          go_simp
          exact hKf _ _ (Below.refl _ _) rfl
        | 3, _ =>
          refine StepX.chain 0 _ rfl rfl rfl (by decide) [(56, some 2)] (by kernel_rfl) (fun af wf hbw hiv hf Kf hKf => ?_)
          obtain ⟨uv, hiv, hlast⟩ := hiv
          obtain ⟨g56, _⟩ := hf
          have h56 : af.tmps[56]?.getD undef = .func (Fn.func 71) #[.pointer (some ⟨g, 0, none⟩)] #[] := g56
          clear g56
          obtain ⟨Ar, cr, hBr, _⟩ := id hiv.2.2
          go_simp
          refine (num_x g B 2 l0 _ hiv.2.2 hg (by omega) (by omega) hl0l).mono ?_
          rintro e wN ⟨rfl, u3, hw3, hX3⟩
          exact hKf _ _ ((by rw [hw3]; exact Kept.setCell (.refl _ _) gg _)) ((by rw [hw3] at hX3 ⊢; exact ⟨hiv.1.far (by simp; omega) _, hiv.2.1.set_ hBr (by decide) (by omega) (by omega) 0 _, hX3⟩)) (congrArg (Value.int .u64) HK.out)
        | 4, _ =>
          refine StepX.plain _ rfl rfl rfl [(57, some 3)] (by kernel_rfl) (fun af wf hbw hz hf Kf hKf => ?_)
          obtain ⟨g57, _⟩ := hf
          have h57 : af.tmps[57]?.getD undef = .int .u64 K := g57
          clear g57
          have hwK : IntKind.i64.wrap K = K := IntWalk.i64_in _ (by omega)
          go_simp
          exact hKf _ _ (Below.refl _ _) rfl
        | 5, _ =>
          refine StepX.plain _ rfl rfl rfl [(1, none)] (by kernel_rfl) (fun af wf hbw hz hf Kf hKf => ?_)
          obtain ⟨g1, _⟩ := hf
          have h1 : af.tmps[1]?.getD undef = .slice (some ⟨bl, off, none⟩) n c := g1
          clear g1
          go_simp
          exact hKf _ _ (Below.refl _ _) rfl
        | 6, _ =>
          refine StepX.plain _ rfl rfl rfl [(11, none)] (by kernel_rfl) (fun af wf hbw hz hf Kf hKf => ?_)
          obtain ⟨g11, _⟩ := hf
          have h11 : af.tmps[11]?.getD undef = .int .i64 (k : Int) := g11
          clear g11
          go_simp
          exact hKf _ _ (Below.refl _ _) rfl
        | 7, _ =>
          refine StepX.plain _ rfl rfl rfl [(60, some 6)] (by kernel_rfl) (fun af wf hbw hz hf Kf hKf => ?_)
          obtain ⟨g60, _⟩ := hf
          have h60 : af.tmps[60]?.getD undef = .int .i64 (k : Int) := g60
          clear g60
          have hwr : IntKind.i64.wrap (1 + (k : Int)) = 1 + (k : Int) := IntWalk.i64_in _ (by omega)
          go_simp
          exact hKf _ _ (Below.refl _ _) rfl
        | 8, _ =>
          refine StepX.plain _ rfl rfl rfl [(59, some 5), (61, some 7)] (by kernel_rfl) (fun af wf hbw hz hf Kf hKf => ?_)
          obtain ⟨g59, g61, _⟩ := hf
          have h59 : af.tmps[59]?.getD undef = .slice (some ⟨bl, off, none⟩) n c := g59
          have h61 : af.tmps[61]?.getD undef = .int .i64 (1 + (k : Int)) := g61
          clear g59 g61
          go_simp
          exact hKf _ _ (Below.refl _ _) (congrArg (fun o => Value.pointer (some ⟨bl, o, none⟩)) (by omega))
        | 9, _ =>
          refine StepX.plain _ rfl rfl rfl [(62, some 8)] (by kernel_rfl) (fun af wf hbw hz hf Kf hKf => ?_)
          obtain ⟨g62, _⟩ := hf
          have h62 : af.tmps[62]?.getD undef = .pointer (some ⟨bl, off + (k + 1), none⟩) := g62
          clear g62
          have hcx : wf.cell? ⟨bl, off + (k + 1), none⟩ = some (.slice Ak 256 ck) := by rw [World.cell?_of_block (hbw.block bl hbl2 hbg)]; exact hck
          go_simp
          exact hKf _ _ (Below.refl _ _) rfl
        | 10, _ =>
          refine StepX.chain 1 _ rfl rfl rfl (by decide) [(63, some 9)] (by kernel_rfl) (fun af wf hbw hiv hf Kf hKf => ?_)
          obtain ⟨uv, hiv, hlast⟩ := hiv
          have h57 : af.tmps[57]?.getD undef = uv := hlast 0 3 57 rfl rfl rfl
          obtain ⟨g63, _⟩ := hf
          have h63 : af.tmps[63]?.getD undef = .slice Ak 256 ck := g63
          clear g63
          go_simp
          refine (clone_any Ak 256 ck Lk _ (RdN.kept (RdN.drew hRk) hbw (fun _ h_ => h_)).1 (by omega)).mono ?_
          rintro e wN ⟨v10, rfl, hF10, hb10⟩
          exact hKf _ _ (.of_below hb10) (⟨hiv.1.on hb10, hiv.2.1.below hb10, hiv.2.2.below hb10⟩) (IsRow.of (hF10.from_ (by have := hbw.size; simp at this; omega)) hgw hLl)
        | 11, _ =>
          refine StepX.plain _ rfl rfl rfl [(58, some 4), (64, some 10)] (by kernel_rfl) (fun af wf hbw hz hf Kf hKf => ?_)
          obtain ⟨g58, g64, _⟩ := hf
          have h58 : af.tmps[58]?.getD undef = .int .i64 K := g58
          have g64 : IsRow gs wr.heap.size 5 256 Lk (af.tmps[64]?.getD undef) wf := g64
          obtain ⟨hz64, A64, c64, h64, hF64, hn64, hm64⟩ := g64
          clear g58
          go_simp
          exact hKf _ _ (Below.refl _ _) (⟨hz64, A64, c64, rfl, hF64, hn64, hm64⟩)
        | 12, _ =>
          refine StepX.plain _ rfl rfl rfl [(65, some 11)] (by kernel_rfl) (fun af wf hbw hz hf Kf hKf => ?_)
          obtain ⟨g65, _⟩ := hf
          have g65 : IsAg gs wr.heap.size 5 256 Lk (fun s => .agg #[.int .i64 K, s]) (af.tmps[65]?.getD undef) wf := g65
          obtain ⟨hz65, A65, c65, h65, hF65, hn65, hm65⟩ := g65
          go_simp
          exact hKf _ _ (((Below.refl _ _).alloc (Nat.le_refl _) _)) (⟨hz65, A65, c65, _, rfl, (fun h_ => by have := hz65 _ h_; have := hbw.size; simp at this; omega), RdG.boxed _ _ _ _ rfl, hF65.alloc _, hn65, hm65⟩)
        | 13, _ =>
          refine StepX.chain 2 _ rfl rfl rfl (by decide) [(55, some 1), (66, some 12)] (by kernel_rfl) (fun af wf hbw hiv hf Kf hKf => ?_)
          obtain ⟨uv, hiv, hlast⟩ := hiv
          have h64 : af.tmps[64]?.getD undef = uv := hlast 1 10 64 rfl rfl rfl
          obtain ⟨g55, g66, _⟩ := hf
          have h55 : af.tmps[55]?.getD undef = v := g55
          have g66 : IsBox entE gs wr.heap.size 5 256 Lk (fun s => (K, s)) (af.tmps[66]?.getD undef) wf := g66
          obtain ⟨hz66, A66, c66, b66, h66, hb66, hR66, hF66, hn66, hm66⟩ := g66
          clear g55
          obtain ⟨hiB, ⟨hs, hFr, hAll⟩, hiX⟩ := hiv
          have hsl : hs.length = k := by rw [hAll.1, hkl]
          obtain ⟨A13, c13, e13, hown13⟩ := id hFr
          refine wp_append_G wf (.tmp 55) (.tmp 66) _ rfl (L + 1) 102 Try.underlying54 infoLE rfl v hs (by simp [Act.eval, h55]) hFr _ 1 1 [(K, A66, 256, c66)] (by simp [Act.eval, h66]) hR66 (by omega) (by omega) (by have := hiB.lt; omega) ?_; intro v10 w10 hF10 hg10 hb10
          exact hKf _ _ ((Kept.of_grown hg10 gv)) (⟨hiB.grown hg10 (own_ne hFr hiB (by decide)), ⟨_, hF10, hAll.more (show RItem entK _ _ wf (K, A66, 256, c66) (K, Lk) from ⟨rfl, RdX.fresh hF66 hLl, hn66, hm66⟩) hown13 (by omega) (by decide) hg10⟩, hiX.grown hFr (by omega) (by decide) (by decide) hg10⟩) (trivial)
        | 14, _ =>
          refine StepX.plain _ rfl rfl rfl [(9, none)] (by kernel_rfl) (fun af wf hbw hz hf Kf hKf => ?_)
          obtain ⟨g9, _⟩ := hf
          have h9 : af.tmps[9]?.getD undef = .pointer (some ⟨L, 0, none⟩) := g9
          clear g9
          go_simp
          exact hKf _ _ (Below.refl _ _) rfl
        | 15, _ =>
          refine StepX.chain 3 _ rfl rfl rfl (by decide) [(68, some 14), (67, some 13)] (by kernel_rfl) (fun af wf hbw hiv hf Kf hKf => ?_)
          obtain ⟨uv, hiv, hlast⟩ := hiv
          have h67 : af.tmps[67]?.getD undef = uv := hlast 2 13 67 rfl rfl rfl
          obtain ⟨g68, g67, _⟩ := hf
          have h68 : af.tmps[68]?.getD undef = .pointer (some ⟨L, 1, none⟩) := g68
          clear g68
          obtain ⟨Au, nu, cu, rfl⟩ := OwnR.shape hiv.2.1
          have cB9 := hiv.1.cell
          have fB9 := hiv.1.frozen
          go_simp
          exact hKf undef _ ((Kept.setCell (p := ⟨L, 1, none⟩) (.refl _ _) gL _)) (⟨_, (show Blk _ L 56 #[.int .u64 C, _] from hiv.1.set_ 1 _), hiv.2.1.set_ hiv.1 (by decide) (by omega) (by omega) 1 _, hiv.2.2.far hiv.1 (by decide) (by omega) (by omega) 1 _⟩) (trivial)
        | i + 16, h => exact absurd h (by show ¬ (i + 16 < 16); omega)
      · intro af wF hbF hiF hdF hsF hbaseF hfactF
        obtain ⟨T, dsF⟩ := af
        obtain rfl : dsF = _ := hdF
        have e0 := hbaseF 0 (not_dst (by kernel_rfl))
        simp only [List.getElem?_toArray, List.getElem?_cons_zero, Option.getD_some] at e0
        have e1 := hbaseF 1 (not_dst (by kernel_rfl))
        simp only [List.getElem?_toArray, List.getElem?_cons_zero, List.getElem?_cons_succ, Option.getD_some] at e1
        have e2 := hbaseF 2 (not_dst (by kernel_rfl))
        simp only [List.getElem?_toArray, List.getElem?_cons_zero, List.getElem?_cons_succ, Option.getD_some] at e2
        have e3 := hbaseF 3 (not_dst (by kernel_rfl))
        simp only [List.getElem?_toArray, List.getElem?_cons_zero, List.getElem?_cons_succ, Option.getD_some] at e3
        have e4 := hbaseF 4 (not_dst (by kernel_rfl))
        simp only [List.getElem?_toArray, List.getElem?_cons_zero, List.getElem?_cons_succ, Option.getD_some] at e4
        have e5 := hbaseF 5 (not_dst (by kernel_rfl))
        simp only [List.getElem?_toArray, List.getElem?_cons_zero, List.getElem?_cons_succ, Option.getD_some] at e5
        have e6 := hbaseF 6 (not_dst (by kernel_rfl))
        simp only [List.getElem?_toArray, List.getElem?_cons_zero, List.getElem?_cons_succ, Option.getD_some] at e6
        have e7 := hbaseF 7 (not_dst (by kernel_rfl))
        simp only [List.getElem?_toArray, List.getElem?_cons_zero, List.getElem?_cons_succ, Option.getD_some] at e7
        have e8 := hbaseF 8 (not_dst (by kernel_rfl))
        simp only [List.getElem?_toArray, List.getElem?_cons_zero, List.getElem?_cons_succ, Option.getD_some] at e8
        have e9 := hbaseF 9 (not_dst (by kernel_rfl))
        simp only [List.getElem?_toArray, List.getElem?_cons_zero, List.getElem?_cons_succ, Option.getD_some] at e9
        have e10 := hbaseF 10 (not_dst (by kernel_rfl))
        simp only [List.getElem?_toArray, List.getElem?_cons_zero, List.getElem?_cons_succ, Option.getD_some] at e10
        have e11 := hbaseF 11 (not_dst (by kernel_rfl))
        simp only [List.getElem?_toArray, List.getElem?_cons_zero, List.getElem?_cons_succ, Option.getD_some] at e11
        have e12 := hbaseF 12 (not_dst (by kernel_rfl))
        simp only [List.getElem?_toArray, List.getElem?_cons_zero, List.getElem?_cons_succ, Option.getD_some] at e12
        have e13 := hbaseF 13 (not_dst (by kernel_rfl))
        simp only [List.getElem?_toArray, List.getElem?_cons_zero, List.getElem?_cons_succ, Option.getD_some] at e13
        have e14 := hbaseF 14 (not_dst (by kernel_rfl))
        simp only [List.getElem?_toArray, List.getElem?_cons_zero, List.getElem?_cons_succ, Option.getD_some] at e14
        have e15 := hbaseF 15 (not_dst (by kernel_rfl))
        simp only [List.getElem?_toArray, List.getElem?_cons_zero, List.getElem?_cons_succ, Option.getD_some] at e15
        have e16 := hbaseF 16 (not_dst (by kernel_rfl))
        simp only [List.getElem?_toArray, List.getElem?_cons_zero, List.getElem?_cons_succ, Option.getD_some] at e16
        have e17 := hbaseF 17 (not_dst (by kernel_rfl))
        simp only [List.getElem?_toArray, List.getElem?_cons_zero, List.getElem?_cons_succ, Option.getD_some] at e17
        have e18 := hbaseF 18 (not_dst (by kernel_rfl))
        simp only [List.getElem?_toArray, List.getElem?_cons_zero, List.getElem?_cons_succ, Option.getD_some] at e18
        have e19 := hbaseF 19 (not_dst (by kernel_rfl))
        simp only [List.getElem?_toArray, List.getElem?_cons_zero, List.getElem?_cons_succ, Option.getD_some] at e19
        have e20 := hbaseF 20 (not_dst (by kernel_rfl))
        simp only [List.getElem?_toArray, List.getElem?_cons_zero, List.getElem?_cons_succ, Option.getD_some] at e20
        have e21 := hbaseF 21 (not_dst (by kernel_rfl))
        simp only [List.getElem?_toArray, List.getElem?_cons_zero, List.getElem?_cons_succ, Option.getD_some] at e21
        have e22 := hbaseF 22 (not_dst (by kernel_rfl))
        simp only [List.getElem?_toArray, List.getElem?_cons_zero, List.getElem?_cons_succ, Option.getD_some] at e22
        have e23 := hbaseF 23 (not_dst (by kernel_rfl))
        simp only [List.getElem?_toArray, List.getElem?_cons_zero, List.getElem?_cons_succ, Option.getD_some] at e23
        have e24 := hbaseF 24 (not_dst (by kernel_rfl))
        simp only [List.getElem?_toArray, List.getElem?_cons_zero, List.getElem?_cons_succ, Option.getD_some] at e24
        have e25 := hbaseF 25 (not_dst (by kernel_rfl))
        simp only [List.getElem?_toArray, List.getElem?_cons_zero, List.getElem?_cons_succ, Option.getD_some] at e25
        have e26 := hbaseF 26 (not_dst (by kernel_rfl))
        simp only [List.getElem?_toArray, List.getElem?_cons_zero, List.getElem?_cons_succ, Option.getD_some] at e26
        have e27 := hbaseF 27 (not_dst (by kernel_rfl))
        simp only [List.getElem?_toArray, List.getElem?_cons_zero, List.getElem?_cons_succ, Option.getD_some] at e27
        have e28 := hbaseF 28 (not_dst (by kernel_rfl))
        simp only [List.getElem?_toArray, List.getElem?_cons_zero, List.getElem?_cons_succ, Option.getD_some] at e28
        have e29 := hbaseF 29 (not_dst (by kernel_rfl))
        simp only [List.getElem?_toArray, List.getElem?_cons_zero, List.getElem?_cons_succ, Option.getD_some] at e29
        have e30 := hbaseF 30 (not_dst (by kernel_rfl))
        simp only [List.getElem?_toArray, List.getElem?_cons_zero, List.getElem?_cons_succ, Option.getD_some] at e30
        have e31 := hbaseF 31 (not_dst (by kernel_rfl))
        simp only [List.getElem?_toArray, List.getElem?_cons_zero, List.getElem?_cons_succ, Option.getD_some] at e31
        have e32 := hbaseF 32 (not_dst (by kernel_rfl))
        simp only [List.getElem?_toArray, List.getElem?_cons_zero, List.getElem?_cons_succ, Option.getD_some] at e32
        have e33 := hbaseF 33 (not_dst (by kernel_rfl))
        simp only [List.getElem?_toArray, List.getElem?_cons_zero, List.getElem?_cons_succ, Option.getD_some] at e33
        have e34 := hbaseF 34 (not_dst (by kernel_rfl))
        simp only [List.getElem?_toArray, List.getElem?_cons_zero, List.getElem?_cons_succ, Option.getD_some] at e34
        have e35 := hbaseF 35 (not_dst (by kernel_rfl))
        simp only [List.getElem?_toArray, List.getElem?_cons_zero, List.getElem?_cons_succ, Option.getD_some] at e35
        have e36 := hbaseF 36 (not_dst (by kernel_rfl))
        simp only [List.getElem?_toArray, List.getElem?_cons_zero, List.getElem?_cons_succ, Option.getD_some] at e36
        have e37 := hbaseF 37 (not_dst (by kernel_rfl))
        simp only [List.getElem?_toArray, List.getElem?_cons_zero, List.getElem?_cons_succ, Option.getD_some] at e37
        have e38 := hbaseF 38 (not_dst (by kernel_rfl))
        simp only [List.getElem?_toArray, List.getElem?_cons_zero, List.getElem?_cons_succ, Option.getD_some] at e38
        have e39 := hbaseF 39 (not_dst (by kernel_rfl))
        simp only [List.getElem?_toArray, List.getElem?_cons_zero, List.getElem?_cons_succ, Option.getD_some] at e39
        have e40 := hbaseF 40 (not_dst (by kernel_rfl))
        simp only [List.getElem?_toArray, List.getElem?_cons_zero, List.getElem?_cons_succ, Option.getD_some] at e40
        have e41 := hbaseF 41 (not_dst (by kernel_rfl))
        simp only [List.getElem?_toArray, List.getElem?_cons_zero, List.getElem?_cons_succ, Option.getD_some] at e41
        have e42 := hbaseF 42 (not_dst (by kernel_rfl))
        simp only [List.getElem?_toArray, List.getElem?_cons_zero, List.getElem?_cons_succ, Option.getD_some] at e42
        have e43 := hbaseF 43 (not_dst (by kernel_rfl))
        simp only [List.getElem?_toArray, List.getElem?_cons_zero, List.getElem?_cons_succ, Option.getD_some] at e43
        have e44 := hbaseF 44 (not_dst (by kernel_rfl))
        simp only [List.getElem?_toArray, List.getElem?_cons_zero, List.getElem?_cons_succ, Option.getD_some] at e44
        have e45 := hbaseF 45 (not_dst (by kernel_rfl))
        simp only [List.getElem?_toArray, List.getElem?_cons_zero, List.getElem?_cons_succ, Option.getD_some] at e45
        have e46 := hbaseF 46 (not_dst (by kernel_rfl))
        simp only [List.getElem?_toArray, List.getElem?_cons_zero, List.getElem?_cons_succ, Option.getD_some] at e46
        have e47 := hbaseF 47 (not_dst (by kernel_rfl))
        simp only [List.getElem?_toArray, List.getElem?_cons_zero, List.getElem?_cons_succ, Option.getD_some] at e47
        have e48 := hbaseF 48 (not_dst (by kernel_rfl))
        simp only [List.getElem?_toArray, List.getElem?_cons_zero, List.getElem?_cons_succ, Option.getD_some] at e48
        have e49 := hbaseF 49 (not_dst (by kernel_rfl))
        simp only [List.getElem?_toArray, List.getElem?_cons_zero, List.getElem?_cons_succ, Option.getD_some] at e49
        have e50 := hbaseF 50 (not_dst (by kernel_rfl))
        simp only [List.getElem?_toArray, List.getElem?_cons_zero, List.getElem?_cons_succ, Option.getD_some] at e50
        have e51 := hbaseF 51 (not_dst (by kernel_rfl))
        simp only [List.getElem?_toArray, List.getElem?_cons_zero, List.getElem?_cons_succ, Option.getD_some] at e51
        have e52 := hbaseF 52 (not_dst (by kernel_rfl))
        simp only [List.getElem?_toArray, List.getElem?_cons_zero, List.getElem?_cons_succ, Option.getD_some] at e52
        have e53 := hbaseF 53 (not_dst (by kernel_rfl))
        simp only [List.getElem?_toArray, List.getElem?_cons_zero, List.getElem?_cons_succ, Option.getD_some] at e53
        have e69 := hbaseF 69 (not_dst (by kernel_rfl))
        simp only [List.getElem?_toArray, List.getElem?_cons_zero, List.getElem?_cons_succ, Option.getD_some] at e69
        have e70 := hbaseF 70 (not_dst (by kernel_rfl))
        simp only [List.getElem?_toArray, List.getElem?_cons_zero, List.getElem?_cons_succ, Option.getD_some] at e70
        have e71 := hbaseF 71 (not_dst (by kernel_rfl))
        simp only [List.getElem?_toArray, List.getElem?_cons_zero, List.getElem?_cons_succ, Option.getD_some] at e71
        have e72 := hbaseF 72 (not_dst (by kernel_rfl))
        simp only [List.getElem?_toArray, List.getElem?_cons_zero, List.getElem?_cons_succ, Option.getD_some] at e72
        have e73 := hbaseF 73 (not_dst (by kernel_rfl))
        simp only [List.getElem?_toArray, List.getElem?_cons_zero, List.getElem?_cons_succ, Option.getD_some] at e73
        have e74 := hbaseF 74 (not_dst (by kernel_rfl))
        simp only [List.getElem?_toArray, List.getElem?_cons_zero, List.getElem?_cons_succ, Option.getD_some] at e74
        have e75 := hbaseF 75 (not_dst (by kernel_rfl))
        simp only [List.getElem?_toArray, List.getElem?_cons_zero, List.getElem?_cons_succ, Option.getD_some] at e75
        have e76 := hbaseF 76 (not_dst (by kernel_rfl))
        simp only [List.getElem?_toArray, List.getElem?_cons_zero, List.getElem?_cons_succ, Option.getD_some] at e76
        have e77 := hbaseF 77 (not_dst (by kernel_rfl))
        simp only [List.getElem?_toArray, List.getElem?_cons_zero, List.getElem?_cons_succ, Option.getD_some] at e77
        have e78 := hbaseF 78 (not_dst (by kernel_rfl))
        simp only [List.getElem?_toArray, List.getElem?_cons_zero, List.getElem?_cons_succ, Option.getD_some] at e78
        have e79 := hbaseF 79 (not_dst (by kernel_rfl))
        simp only [List.getElem?_toArray, List.getElem?_cons_zero, List.getElem?_cons_succ, Option.getD_some] at e79
        have e80 := hbaseF 80 (not_dst (by kernel_rfl))
        simp only [List.getElem?_toArray, List.getElem?_cons_zero, List.getElem?_cons_succ, Option.getD_some] at e80
        have e81 := hbaseF 81 (not_dst (by kernel_rfl))
        simp only [List.getElem?_toArray, List.getElem?_cons_zero, List.getElem?_cons_succ, Option.getD_some] at e81
        have e82 := hbaseF 82 (not_dst (by kernel_rfl))
        simp only [List.getElem?_toArray, List.getElem?_cons_zero, List.getElem?_cons_succ, Option.getD_some] at e82
        have e83 := hbaseF 83 (not_dst (by kernel_rfl))
        simp only [List.getElem?_toArray, List.getElem?_cons_zero, List.getElem?_cons_succ, Option.getD_some] at e83
        have e84 := hbaseF 84 (not_dst (by kernel_rfl))
        simp only [List.getElem?_toArray, List.getElem?_cons_zero, List.getElem?_cons_succ, Option.getD_some] at e84
        have e85 := hbaseF 85 (not_dst (by kernel_rfl))
        simp only [List.getElem?_toArray, List.getElem?_cons_zero, List.getElem?_cons_succ, Option.getD_some] at e85
        have e86 := hbaseF 86 (not_dst (by kernel_rfl))
        simp only [List.getElem?_toArray, List.getElem?_cons_zero, List.getElem?_cons_succ, Option.getD_some] at e86
        have e87 := hbaseF 87 (not_dst (by kernel_rfl))
        simp only [List.getElem?_toArray, List.getElem?_cons_zero, List.getElem?_cons_succ, Option.getD_some] at e87
        have e88 := hbaseF 88 (not_dst (by kernel_rfl))
        simp only [List.getElem?_toArray, List.getElem?_cons_zero, List.getElem?_cons_succ, Option.getD_some] at e88
        have e89 := hbaseF 89 (not_dst (by kernel_rfl))
        simp only [List.getElem?_toArray, List.getElem?_cons_zero, List.getElem?_cons_succ, Option.getD_some] at e89
        have e90 := hbaseF 90 (not_dst (by kernel_rfl))
        simp only [List.getElem?_toArray, List.getElem?_cons_zero, List.getElem?_cons_succ, Option.getD_some] at e90
        clear hbaseF hfactF
        have hT : T = #[T[0]?.getD undef, T[1]?.getD undef, T[2]?.getD undef, T[3]?.getD undef, T[4]?.getD undef, T[5]?.getD undef, T[6]?.getD undef, T[7]?.getD undef, T[8]?.getD undef, T[9]?.getD undef, T[10]?.getD undef, T[11]?.getD undef, T[12]?.getD undef, T[13]?.getD undef, T[14]?.getD undef, T[15]?.getD undef, T[16]?.getD undef, T[17]?.getD undef, T[18]?.getD undef, T[19]?.getD undef, T[20]?.getD undef, T[21]?.getD undef, T[22]?.getD undef, T[23]?.getD undef, T[24]?.getD undef, T[25]?.getD undef, T[26]?.getD undef, T[27]?.getD undef, T[28]?.getD undef, T[29]?.getD undef, T[30]?.getD undef, T[31]?.getD undef, T[32]?.getD undef, T[33]?.getD undef, T[34]?.getD undef, T[35]?.getD undef, T[36]?.getD undef, T[37]?.getD undef, T[38]?.getD undef, T[39]?.getD undef, T[40]?.getD undef, T[41]?.getD undef, T[42]?.getD undef, T[43]?.getD undef, T[44]?.getD undef, T[45]?.getD undef, T[46]?.getD undef, T[47]?.getD undef, T[48]?.getD undef, T[49]?.getD undef, T[50]?.getD undef, T[51]?.getD undef, T[52]?.getD undef, T[53]?.getD undef, T[54]?.getD undef, T[55]?.getD undef, T[56]?.getD undef, T[57]?.getD undef, T[58]?.getD undef, T[59]?.getD undef, T[60]?.getD undef, T[61]?.getD undef, T[62]?.getD undef, T[63]?.getD undef, T[64]?.getD undef, T[65]?.getD undef, T[66]?.getD undef, T[67]?.getD undef, T[68]?.getD undef, T[69]?.getD undef, T[70]?.getD undef, T[71]?.getD undef, T[72]?.getD undef, T[73]?.getD undef, T[74]?.getD undef, T[75]?.getD undef, T[76]?.getD undef, T[77]?.getD undef, T[78]?.getD undef, T[79]?.getD undef, T[80]?.getD undef, T[81]?.getD undef, T[82]?.getD undef, T[83]?.getD undef, T[84]?.getD undef, T[85]?.getD undef, T[86]?.getD undef, T[87]?.getD undef, T[88]?.getD undef, T[89]?.getD undef, T[90]?.getD undef] := arr_eq T 91 hsF
        clear hsF
        rw [e0] at hT; clear e0
        rw [e1] at hT; clear e1
        rw [e2] at hT; clear e2
        rw [e3] at hT; clear e3
        rw [e4] at hT; clear e4
        rw [e5] at hT; clear e5
        rw [e6] at hT; clear e6
        rw [e7] at hT; clear e7
        rw [e8] at hT; clear e8
        rw [e9] at hT; clear e9
        rw [e10] at hT; clear e10
        rw [e11] at hT; clear e11
        rw [e12] at hT; clear e12
        rw [e13] at hT; clear e13
        rw [e14] at hT; clear e14
        rw [e15] at hT; clear e15
        rw [e16] at hT; clear e16
        rw [e17] at hT; clear e17
        rw [e18] at hT; clear e18
        rw [e19] at hT; clear e19
        rw [e20] at hT; clear e20
        rw [e21] at hT; clear e21
        rw [e22] at hT; clear e22
        rw [e23] at hT; clear e23
        rw [e24] at hT; clear e24
        rw [e25] at hT; clear e25
        rw [e26] at hT; clear e26
        rw [e27] at hT; clear e27
        rw [e28] at hT; clear e28
        rw [e29] at hT; clear e29
        rw [e30] at hT; clear e30
        rw [e31] at hT; clear e31
        rw [e32] at hT; clear e32
        rw [e33] at hT; clear e33
        rw [e34] at hT; clear e34
        rw [e35] at hT; clear e35
        rw [e36] at hT; clear e36
        rw [e37] at hT; clear e37
        rw [e38] at hT; clear e38
        rw [e39] at hT; clear e39
        rw [e40] at hT; clear e40
        rw [e41] at hT; clear e41
        rw [e42] at hT; clear e42
        rw [e43] at hT; clear e43
        rw [e44] at hT; clear e44
        rw [e45] at hT; clear e45
        rw [e46] at hT; clear e46
        rw [e47] at hT; clear e47
        rw [e48] at hT; clear e48
        rw [e49] at hT; clear e49
        rw [e50] at hT; clear e50
        rw [e51] at hT; clear e51
        rw [e52] at hT; clear e52
        rw [e53] at hT; clear e53
        generalize T[54]?.getD undef = u54 at hT
        generalize T[55]?.getD undef = u55 at hT
        generalize T[56]?.getD undef = u56 at hT
        generalize T[57]?.getD undef = u57 at hT
        generalize T[58]?.getD undef = u58 at hT
        generalize T[59]?.getD undef = u59 at hT
        generalize T[60]?.getD undef = u60 at hT
        generalize T[61]?.getD undef = u61 at hT
        generalize T[62]?.getD undef = u62 at hT
        generalize T[63]?.getD undef = u63 at hT
        generalize T[64]?.getD undef = u64 at hT
        generalize T[65]?.getD undef = u65 at hT
        generalize T[66]?.getD undef = u66 at hT
        generalize T[67]?.getD undef = u67 at hT
        generalize T[68]?.getD undef = u68 at hT
        rw [e69] at hT; clear e69
        rw [e70] at hT; clear e70
        rw [e71] at hT; clear e71
        rw [e72] at hT; clear e72
        rw [e73] at hT; clear e73
        rw [e74] at hT; clear e74
        rw [e75] at hT; clear e75
        rw [e76] at hT; clear e76
        rw [e77] at hT; clear e77
        rw [e78] at hT; clear e78
        rw [e79] at hT; clear e79
        rw [e80] at hT; clear e80
        rw [e81] at hT; clear e81
        rw [e82] at hT; clear e82
        rw [e83] at hT; clear e83
        rw [e84] at hT; clear e84
        rw [e85] at hT; clear e85
        rw [e86] at hT; clear e86
        rw [e87] at hT; clear e87
        rw [e88] at hT; clear e88
        rw [e89] at hT; clear e89
        rw [e90] at hT; clear e90
        subst hT
        obtain ⟨_, u', hB', hO', hX'⟩ := hiF
        have hG' := hG.kept hbF (glow _ (by omega))
        have hR' := hR.kept hbF (glow _ (by omega))
        have hbel' : Below w.heap.size w wF := hbel.trans (hbF.below hbz (fun x hx => by have := hgg x hx; omega))
        rw [hst'.out] at hO'
        rw [HD2.out] at hX'
        go_wp2_with fail
        go_roundw
        case rel => exact ⟨k + 1, by omega, by omega, by go_num, ⟨u', hB', hO'⟩, hX', hG', hR', hbel'⟩
        case measure => simp [intOf] <;> omega
    · obtain ⟨Av, cv, rfl, hOr, hcv1, hcv2⟩ := hO.rd k (esB_len _ _ _)
      obtain ⟨A0, c0', hcell0, hRd0, hc00, hc01⟩ := hcl 0 b rfl
      rw [hb256] at hcell0 hRd0 hc00
      have hck0 : wr.cell? ⟨bl, off, none⟩ = some (.slice A0 256 c0') := (hbel.cell (p := ⟨bl, off, none⟩) hbl).trans hcell0
      have hR0w := hRd0.below hbel
      have hbl2 : bl < wr.heap.size := by omega
      have q0 : ¬ ((k : Int) < N ∧ (k : Int) < tN) := by omega
      have hkl : (esB b bs k).length = k := esB_len _ _ _
      obtain ⟨es, hes⟩ : ∃ es, es = esB b bs k := ⟨_, rfl⟩
      have HES := Lib.hid hes
      have HKY := Lib.hid (show ∀ e ∈ es, 0 ≤ e.1 ∧ e.1 ≤ 65535 by rw [hes]; exact esB_keys)
      rw [← hes] at hO hOr hkl
      clear hes hcell0 hRd0 hcl hX
      by_cases hkN : k < N
      · obtain rfl : k = tN := by omega
        have hno := Lib.hid (show goodL p k b bs = false by
          unfold goodL
          rw [← HNB.out, decide_eq_false_iff_not]
          omega)
        have hne : ((N : Int) != k) = true := by simp; omega
        have q1 : (k : Int) < N := by omega
        go_wp2_with fail
        refine wp_flows [(fun y_ _ => y_ = .int .i64 (N : Int)), (fun y_ _ => y_ = .pointer (some ⟨L, 1, none⟩)), (fun y_ _ => y_ = .slice Av k cv), (fun y_ _ => y_ = .int .i64 (k : Int)), (fun y_ _ => y_ = .bool true), (fun y_ _ => y_ = .bool true), (fun y_ _ => y_ = undef), (fun y_ _ => y_ = undef), (fun y_ _ => y_ = undef), (fun y_ _ => y_ = undef), (fun y_ _ => y_ = .bool true), (fun y_ _ => y_ = .bool true), (fun y_ _ => y_ = undef), (fun y_ _ => y_ = undef), (fun y_ _ => y_ = undef), (fun y_ _ => y_ = undef), (fun y_ _ => y_ = undef), (fun y_ _ => y_ = undef), (fun y_ _ => y_ = undef), (fun y_ _ => y_ = .bool true)] (by kernel_rfl) ⟨Stab.eq _, Stab.eq _, Stab.eq _, Stab.eq _, Stab.eq _, Stab.eq _, Stab.eq _, Stab.eq _, Stab.eq _, Stab.eq _, Stab.eq _, Stab.eq _, Stab.eq _, Stab.eq _, Stab.eq _, Stab.eq _, Stab.eq _, Stab.eq _, Stab.eq _, Stab.eq _, trivial⟩ (by kernel_rfl) (by rfl) ?_ ?_
        · intro kq hkq
          match kq, hkq with
          | 0, _ =>
            refine StepOk.plain _ 69 rfl rfl rfl [(10, none)] (by kernel_rfl) (fun af wf hbw hf Kf hKf => ?_)
            obtain ⟨g10, _⟩ := hf
            have h10 : af.tmps[10]?.getD undef = .int .i64 (N : Int) := g10
            clear g10
            go_simp
            exact hKf _ _ (Below.refl _ _) rfl
          | 1, _ =>
            refine StepOk.plain _ 70 rfl rfl rfl [(9, none)] (by kernel_rfl) (fun af wf hbw hf Kf hKf => ?_)
            obtain ⟨g9, _⟩ := hf
            have h9 : af.tmps[9]?.getD undef = .pointer (some ⟨L, 0, none⟩) := g9
            clear g9
            go_simp
            exact hKf _ _ (Below.refl _ _) rfl
          | 2, _ =>
            refine StepOk.plain _ 71 rfl rfl rfl [(70, some 1)] (by kernel_rfl) (fun af wf hbw hf Kf hKf => ?_)
            obtain ⟨g70, _⟩ := hf
            have h70 : af.tmps[70]?.getD undef = .pointer (some ⟨L, 1, none⟩) := g70
            clear g70
            have cB0 := (Blk.on (Blk.drew (hBL)) hbw).cell
            have cB1 := (Blk.on (Blk.drew (hG)) hbw).cell
            go_simp
            exact hKf _ _ (Below.refl _ _) rfl
          | 3, _ =>
            refine StepOk.plain _ 72 rfl rfl rfl [(71, some 2)] (by kernel_rfl) (fun af wf hbw hf Kf hKf => ?_)
            obtain ⟨g71, _⟩ := hf
            have h71 : af.tmps[71]?.getD undef = .slice Av k cv := g71
            clear g71
            go_simp
            exact hKf _ _ (Below.refl _ _) rfl
          | 4, _ =>
            refine StepOk.plain _ 73 rfl rfl rfl [(69, some 0), (72, some 3)] (by kernel_rfl) (fun af wf hbw hf Kf hKf => ?_)
            obtain ⟨g69, g72, _⟩ := hf
            have h69 : af.tmps[69]?.getD undef = .int .i64 (N : Int) := g69
            have h72 : af.tmps[72]?.getD undef = .int .i64 (k : Int) := g72
            clear g69 g72
            go_simp
            exact hKf _ _ (Below.refl _ _) rfl
          | 5, _ =>
            refine StepOk.plain _ 74 rfl rfl rfl [(73, some 4)] (by kernel_rfl) (fun af wf hbw hf Kf hKf => ?_)
            obtain ⟨g73, _⟩ := hf
            have h73 : af.tmps[73]?.getD undef = .bool true := g73
            clear g73
            go_simp
            exact hKf _ _ (Below.refl _ _) rfl
          | 6, _ => exact StepOk.no _ 75 rfl rfl rfl rfl (fun _ _ h => h) (by decide) (by kernel_rfl) (fun _ => rfl)
          | 7, _ => exact StepOk.no _ 76 rfl rfl rfl rfl (fun _ _ h => h) (by decide) (by kernel_rfl) (fun _ => rfl)
          | 8, _ => exact StepOk.no _ 77 rfl rfl rfl rfl (fun _ _ h => h) (by decide) (by kernel_rfl) (fun _ => rfl)
          | 9, _ => exact StepOk.no _ 78 rfl rfl rfl rfl (fun _ _ h => h) (by decide) (by kernel_rfl) (fun _ => rfl)
          | 10, _ =>
            refine StepOk.plain _ 79 rfl rfl rfl [(74, some 5), (78, some 9)] (by kernel_rfl) (fun af wf hbw hf Kf hKf => ?_)
            obtain ⟨g74, g78, _⟩ := hf
            have h74 : af.tmps[74]?.getD undef = .bool true := g74
            have h78 : af.tmps[78]?.getD undef = undef := g78
            clear g74 g78
            go_simp
            exact hKf _ _ (Below.refl _ _) rfl
          | 11, _ =>
            refine StepOk.plain _ 80 rfl rfl rfl [(79, some 10)] (by kernel_rfl) (fun af wf hbw hf Kf hKf => ?_)
            obtain ⟨g79, _⟩ := hf
            have h79 : af.tmps[79]?.getD undef = .bool true := g79
            clear g79
            go_simp
            exact hKf _ _ (Below.refl _ _) rfl
          | 12, _ => exact StepOk.no _ 81 rfl rfl rfl rfl (fun _ _ h => h) (by decide) (by kernel_rfl) (fun _ => rfl)
          | 13, _ => exact StepOk.no _ 82 rfl rfl rfl rfl (fun _ _ h => h) (by decide) (by kernel_rfl) (fun _ => rfl)
          | 14, _ => exact StepOk.no _ 83 rfl rfl rfl rfl (fun _ _ h => h) (by decide) (by kernel_rfl) (fun _ => rfl)
          | 15, _ => exact StepOk.no _ 84 rfl rfl rfl rfl (fun _ _ h => h) (by decide) (by kernel_rfl) (fun _ => rfl)
          | 16, _ => exact StepOk.no _ 85 rfl rfl rfl rfl (fun _ _ h => h) (by decide) (by kernel_rfl) (fun _ => rfl)
          | 17, _ => exact StepOk.no _ 86 rfl rfl rfl rfl (fun _ _ h => h) (by decide) (by kernel_rfl) (fun _ => rfl)
          | 18, _ => exact StepOk.no _ 87 rfl rfl rfl rfl (fun _ _ h => h) (by decide) (by kernel_rfl) (fun _ => rfl)
          | 19, _ =>
            refine StepOk.plain _ 88 rfl rfl rfl [(80, some 11), (87, some 18)] (by kernel_rfl) (fun af wf hbw hf Kf hKf => ?_)
            obtain ⟨g80, g87, _⟩ := hf
            have h80 : af.tmps[80]?.getD undef = .bool true := g80
            have h87 : af.tmps[87]?.getD undef = undef := g87
            clear g80 g87
            go_simp
            exact hKf _ _ (Below.refl _ _) rfl
          | i + 20, h => exact absurd h (by show ¬ (i + 20 < 20); omega)
        · intro af wF hbF hdF hsF hbaseF hfactF
          obtain ⟨T, dsF⟩ := af
          obtain rfl : dsF = _ := hdF
          have e0 := hbaseF 0 (not_dst (by kernel_rfl))
          simp only [List.getElem?_toArray, List.getElem?_cons_zero, Option.getD_some] at e0
          have e1 := hbaseF 1 (not_dst (by kernel_rfl))
          simp only [List.getElem?_toArray, List.getElem?_cons_zero, List.getElem?_cons_succ, Option.getD_some] at e1
          have e2 := hbaseF 2 (not_dst (by kernel_rfl))
          simp only [List.getElem?_toArray, List.getElem?_cons_zero, List.getElem?_cons_succ, Option.getD_some] at e2
          have e3 := hbaseF 3 (not_dst (by kernel_rfl))
          simp only [List.getElem?_toArray, List.getElem?_cons_zero, List.getElem?_cons_succ, Option.getD_some] at e3
          have e4 := hbaseF 4 (not_dst (by kernel_rfl))
          simp only [List.getElem?_toArray, List.getElem?_cons_zero, List.getElem?_cons_succ, Option.getD_some] at e4
          have e5 := hbaseF 5 (not_dst (by kernel_rfl))
          simp only [List.getElem?_toArray, List.getElem?_cons_zero, List.getElem?_cons_succ, Option.getD_some] at e5
          have e6 := hbaseF 6 (not_dst (by kernel_rfl))
          simp only [List.getElem?_toArray, List.getElem?_cons_zero, List.getElem?_cons_succ, Option.getD_some] at e6
          have e7 := hbaseF 7 (not_dst (by kernel_rfl))
          simp only [List.getElem?_toArray, List.getElem?_cons_zero, List.getElem?_cons_succ, Option.getD_some] at e7
          have e8 := hbaseF 8 (not_dst (by kernel_rfl))
          simp only [List.getElem?_toArray, List.getElem?_cons_zero, List.getElem?_cons_succ, Option.getD_some] at e8
          have e9 := hbaseF 9 (not_dst (by kernel_rfl))
          simp only [List.getElem?_toArray, List.getElem?_cons_zero, List.getElem?_cons_succ, Option.getD_some] at e9
          have e10 := hbaseF 10 (not_dst (by kernel_rfl))
          simp only [List.getElem?_toArray, List.getElem?_cons_zero, List.getElem?_cons_succ, Option.getD_some] at e10
          have e11 := hbaseF 11 (not_dst (by kernel_rfl))
          simp only [List.getElem?_toArray, List.getElem?_cons_zero, List.getElem?_cons_succ, Option.getD_some] at e11
          have e12 := hbaseF 12 (not_dst (by kernel_rfl))
          simp only [List.getElem?_toArray, List.getElem?_cons_zero, List.getElem?_cons_succ, Option.getD_some] at e12
          have e13 := hbaseF 13 (not_dst (by kernel_rfl))
          simp only [List.getElem?_toArray, List.getElem?_cons_zero, List.getElem?_cons_succ, Option.getD_some] at e13
          have e14 := hbaseF 14 (not_dst (by kernel_rfl))
          simp only [List.getElem?_toArray, List.getElem?_cons_zero, List.getElem?_cons_succ, Option.getD_some] at e14
          have e15 := hbaseF 15 (not_dst (by kernel_rfl))
          simp only [List.getElem?_toArray, List.getElem?_cons_zero, List.getElem?_cons_succ, Option.getD_some] at e15
          have e16 := hbaseF 16 (not_dst (by kernel_rfl))
          simp only [List.getElem?_toArray, List.getElem?_cons_zero, List.getElem?_cons_succ, Option.getD_some] at e16
          have e17 := hbaseF 17 (not_dst (by kernel_rfl))
          simp only [List.getElem?_toArray, List.getElem?_cons_zero, List.getElem?_cons_succ, Option.getD_some] at e17
          have e18 := hbaseF 18 (not_dst (by kernel_rfl))
          simp only [List.getElem?_toArray, List.getElem?_cons_zero, List.getElem?_cons_succ, Option.getD_some] at e18
          have e19 := hbaseF 19 (not_dst (by kernel_rfl))
          simp only [List.getElem?_toArray, List.getElem?_cons_zero, List.getElem?_cons_succ, Option.getD_some] at e19
          have e20 := hbaseF 20 (not_dst (by kernel_rfl))
          simp only [List.getElem?_toArray, List.getElem?_cons_zero, List.getElem?_cons_succ, Option.getD_some] at e20
          have e21 := hbaseF 21 (not_dst (by kernel_rfl))
          simp only [List.getElem?_toArray, List.getElem?_cons_zero, List.getElem?_cons_succ, Option.getD_some] at e21
          have e22 := hbaseF 22 (not_dst (by kernel_rfl))
          simp only [List.getElem?_toArray, List.getElem?_cons_zero, List.getElem?_cons_succ, Option.getD_some] at e22
          have e23 := hbaseF 23 (not_dst (by kernel_rfl))
          simp only [List.getElem?_toArray, List.getElem?_cons_zero, List.getElem?_cons_succ, Option.getD_some] at e23
          have e24 := hbaseF 24 (not_dst (by kernel_rfl))
          simp only [List.getElem?_toArray, List.getElem?_cons_zero, List.getElem?_cons_succ, Option.getD_some] at e24
          have e25 := hbaseF 25 (not_dst (by kernel_rfl))
          simp only [List.getElem?_toArray, List.getElem?_cons_zero, List.getElem?_cons_succ, Option.getD_some] at e25
          have e26 := hbaseF 26 (not_dst (by kernel_rfl))
          simp only [List.getElem?_toArray, List.getElem?_cons_zero, List.getElem?_cons_succ, Option.getD_some] at e26
          have e27 := hbaseF 27 (not_dst (by kernel_rfl))
          simp only [List.getElem?_toArray, List.getElem?_cons_zero, List.getElem?_cons_succ, Option.getD_some] at e27
          have e28 := hbaseF 28 (not_dst (by kernel_rfl))
          simp only [List.getElem?_toArray, List.getElem?_cons_zero, List.getElem?_cons_succ, Option.getD_some] at e28
          have e29 := hbaseF 29 (not_dst (by kernel_rfl))
          simp only [List.getElem?_toArray, List.getElem?_cons_zero, List.getElem?_cons_succ, Option.getD_some] at e29
          have e30 := hbaseF 30 (not_dst (by kernel_rfl))
          simp only [List.getElem?_toArray, List.getElem?_cons_zero, List.getElem?_cons_succ, Option.getD_some] at e30
          have e31 := hbaseF 31 (not_dst (by kernel_rfl))
          simp only [List.getElem?_toArray, List.getElem?_cons_zero, List.getElem?_cons_succ, Option.getD_some] at e31
          have e32 := hbaseF 32 (not_dst (by kernel_rfl))
          simp only [List.getElem?_toArray, List.getElem?_cons_zero, List.getElem?_cons_succ, Option.getD_some] at e32
          have e33 := hbaseF 33 (not_dst (by kernel_rfl))
          simp only [List.getElem?_toArray, List.getElem?_cons_zero, List.getElem?_cons_succ, Option.getD_some] at e33
          have e34 := hbaseF 34 (not_dst (by kernel_rfl))
          simp only [List.getElem?_toArray, List.getElem?_cons_zero, List.getElem?_cons_succ, Option.getD_some] at e34
          have e35 := hbaseF 35 (not_dst (by kernel_rfl))
          simp only [List.getElem?_toArray, List.getElem?_cons_zero, List.getElem?_cons_succ, Option.getD_some] at e35
          have e36 := hbaseF 36 (not_dst (by kernel_rfl))
          simp only [List.getElem?_toArray, List.getElem?_cons_zero, List.getElem?_cons_succ, Option.getD_some] at e36
          have e37 := hbaseF 37 (not_dst (by kernel_rfl))
          simp only [List.getElem?_toArray, List.getElem?_cons_zero, List.getElem?_cons_succ, Option.getD_some] at e37
          have e38 := hbaseF 38 (not_dst (by kernel_rfl))
          simp only [List.getElem?_toArray, List.getElem?_cons_zero, List.getElem?_cons_succ, Option.getD_some] at e38
          have e39 := hbaseF 39 (not_dst (by kernel_rfl))
          simp only [List.getElem?_toArray, List.getElem?_cons_zero, List.getElem?_cons_succ, Option.getD_some] at e39
          have e40 := hbaseF 40 (not_dst (by kernel_rfl))
          simp only [List.getElem?_toArray, List.getElem?_cons_zero, List.getElem?_cons_succ, Option.getD_some] at e40
          have e41 := hbaseF 41 (not_dst (by kernel_rfl))
          simp only [List.getElem?_toArray, List.getElem?_cons_zero, List.getElem?_cons_succ, Option.getD_some] at e41
          have e42 := hbaseF 42 (not_dst (by kernel_rfl))
          simp only [List.getElem?_toArray, List.getElem?_cons_zero, List.getElem?_cons_succ, Option.getD_some] at e42
          have e43 := hbaseF 43 (not_dst (by kernel_rfl))
          simp only [List.getElem?_toArray, List.getElem?_cons_zero, List.getElem?_cons_succ, Option.getD_some] at e43
          have e44 := hbaseF 44 (not_dst (by kernel_rfl))
          simp only [List.getElem?_toArray, List.getElem?_cons_zero, List.getElem?_cons_succ, Option.getD_some] at e44
          have e45 := hbaseF 45 (not_dst (by kernel_rfl))
          simp only [List.getElem?_toArray, List.getElem?_cons_zero, List.getElem?_cons_succ, Option.getD_some] at e45
          have e46 := hbaseF 46 (not_dst (by kernel_rfl))
          simp only [List.getElem?_toArray, List.getElem?_cons_zero, List.getElem?_cons_succ, Option.getD_some] at e46
          have e47 := hbaseF 47 (not_dst (by kernel_rfl))
          simp only [List.getElem?_toArray, List.getElem?_cons_zero, List.getElem?_cons_succ, Option.getD_some] at e47
          have e48 := hbaseF 48 (not_dst (by kernel_rfl))
          simp only [List.getElem?_toArray, List.getElem?_cons_zero, List.getElem?_cons_succ, Option.getD_some] at e48
          have e49 := hbaseF 49 (not_dst (by kernel_rfl))
          simp only [List.getElem?_toArray, List.getElem?_cons_zero, List.getElem?_cons_succ, Option.getD_some] at e49
          have e50 := hbaseF 50 (not_dst (by kernel_rfl))
          simp only [List.getElem?_toArray, List.getElem?_cons_zero, List.getElem?_cons_succ, Option.getD_some] at e50
          have e51 := hbaseF 51 (not_dst (by kernel_rfl))
          simp only [List.getElem?_toArray, List.getElem?_cons_zero, List.getElem?_cons_succ, Option.getD_some] at e51
          have e52 := hbaseF 52 (not_dst (by kernel_rfl))
          simp only [List.getElem?_toArray, List.getElem?_cons_zero, List.getElem?_cons_succ, Option.getD_some] at e52
          have e53 := hbaseF 53 (not_dst (by kernel_rfl))
          simp only [List.getElem?_toArray, List.getElem?_cons_zero, List.getElem?_cons_succ, Option.getD_some] at e53
          have e54 := hbaseF 54 (not_dst (by kernel_rfl))
          simp only [List.getElem?_toArray, List.getElem?_cons_zero, List.getElem?_cons_succ, Option.getD_some] at e54
          have e55 := hbaseF 55 (not_dst (by kernel_rfl))
          simp only [List.getElem?_toArray, List.getElem?_cons_zero, List.getElem?_cons_succ, Option.getD_some] at e55
          have e56 := hbaseF 56 (not_dst (by kernel_rfl))
          simp only [List.getElem?_toArray, List.getElem?_cons_zero, List.getElem?_cons_succ, Option.getD_some] at e56
          have e57 := hbaseF 57 (not_dst (by kernel_rfl))
          simp only [List.getElem?_toArray, List.getElem?_cons_zero, List.getElem?_cons_succ, Option.getD_some] at e57
          have e58 := hbaseF 58 (not_dst (by kernel_rfl))
          simp only [List.getElem?_toArray, List.getElem?_cons_zero, List.getElem?_cons_succ, Option.getD_some] at e58
          have e59 := hbaseF 59 (not_dst (by kernel_rfl))
          simp only [List.getElem?_toArray, List.getElem?_cons_zero, List.getElem?_cons_succ, Option.getD_some] at e59
          have e60 := hbaseF 60 (not_dst (by kernel_rfl))
          simp only [List.getElem?_toArray, List.getElem?_cons_zero, List.getElem?_cons_succ, Option.getD_some] at e60
          have e61 := hbaseF 61 (not_dst (by kernel_rfl))
          simp only [List.getElem?_toArray, List.getElem?_cons_zero, List.getElem?_cons_succ, Option.getD_some] at e61
          have e62 := hbaseF 62 (not_dst (by kernel_rfl))
          simp only [List.getElem?_toArray, List.getElem?_cons_zero, List.getElem?_cons_succ, Option.getD_some] at e62
          have e63 := hbaseF 63 (not_dst (by kernel_rfl))
          simp only [List.getElem?_toArray, List.getElem?_cons_zero, List.getElem?_cons_succ, Option.getD_some] at e63
          have e64 := hbaseF 64 (not_dst (by kernel_rfl))
          simp only [List.getElem?_toArray, List.getElem?_cons_zero, List.getElem?_cons_succ, Option.getD_some] at e64
          have e65 := hbaseF 65 (not_dst (by kernel_rfl))
          simp only [List.getElem?_toArray, List.getElem?_cons_zero, List.getElem?_cons_succ, Option.getD_some] at e65
          have e66 := hbaseF 66 (not_dst (by kernel_rfl))
          simp only [List.getElem?_toArray, List.getElem?_cons_zero, List.getElem?_cons_succ, Option.getD_some] at e66
          have e67 := hbaseF 67 (not_dst (by kernel_rfl))
          simp only [List.getElem?_toArray, List.getElem?_cons_zero, List.getElem?_cons_succ, Option.getD_some] at e67
          have e68 := hbaseF 68 (not_dst (by kernel_rfl))
          simp only [List.getElem?_toArray, List.getElem?_cons_zero, List.getElem?_cons_succ, Option.getD_some] at e68
          have e89 := hbaseF 89 (not_dst (by kernel_rfl))
          simp only [List.getElem?_toArray, List.getElem?_cons_zero, List.getElem?_cons_succ, Option.getD_some] at e89
          have e90 := hbaseF 90 (not_dst (by kernel_rfl))
          simp only [List.getElem?_toArray, List.getElem?_cons_zero, List.getElem?_cons_succ, Option.getD_some] at e90
          have e88 := hfactF 19 88 (by decide) rfl
          replace e88 : T[88]?.getD undef = .bool true := e88
          clear hbaseF hfactF
          have hT : T = #[T[0]?.getD undef, T[1]?.getD undef, T[2]?.getD undef, T[3]?.getD undef, T[4]?.getD undef, T[5]?.getD undef, T[6]?.getD undef, T[7]?.getD undef, T[8]?.getD undef, T[9]?.getD undef, T[10]?.getD undef, T[11]?.getD undef, T[12]?.getD undef, T[13]?.getD undef, T[14]?.getD undef, T[15]?.getD undef, T[16]?.getD undef, T[17]?.getD undef, T[18]?.getD undef, T[19]?.getD undef, T[20]?.getD undef, T[21]?.getD undef, T[22]?.getD undef, T[23]?.getD undef, T[24]?.getD undef, T[25]?.getD undef, T[26]?.getD undef, T[27]?.getD undef, T[28]?.getD undef, T[29]?.getD undef, T[30]?.getD undef, T[31]?.getD undef, T[32]?.getD undef, T[33]?.getD undef, T[34]?.getD undef, T[35]?.getD undef, T[36]?.getD undef, T[37]?.getD undef, T[38]?.getD undef, T[39]?.getD undef, T[40]?.getD undef, T[41]?.getD undef, T[42]?.getD undef, T[43]?.getD undef, T[44]?.getD undef, T[45]?.getD undef, T[46]?.getD undef, T[47]?.getD undef, T[48]?.getD undef, T[49]?.getD undef, T[50]?.getD undef, T[51]?.getD undef, T[52]?.getD undef, T[53]?.getD undef, T[54]?.getD undef, T[55]?.getD undef, T[56]?.getD undef, T[57]?.getD undef, T[58]?.getD undef, T[59]?.getD undef, T[60]?.getD undef, T[61]?.getD undef, T[62]?.getD undef, T[63]?.getD undef, T[64]?.getD undef, T[65]?.getD undef, T[66]?.getD undef, T[67]?.getD undef, T[68]?.getD undef, T[69]?.getD undef, T[70]?.getD undef, T[71]?.getD undef, T[72]?.getD undef, T[73]?.getD undef, T[74]?.getD undef, T[75]?.getD undef, T[76]?.getD undef, T[77]?.getD undef, T[78]?.getD undef, T[79]?.getD undef, T[80]?.getD undef, T[81]?.getD undef, T[82]?.getD undef, T[83]?.getD undef, T[84]?.getD undef, T[85]?.getD undef, T[86]?.getD undef, T[87]?.getD undef, T[88]?.getD undef, T[89]?.getD undef, T[90]?.getD undef] := arr_eq T 91 hsF
          clear hsF
          rw [e0] at hT; clear e0
          rw [e1] at hT; clear e1
          rw [e2] at hT; clear e2
          rw [e3] at hT; clear e3
          rw [e4] at hT; clear e4
          rw [e5] at hT; clear e5
          rw [e6] at hT; clear e6
          rw [e7] at hT; clear e7
          rw [e8] at hT; clear e8
          rw [e9] at hT; clear e9
          rw [e10] at hT; clear e10
          rw [e11] at hT; clear e11
          rw [e12] at hT; clear e12
          rw [e13] at hT; clear e13
          rw [e14] at hT; clear e14
          rw [e15] at hT; clear e15
          rw [e16] at hT; clear e16
          rw [e17] at hT; clear e17
          rw [e18] at hT; clear e18
          rw [e19] at hT; clear e19
          rw [e20] at hT; clear e20
          rw [e21] at hT; clear e21
          rw [e22] at hT; clear e22
          rw [e23] at hT; clear e23
          rw [e24] at hT; clear e24
          rw [e25] at hT; clear e25
          rw [e26] at hT; clear e26
          rw [e27] at hT; clear e27
          rw [e28] at hT; clear e28
          rw [e29] at hT; clear e29
          rw [e30] at hT; clear e30
          rw [e31] at hT; clear e31
          rw [e32] at hT; clear e32
          rw [e33] at hT; clear e33
          rw [e34] at hT; clear e34
          rw [e35] at hT; clear e35
          rw [e36] at hT; clear e36
          rw [e37] at hT; clear e37
          rw [e38] at hT; clear e38
          rw [e39] at hT; clear e39
          rw [e40] at hT; clear e40
          rw [e41] at hT; clear e41
          rw [e42] at hT; clear e42
          rw [e43] at hT; clear e43
          rw [e44] at hT; clear e44
          rw [e45] at hT; clear e45
          rw [e46] at hT; clear e46
          rw [e47] at hT; clear e47
          rw [e48] at hT; clear e48
          rw [e49] at hT; clear e49
          rw [e50] at hT; clear e50
          rw [e51] at hT; clear e51
          rw [e52] at hT; clear e52
          rw [e53] at hT; clear e53
          rw [e54] at hT; clear e54
          rw [e55] at hT; clear e55
          rw [e56] at hT; clear e56
          rw [e57] at hT; clear e57
          rw [e58] at hT; clear e58
          rw [e59] at hT; clear e59
          rw [e60] at hT; clear e60
          rw [e61] at hT; clear e61
          rw [e62] at hT; clear e62
          rw [e63] at hT; clear e63
          rw [e64] at hT; clear e64
          rw [e65] at hT; clear e65
          rw [e66] at hT; clear e66
          rw [e67] at hT; clear e67
          rw [e68] at hT; clear e68
          generalize T[69]?.getD undef = u69 at hT
          generalize T[70]?.getD undef = u70 at hT
          generalize T[71]?.getD undef = u71 at hT
          generalize T[72]?.getD undef = u72 at hT
          generalize T[73]?.getD undef = u73 at hT
          generalize T[74]?.getD undef = u74 at hT
          generalize T[75]?.getD undef = u75 at hT
          generalize T[76]?.getD undef = u76 at hT
          generalize T[77]?.getD undef = u77 at hT
          generalize T[78]?.getD undef = u78 at hT
          generalize T[79]?.getD undef = u79 at hT
          generalize T[80]?.getD undef = u80 at hT
          generalize T[81]?.getD undef = u81 at hT
          generalize T[82]?.getD undef = u82 at hT
          generalize T[83]?.getD undef = u83 at hT
          generalize T[84]?.getD undef = u84 at hT
          generalize T[85]?.getD undef = u85 at hT
          generalize T[86]?.getD undef = u86 at hT
          generalize T[87]?.getD undef = u87 at hT
          rw [e88] at hT; clear e88
          rw [e89] at hT; clear e89
          rw [e90] at hT; clear e90
          subst hT
          have R1 := hR.on hbF
          have bF : Below w.heap.size w wF := hbel.trans (hbF.mono hbz)
          have c7 := R1.cell
          have f7 := R1.frozen
          have z7 := R1.lt
          have e0 := (R1.set_ 0 (.int .u64 0)).cell 0
          have e1 := ((R1.set_ 0 (.int .u64 0)).set_ 1 (.slice none 0 0)).cell 1
          have e2 := ((R1.set_ 0 (.int .u64 0)).set_ 1 (.slice none 0 0)).cell 0
          simp at e0 e1 e2
          go_wp2_with fail
          refine bodyPost_ret (v := .tuple #[.agg #[.int .u64 0, .slice none 0 0], .int .i64 4]) (by simp [results, Try.results52, go_sem, e0, e1, e2]) rfl ⟨.slice none 0 0, ?_, ?_, (by (have q_bF := Below.size bF; (try simp at q_bF); repeat (first | exact Below.refl _ _ | (refine Below.trans ?_ (Below.mono bF (by first | omega | (simp; omega) | simp))) | (refine Below.setCell ?_ (by first | omega | (simp; omega) | simp) _) | (refine Below.alloc ?_ (by first | omega | (simp; omega) | simp) _) | apply Below.drew | apply below_drewN)))⟩
          · unfold parC parE
            rw [if_neg (by rw [hno.out]; simp), if_neg (by rw [hno.out]; simp)]
          · unfold parS
            rw [if_neg (by rw [hno.out]; simp)]
            exact OwnR.nil _
      · obtain rfl : k = N := by omega
        have hne : ((k : Int) != k) = false := by simp
        have q1 : ¬ ((k : Int) < k) := by omega
        have hge : goodL p tN b bs = decide (mayLog p tN es = true ∧ headL C es = b) := by
          unfold goodL
          rw [← HNB.out, ← HES.out, ← HC.out]
          congr 1
          apply propext
          constructor
          · rintro ⟨_, h1, h2⟩; exact ⟨h1, h2⟩
          · rintro ⟨h1, h2⟩; exact ⟨by omega, h1, h2⟩
        cases hM : mayLog p tN es
        · have hno := Lib.hid (show goodL p tN b bs = false by rw [hge, hM]; simp)
          have HM := Lib.hid hM
          clear hge hM
          go_wp2_with fail
          refine wp_flows [(fun y_ _ => y_ = .int .i64 (k : Int)), (fun y_ _ => y_ = .pointer (some ⟨L, 1, none⟩)), (fun y_ _ => y_ = .slice Av k cv), (fun y_ _ => y_ = .int .i64 (k : Int)), (fun y_ _ => y_ = .bool false), (fun y_ _ => y_ = .bool false), (fun y_ _ => y_ = .agg #[.int .i64 p, .int .i64 tN]), (fun y_ _ => y_ = .agg #[.int .u64 C, .slice Av k cv]), (fun y_ _ => y_ = .bool false), (fun y_ _ => y_ = .bool true), (fun y_ _ => y_ = .bool true), (fun y_ _ => y_ = .bool true), (fun y_ _ => y_ = undef), (fun y_ _ => y_ = undef), (fun y_ _ => y_ = undef), (fun y_ _ => y_ = undef), (fun y_ _ => y_ = undef), (fun y_ _ => y_ = undef), (fun y_ _ => y_ = undef), (fun y_ _ => y_ = .bool true)] (by kernel_rfl) ⟨Stab.eq _, Stab.eq _, Stab.eq _, Stab.eq _, Stab.eq _, Stab.eq _, Stab.eq _, Stab.eq _, Stab.eq _, Stab.eq _, Stab.eq _, Stab.eq _, Stab.eq _, Stab.eq _, Stab.eq _, Stab.eq _, Stab.eq _, Stab.eq _, Stab.eq _, Stab.eq _, trivial⟩ (by kernel_rfl) (by rfl) ?_ ?_
          · intro kq hkq
            match kq, hkq with
            | 0, _ =>
              refine StepOk.plain _ 69 rfl rfl rfl [(10, none)] (by kernel_rfl) (fun af wf hbw hf Kf hKf => ?_)
              obtain ⟨g10, _⟩ := hf
              have h10 : af.tmps[10]?.getD undef = .int .i64 (k : Int) := g10
              clear g10
              go_simp
              exact hKf _ _ (Below.refl _ _) rfl
            | 1, _ =>
              refine StepOk.plain _ 70 rfl rfl rfl [(9, none)] (by kernel_rfl) (fun af wf hbw hf Kf hKf => ?_)
              obtain ⟨g9, _⟩ := hf
              have h9 : af.tmps[9]?.getD undef = .pointer (some ⟨L, 0, none⟩) := g9
              clear g9
              go_simp
              exact hKf _ _ (Below.refl _ _) rfl
            | 2, _ =>
              refine StepOk.plain _ 71 rfl rfl rfl [(70, some 1)] (by kernel_rfl) (fun af wf hbw hf Kf hKf => ?_)
              obtain ⟨g70, _⟩ := hf
              have h70 : af.tmps[70]?.getD undef = .pointer (some ⟨L, 1, none⟩) := g70
              clear g70
              have cB0 := (Blk.on (Blk.drew (hBL)) hbw).cell
              have cB1 := (Blk.on (Blk.drew (hG)) hbw).cell
              go_simp
              exact hKf _ _ (Below.refl _ _) rfl
            | 3, _ =>
              refine StepOk.plain _ 72 rfl rfl rfl [(71, some 2)] (by kernel_rfl) (fun af wf hbw hf Kf hKf => ?_)
              obtain ⟨g71, _⟩ := hf
              have h71 : af.tmps[71]?.getD undef = .slice Av k cv := g71
              clear g71
              go_simp
              exact hKf _ _ (Below.refl _ _) rfl
            | 4, _ =>
              refine StepOk.plain _ 73 rfl rfl rfl [(69, some 0), (72, some 3)] (by kernel_rfl) (fun af wf hbw hf Kf hKf => ?_)
              obtain ⟨g69, g72, _⟩ := hf
              have h69 : af.tmps[69]?.getD undef = .int .i64 (k : Int) := g69
              have h72 : af.tmps[72]?.getD undef = .int .i64 (k : Int) := g72
              clear g69 g72
              go_simp
              exact hKf _ _ (Below.refl _ _) rfl
            | 5, _ =>
              refine StepOk.plain _ 74 rfl rfl rfl [(73, some 4)] (by kernel_rfl) (fun af wf hbw hf Kf hKf => ?_)
              obtain ⟨g73, _⟩ := hf
              have h73 : af.tmps[73]?.getD undef = .bool false := g73
              clear g73
              go_simp
              exact hKf _ _ (Below.refl _ _) rfl
            | 6, _ =>
              refine StepOk.yes _ 75 rfl rfl rfl rfl (fun _ _ h => h) [(2, none)] (by kernel_rfl) (fun af wf hbw hf Kf hKf => ?_)
              obtain ⟨g2, _⟩ := hf
              have h2 : af.tmps[2]?.getD undef = .pointer (some ⟨w.heap.size, 0, none⟩) := g2
              clear g2
              have cB0 := (Blk.on (Blk.drew (hBL)) hbw).cell
              have cB1 := (Blk.on (Blk.drew (hG)) hbw).cell
              go_simp
              exact hKf _ _ (Below.refl _ _) rfl
            | 7, _ =>
              refine StepOk.yes _ 76 rfl rfl rfl rfl (fun _ _ h => h) [(9, none)] (by kernel_rfl) (fun af wf hbw hf Kf hKf => ?_)
              obtain ⟨g9, _⟩ := hf
              have h9 : af.tmps[9]?.getD undef = .pointer (some ⟨L, 0, none⟩) := g9
              clear g9
              have cB0 := (Blk.on (Blk.drew (hBL)) hbw).cell
              have cB1 := (Blk.on (Blk.drew (hG)) hbw).cell
              go_simp
              exact hKf _ _ (Below.refl _ _) rfl
            | 8, _ =>
              refine StepOk.yes _ 77 rfl rfl rfl rfl (fun _ _ h => h) [(75, some 6), (76, some 7)] (by kernel_rfl) (fun af wf hbw hf Kf hKf => ?_)
              obtain ⟨g75, g76, _⟩ := hf
              have h75 : af.tmps[75]?.getD undef = .agg #[.int .i64 p, .int .i64 tN] := g75
              have h76 : af.tmps[76]?.getD undef = .agg #[.int .u64 C, .slice Av k cv] := g76
              clear g75 g76
              go_simp
              refine (lmay_any p tN C Av k cv _ _ es _ (RdR.below hOr.drew hbw) (by omega)).mono ?_
              rintro e wN ⟨rfl, hb⟩
              exact hKf _ _ (hb) (congrArg Value.bool HM.out)
            | 9, _ =>
              refine StepOk.yes _ 78 rfl rfl rfl rfl (fun _ _ h => h) [(77, some 8)] (by kernel_rfl) (fun af wf hbw hf Kf hKf => ?_)
              obtain ⟨g77, _⟩ := hf
              have h77 : af.tmps[77]?.getD undef = .bool false := g77
              clear g77
              go_simp
              exact hKf _ _ (Below.refl _ _) rfl
            | 10, _ =>
              refine StepOk.plain _ 79 rfl rfl rfl [(74, some 5), (78, some 9)] (by kernel_rfl) (fun af wf hbw hf Kf hKf => ?_)
              obtain ⟨g74, g78, _⟩ := hf
              have h74 : af.tmps[74]?.getD undef = .bool false := g74
              have h78 : af.tmps[78]?.getD undef = .bool true := g78
              clear g74 g78
              go_simp
              exact hKf _ _ (Below.refl _ _) rfl
            | 11, _ =>
              refine StepOk.plain _ 80 rfl rfl rfl [(79, some 10)] (by kernel_rfl) (fun af wf hbw hf Kf hKf => ?_)
              obtain ⟨g79, _⟩ := hf
              have h79 : af.tmps[79]?.getD undef = .bool true := g79
              clear g79
              go_simp
              exact hKf _ _ (Below.refl _ _) rfl
            | 12, _ => exact StepOk.no _ 81 rfl rfl rfl rfl (fun _ _ h => h) (by decide) (by kernel_rfl) (fun _ => rfl)
            | 13, _ => exact StepOk.no _ 82 rfl rfl rfl rfl (fun _ _ h => h) (by decide) (by kernel_rfl) (fun _ => rfl)
            | 14, _ => exact StepOk.no _ 83 rfl rfl rfl rfl (fun _ _ h => h) (by decide) (by kernel_rfl) (fun _ => rfl)
            | 15, _ => exact StepOk.no _ 84 rfl rfl rfl rfl (fun _ _ h => h) (by decide) (by kernel_rfl) (fun _ => rfl)
            | 16, _ => exact StepOk.no _ 85 rfl rfl rfl rfl (fun _ _ h => h) (by decide) (by kernel_rfl) (fun _ => rfl)
            | 17, _ => exact StepOk.no _ 86 rfl rfl rfl rfl (fun _ _ h => h) (by decide) (by kernel_rfl) (fun _ => rfl)
            | 18, _ => exact StepOk.no _ 87 rfl rfl rfl rfl (fun _ _ h => h) (by decide) (by kernel_rfl) (fun _ => rfl)
            | 19, _ =>
              refine StepOk.plain _ 88 rfl rfl rfl [(80, some 11), (87, some 18)] (by kernel_rfl) (fun af wf hbw hf Kf hKf => ?_)
              obtain ⟨g80, g87, _⟩ := hf
              have h80 : af.tmps[80]?.getD undef = .bool true := g80
              have h87 : af.tmps[87]?.getD undef = undef := g87
              clear g80 g87
              go_simp
              exact hKf _ _ (Below.refl _ _) rfl
            | i + 20, h => exact absurd h (by show ¬ (i + 20 < 20); omega)
          · intro af wF hbF hdF hsF hbaseF hfactF
            obtain ⟨T, dsF⟩ := af
            obtain rfl : dsF = _ := hdF
            have e0 := hbaseF 0 (not_dst (by kernel_rfl))
            simp only [List.getElem?_toArray, List.getElem?_cons_zero, Option.getD_some] at e0
            have e1 := hbaseF 1 (not_dst (by kernel_rfl))
            simp only [List.getElem?_toArray, List.getElem?_cons_zero, List.getElem?_cons_succ, Option.getD_some] at e1
            have e2 := hbaseF 2 (not_dst (by kernel_rfl))
            simp only [List.getElem?_toArray, List.getElem?_cons_zero, List.getElem?_cons_succ, Option.getD_some] at e2
            have e3 := hbaseF 3 (not_dst (by kernel_rfl))
            simp only [List.getElem?_toArray, List.getElem?_cons_zero, List.getElem?_cons_succ, Option.getD_some] at e3
            have e4 := hbaseF 4 (not_dst (by kernel_rfl))
            simp only [List.getElem?_toArray, List.getElem?_cons_zero, List.getElem?_cons_succ, Option.getD_some] at e4
            have e5 := hbaseF 5 (not_dst (by kernel_rfl))
            simp only [List.getElem?_toArray, List.getElem?_cons_zero, List.getElem?_cons_succ, Option.getD_some] at e5
            have e6 := hbaseF 6 (not_dst (by kernel_rfl))
            simp only [List.getElem?_toArray, List.getElem?_cons_zero, List.getElem?_cons_succ, Option.getD_some] at e6
            have e7 := hbaseF 7 (not_dst (by kernel_rfl))
            simp only [List.getElem?_toArray, List.getElem?_cons_zero, List.getElem?_cons_succ, Option.getD_some] at e7
            have e8 := hbaseF 8 (not_dst (by kernel_rfl))
            simp only [List.getElem?_toArray, List.getElem?_cons_zero, List.getElem?_cons_succ, Option.getD_some] at e8
            have e9 := hbaseF 9 (not_dst (by kernel_rfl))
            simp only [List.getElem?_toArray, List.getElem?_cons_zero, List.getElem?_cons_succ, Option.getD_some] at e9
            have e10 := hbaseF 10 (not_dst (by kernel_rfl))
            simp only [List.getElem?_toArray, List.getElem?_cons_zero, List.getElem?_cons_succ, Option.getD_some] at e10
            have e11 := hbaseF 11 (not_dst (by kernel_rfl))
            simp only [List.getElem?_toArray, List.getElem?_cons_zero, List.getElem?_cons_succ, Option.getD_some] at e11
            have e12 := hbaseF 12 (not_dst (by kernel_rfl))
            simp only [List.getElem?_toArray, List.getElem?_cons_zero, List.getElem?_cons_succ, Option.getD_some] at e12
            have e13 := hbaseF 13 (not_dst (by kernel_rfl))
            simp only [List.getElem?_toArray, List.getElem?_cons_zero, List.getElem?_cons_succ, Option.getD_some] at e13
            have e14 := hbaseF 14 (not_dst (by kernel_rfl))
            simp only [List.getElem?_toArray, List.getElem?_cons_zero, List.getElem?_cons_succ, Option.getD_some] at e14
            have e15 := hbaseF 15 (not_dst (by kernel_rfl))
            simp only [List.getElem?_toArray, List.getElem?_cons_zero, List.getElem?_cons_succ, Option.getD_some] at e15
            have e16 := hbaseF 16 (not_dst (by kernel_rfl))
            simp only [List.getElem?_toArray, List.getElem?_cons_zero, List.getElem?_cons_succ, Option.getD_some] at e16
            have e17 := hbaseF 17 (not_dst (by kernel_rfl))
            simp only [List.getElem?_toArray, List.getElem?_cons_zero, List.getElem?_cons_succ, Option.getD_some] at e17
            have e18 := hbaseF 18 (not_dst (by kernel_rfl))
            simp only [List.getElem?_toArray, List.getElem?_cons_zero, List.getElem?_cons_succ, Option.getD_some] at e18
            have e19 := hbaseF 19 (not_dst (by kernel_rfl))
            simp only [List.getElem?_toArray, List.getElem?_cons_zero, List.getElem?_cons_succ, Option.getD_some] at e19
            have e20 := hbaseF 20 (not_dst (by kernel_rfl))
            simp only [List.getElem?_toArray, List.getElem?_cons_zero, List.getElem?_cons_succ, Option.getD_some] at e20
            have e21 := hbaseF 21 (not_dst (by kernel_rfl))
            simp only [List.getElem?_toArray, List.getElem?_cons_zero, List.getElem?_cons_succ, Option.getD_some] at e21
            have e22 := hbaseF 22 (not_dst (by kernel_rfl))
            simp only [List.getElem?_toArray, List.getElem?_cons_zero, List.getElem?_cons_succ, Option.getD_some] at e22
            have e23 := hbaseF 23 (not_dst (by kernel_rfl))
            simp only [List.getElem?_toArray, List.getElem?_cons_zero, List.getElem?_cons_succ, Option.getD_some] at e23
            have e24 := hbaseF 24 (not_dst (by kernel_rfl))
            simp only [List.getElem?_toArray, List.getElem?_cons_zero, List.getElem?_cons_succ, Option.getD_some] at e24
            have e25 := hbaseF 25 (not_dst (by kernel_rfl))
            simp only [List.getElem?_toArray, List.getElem?_cons_zero, List.getElem?_cons_succ, Option.getD_some] at e25
            have e26 := hbaseF 26 (not_dst (by kernel_rfl))
            simp only [List.getElem?_toArray, List.getElem?_cons_zero, List.getElem?_cons_succ, Option.getD_some] at e26
            have e27 := hbaseF 27 (not_dst (by kernel_rfl))
            simp only [List.getElem?_toArray, List.getElem?_cons_zero, List.getElem?_cons_succ, Option.getD_some] at e27
            have e28 := hbaseF 28 (not_dst (by kernel_rfl))
            simp only [List.getElem?_toArray, List.getElem?_cons_zero, List.getElem?_cons_succ, Option.getD_some] at e28
            have e29 := hbaseF 29 (not_dst (by kernel_rfl))
            simp only [List.getElem?_toArray, List.getElem?_cons_zero, List.getElem?_cons_succ, Option.getD_some] at e29
            have e30 := hbaseF 30 (not_dst (by kernel_rfl))
            simp only [List.getElem?_toArray, List.getElem?_cons_zero, List.getElem?_cons_succ, Option.getD_some] at e30
            have e31 := hbaseF 31 (not_dst (by kernel_rfl))
            simp only [List.getElem?_toArray, List.getElem?_cons_zero, List.getElem?_cons_succ, Option.getD_some] at e31
            have e32 := hbaseF 32 (not_dst (by kernel_rfl))
            simp only [List.getElem?_toArray, List.getElem?_cons_zero, List.getElem?_cons_succ, Option.getD_some] at e32
            have e33 := hbaseF 33 (not_dst (by kernel_rfl))
            simp only [List.getElem?_toArray, List.getElem?_cons_zero, List.getElem?_cons_succ, Option.getD_some] at e33
            have e34 := hbaseF 34 (not_dst (by kernel_rfl))
            simp only [List.getElem?_toArray, List.getElem?_cons_zero, List.getElem?_cons_succ, Option.getD_some] at e34
            have e35 := hbaseF 35 (not_dst (by kernel_rfl))
            simp only [List.getElem?_toArray, List.getElem?_cons_zero, List.getElem?_cons_succ, Option.getD_some] at e35
            have e36 := hbaseF 36 (not_dst (by kernel_rfl))
            simp only [List.getElem?_toArray, List.getElem?_cons_zero, List.getElem?_cons_succ, Option.getD_some] at e36
            have e37 := hbaseF 37 (not_dst (by kernel_rfl))
            simp only [List.getElem?_toArray, List.getElem?_cons_zero, List.getElem?_cons_succ, Option.getD_some] at e37
            have e38 := hbaseF 38 (not_dst (by kernel_rfl))
            simp only [List.getElem?_toArray, List.getElem?_cons_zero, List.getElem?_cons_succ, Option.getD_some] at e38
            have e39 := hbaseF 39 (not_dst (by kernel_rfl))
            simp only [List.getElem?_toArray, List.getElem?_cons_zero, List.getElem?_cons_succ, Option.getD_some] at e39
            have e40 := hbaseF 40 (not_dst (by kernel_rfl))
            simp only [List.getElem?_toArray, List.getElem?_cons_zero, List.getElem?_cons_succ, Option.getD_some] at e40
            have e41 := hbaseF 41 (not_dst (by kernel_rfl))
            simp only [List.getElem?_toArray, List.getElem?_cons_zero, List.getElem?_cons_succ, Option.getD_some] at e41
            have e42 := hbaseF 42 (not_dst (by kernel_rfl))
            simp only [List.getElem?_toArray, List.getElem?_cons_zero, List.getElem?_cons_succ, Option.getD_some] at e42
            have e43 := hbaseF 43 (not_dst (by kernel_rfl))
            simp only [List.getElem?_toArray, List.getElem?_cons_zero, List.getElem?_cons_succ, Option.getD_some] at e43
            have e44 := hbaseF 44 (not_dst (by kernel_rfl))
            simp only [List.getElem?_toArray, List.getElem?_cons_zero, List.getElem?_cons_succ, Option.getD_some] at e44
            have e45 := hbaseF 45 (not_dst (by kernel_rfl))
            simp only [List.getElem?_toArray, List.getElem?_cons_zero, List.getElem?_cons_succ, Option.getD_some] at e45
            have e46 := hbaseF 46 (not_dst (by kernel_rfl))
            simp only [List.getElem?_toArray, List.getElem?_cons_zero, List.getElem?_cons_succ, Option.getD_some] at e46
            have e47 := hbaseF 47 (not_dst (by kernel_rfl))
            simp only [List.getElem?_toArray, List.getElem?_cons_zero, List.getElem?_cons_succ, Option.getD_some] at e47
            have e48 := hbaseF 48 (not_dst (by kernel_rfl))
            simp only [List.getElem?_toArray, List.getElem?_cons_zero, List.getElem?_cons_succ, Option.getD_some] at e48
            have e49 := hbaseF 49 (not_dst (by kernel_rfl))
            simp only [List.getElem?_toArray, List.getElem?_cons_zero, List.getElem?_cons_succ, Option.getD_some] at e49
            have e50 := hbaseF 50 (not_dst (by kernel_rfl))
            simp only [List.getElem?_toArray, List.getElem?_cons_zero, List.getElem?_cons_succ, Option.getD_some] at e50
            have e51 := hbaseF 51 (not_dst (by kernel_rfl))
            simp only [List.getElem?_toArray, List.getElem?_cons_zero, List.getElem?_cons_succ, Option.getD_some] at e51
            have e52 := hbaseF 52 (not_dst (by kernel_rfl))
            simp only [List.getElem?_toArray, List.getElem?_cons_zero, List.getElem?_cons_succ, Option.getD_some] at e52
            have e53 := hbaseF 53 (not_dst (by kernel_rfl))
            simp only [List.getElem?_toArray, List.getElem?_cons_zero, List.getElem?_cons_succ, Option.getD_some] at e53
            have e54 := hbaseF 54 (not_dst (by kernel_rfl))
            simp only [List.getElem?_toArray, List.getElem?_cons_zero, List.getElem?_cons_succ, Option.getD_some] at e54
            have e55 := hbaseF 55 (not_dst (by kernel_rfl))
            simp only [List.getElem?_toArray, List.getElem?_cons_zero, List.getElem?_cons_succ, Option.getD_some] at e55
            have e56 := hbaseF 56 (not_dst (by kernel_rfl))
            simp only [List.getElem?_toArray, List.getElem?_cons_zero, List.getElem?_cons_succ, Option.getD_some] at e56
            have e57 := hbaseF 57 (not_dst (by kernel_rfl))
            simp only [List.getElem?_toArray, List.getElem?_cons_zero, List.getElem?_cons_succ, Option.getD_some] at e57
            have e58 := hbaseF 58 (not_dst (by kernel_rfl))
            simp only [List.getElem?_toArray, List.getElem?_cons_zero, List.getElem?_cons_succ, Option.getD_some] at e58
            have e59 := hbaseF 59 (not_dst (by kernel_rfl))
            simp only [List.getElem?_toArray, List.getElem?_cons_zero, List.getElem?_cons_succ, Option.getD_some] at e59
            have e60 := hbaseF 60 (not_dst (by kernel_rfl))
            simp only [List.getElem?_toArray, List.getElem?_cons_zero, List.getElem?_cons_succ, Option.getD_some] at e60
            have e61 := hbaseF 61 (not_dst (by kernel_rfl))
            simp only [List.getElem?_toArray, List.getElem?_cons_zero, List.getElem?_cons_succ, Option.getD_some] at e61
            have e62 := hbaseF 62 (not_dst (by kernel_rfl))
            simp only [List.getElem?_toArray, List.getElem?_cons_zero, List.getElem?_cons_succ, Option.getD_some] at e62
            have e63 := hbaseF 63 (not_dst (by kernel_rfl))
            simp only [List.getElem?_toArray, List.getElem?_cons_zero, List.getElem?_cons_succ, Option.getD_some] at e63
            have e64 := hbaseF 64 (not_dst (by kernel_rfl))
            simp only [List.getElem?_toArray, List.getElem?_cons_zero, List.getElem?_cons_succ, Option.getD_some] at e64
            have e65 := hbaseF 65 (not_dst (by kernel_rfl))
            simp only [List.getElem?_toArray, List.getElem?_cons_zero, List.getElem?_cons_succ, Option.getD_some] at e65
            have e66 := hbaseF 66 (not_dst (by kernel_rfl))
            simp only [List.getElem?_toArray, List.getElem?_cons_zero, List.getElem?_cons_succ, Option.getD_some] at e66
            have e67 := hbaseF 67 (not_dst (by kernel_rfl))
            simp only [List.getElem?_toArray, List.getElem?_cons_zero, List.getElem?_cons_succ, Option.getD_some] at e67
            have e68 := hbaseF 68 (not_dst (by kernel_rfl))
            simp only [List.getElem?_toArray, List.getElem?_cons_zero, List.getElem?_cons_succ, Option.getD_some] at e68
            have e89 := hbaseF 89 (not_dst (by kernel_rfl))
            simp only [List.getElem?_toArray, List.getElem?_cons_zero, List.getElem?_cons_succ, Option.getD_some] at e89
            have e90 := hbaseF 90 (not_dst (by kernel_rfl))
            simp only [List.getElem?_toArray, List.getElem?_cons_zero, List.getElem?_cons_succ, Option.getD_some] at e90
            have e88 := hfactF 19 88 (by decide) rfl
            replace e88 : T[88]?.getD undef = .bool true := e88
            clear hbaseF hfactF
            have hT : T = #[T[0]?.getD undef, T[1]?.getD undef, T[2]?.getD undef, T[3]?.getD undef, T[4]?.getD undef, T[5]?.getD undef, T[6]?.getD undef, T[7]?.getD undef, T[8]?.getD undef, T[9]?.getD undef, T[10]?.getD undef, T[11]?.getD undef, T[12]?.getD undef, T[13]?.getD undef, T[14]?.getD undef, T[15]?.getD undef, T[16]?.getD undef, T[17]?.getD undef, T[18]?.getD undef, T[19]?.getD undef, T[20]?.getD undef, T[21]?.getD undef, T[22]?.getD undef, T[23]?.getD undef, T[24]?.getD undef, T[25]?.getD undef, T[26]?.getD undef, T[27]?.getD undef, T[28]?.getD undef, T[29]?.getD undef, T[30]?.getD undef, T[31]?.getD undef, T[32]?.getD undef, T[33]?.getD undef, T[34]?.getD undef, T[35]?.getD undef, T[36]?.getD undef, T[37]?.getD undef, T[38]?.getD undef, T[39]?.getD undef, T[40]?.getD undef, T[41]?.getD undef, T[42]?.getD undef, T[43]?.getD undef, T[44]?.getD undef, T[45]?.getD undef, T[46]?.getD undef, T[47]?.getD undef, T[48]?.getD undef, T[49]?.getD undef, T[50]?.getD undef, T[51]?.getD undef, T[52]?.getD undef, T[53]?.getD undef, T[54]?.getD undef, T[55]?.getD undef, T[56]?.getD undef, T[57]?.getD undef, T[58]?.getD undef, T[59]?.getD undef, T[60]?.getD undef, T[61]?.getD undef, T[62]?.getD undef, T[63]?.getD undef, T[64]?.getD undef, T[65]?.getD undef, T[66]?.getD undef, T[67]?.getD undef, T[68]?.getD undef, T[69]?.getD undef, T[70]?.getD undef, T[71]?.getD undef, T[72]?.getD undef, T[73]?.getD undef, T[74]?.getD undef, T[75]?.getD undef, T[76]?.getD undef, T[77]?.getD undef, T[78]?.getD undef, T[79]?.getD undef, T[80]?.getD undef, T[81]?.getD undef, T[82]?.getD undef, T[83]?.getD undef, T[84]?.getD undef, T[85]?.getD undef, T[86]?.getD undef, T[87]?.getD undef, T[88]?.getD undef, T[89]?.getD undef, T[90]?.getD undef] := arr_eq T 91 hsF
            clear hsF
            rw [e0] at hT; clear e0
            rw [e1] at hT; clear e1
            rw [e2] at hT; clear e2
            rw [e3] at hT; clear e3
            rw [e4] at hT; clear e4
            rw [e5] at hT; clear e5
            rw [e6] at hT; clear e6
            rw [e7] at hT; clear e7
            rw [e8] at hT; clear e8
            rw [e9] at hT; clear e9
            rw [e10] at hT; clear e10
            rw [e11] at hT; clear e11
            rw [e12] at hT; clear e12
            rw [e13] at hT; clear e13
            rw [e14] at hT; clear e14
            rw [e15] at hT; clear e15
            rw [e16] at hT; clear e16
            rw [e17] at hT; clear e17
            rw [e18] at hT; clear e18
            rw [e19] at hT; clear e19
            rw [e20] at hT; clear e20
            rw [e21] at hT; clear e21
            rw [e22] at hT; clear e22
            rw [e23] at hT; clear e23
            rw [e24] at hT; clear e24
            rw [e25] at hT; clear e25
            rw [e26] at hT; clear e26
            rw [e27] at hT; clear e27
            rw [e28] at hT; clear e28
            rw [e29] at hT; clear e29
            rw [e30] at hT; clear e30
            rw [e31] at hT; clear e31
            rw [e32] at hT; clear e32
            rw [e33] at hT; clear e33
            rw [e34] at hT; clear e34
            rw [e35] at hT; clear e35
            rw [e36] at hT; clear e36
            rw [e37] at hT; clear e37
            rw [e38] at hT; clear e38
            rw [e39] at hT; clear e39
            rw [e40] at hT; clear e40
            rw [e41] at hT; clear e41
            rw [e42] at hT; clear e42
            rw [e43] at hT; clear e43
            rw [e44] at hT; clear e44
            rw [e45] at hT; clear e45
            rw [e46] at hT; clear e46
            rw [e47] at hT; clear e47
            rw [e48] at hT; clear e48
            rw [e49] at hT; clear e49
            rw [e50] at hT; clear e50
            rw [e51] at hT; clear e51
            rw [e52] at hT; clear e52
            rw [e53] at hT; clear e53
            rw [e54] at hT; clear e54
            rw [e55] at hT; clear e55
            rw [e56] at hT; clear e56
            rw [e57] at hT; clear e57
            rw [e58] at hT; clear e58
            rw [e59] at hT; clear e59
            rw [e60] at hT; clear e60
            rw [e61] at hT; clear e61
            rw [e62] at hT; clear e62
            rw [e63] at hT; clear e63
            rw [e64] at hT; clear e64
            rw [e65] at hT; clear e65
            rw [e66] at hT; clear e66
            rw [e67] at hT; clear e67
            rw [e68] at hT; clear e68
            generalize T[69]?.getD undef = u69 at hT
            generalize T[70]?.getD undef = u70 at hT
            generalize T[71]?.getD undef = u71 at hT
            generalize T[72]?.getD undef = u72 at hT
            generalize T[73]?.getD undef = u73 at hT
            generalize T[74]?.getD undef = u74 at hT
            generalize T[75]?.getD undef = u75 at hT
            generalize T[76]?.getD undef = u76 at hT
            generalize T[77]?.getD undef = u77 at hT
            generalize T[78]?.getD undef = u78 at hT
            generalize T[79]?.getD undef = u79 at hT
            generalize T[80]?.getD undef = u80 at hT
            generalize T[81]?.getD undef = u81 at hT
            generalize T[82]?.getD undef = u82 at hT
            generalize T[83]?.getD undef = u83 at hT
            generalize T[84]?.getD undef = u84 at hT
            generalize T[85]?.getD undef = u85 at hT
            generalize T[86]?.getD undef = u86 at hT
            generalize T[87]?.getD undef = u87 at hT
            rw [e88] at hT; clear e88
            rw [e89] at hT; clear e89
            rw [e90] at hT; clear e90
            subst hT
            have R1 := hR.on hbF
            have bF : Below w.heap.size w wF := hbel.trans (hbF.mono hbz)
            have c7 := R1.cell
            have f7 := R1.frozen
            have z7 := R1.lt
            have e0 := (R1.set_ 0 (.int .u64 0)).cell 0
            have e1 := ((R1.set_ 0 (.int .u64 0)).set_ 1 (.slice none 0 0)).cell 1
            have e2 := ((R1.set_ 0 (.int .u64 0)).set_ 1 (.slice none 0 0)).cell 0
            simp at e0 e1 e2
            go_wp2_with fail
            refine bodyPost_ret (v := .tuple #[.agg #[.int .u64 0, .slice none 0 0], .int .i64 4]) (by simp [results, Try.results52, go_sem, e0, e1, e2]) rfl ⟨.slice none 0 0, ?_, ?_, (by (have q_bF := Below.size bF; (try simp at q_bF); repeat (first | exact Below.refl _ _ | (refine Below.trans ?_ (Below.mono bF (by first | omega | (simp; omega) | simp))) | (refine Below.setCell ?_ (by first | omega | (simp; omega) | simp) _) | (refine Below.alloc ?_ (by first | omega | (simp; omega) | simp) _) | apply Below.drew | apply below_drewN)))⟩
            · unfold parC parE
              rw [if_neg (by rw [hno.out]; simp), if_neg (by rw [hno.out]; simp)]
            · unfold parS
              rw [if_neg (by rw [hno.out]; simp)]
              exact OwnR.nil _
        · have HM := Lib.hid hM
          by_cases hD : headL C es = b
          · have hyes := Lib.hid (show goodL p tN b bs = true by rw [hge, hM, hD]; simp)
            have HD := Lib.hid (show decide (headL C es = b) = true from decide_eq_true hD)
            clear hge hM hD
            go_wp2_with fail
            refine wp_flows [(fun y_ _ => y_ = .int .i64 (k : Int)), (fun y_ _ => y_ = .pointer (some ⟨L, 1, none⟩)), (fun y_ _ => y_ = .slice Av k cv), (fun y_ _ => y_ = .int .i64 (k : Int)), (fun y_ _ => y_ = .bool false), (fun y_ _ => y_ = .bool false), (fun y_ _ => y_ = .agg #[.int .i64 p, .int .i64 tN]), (fun y_ _ => y_ = .agg #[.int .u64 C, .slice Av k cv]), (fun y_ _ => y_ = .bool true), (fun y_ _ => y_ = .bool false), (fun y_ _ => y_ = .bool false), (fun y_ _ => y_ = .bool false), (fun y_ _ => y_ = .agg #[.int .u64 C, .slice Av k cv]), (IsB (256) (headL C es)), (fun y_ _ => y_ = .slice (some ⟨bl, off, none⟩) n c), (fun y_ _ => y_ = .pointer (some ⟨bl, off, none⟩)), (fun y_ _ => y_ = .slice A0 256 c0'), (fun y_ _ => y_ = .bool true), (fun y_ _ => y_ = .bool false), (fun y_ _ => y_ = .bool false)] (by kernel_rfl) ⟨Stab.eq _, Stab.eq _, Stab.eq _, Stab.eq _, Stab.eq _, Stab.eq _, Stab.eq _, Stab.eq _, Stab.eq _, Stab.eq _, Stab.eq _, Stab.eq _, Stab.eq _, Stab.b _ _, Stab.eq _, Stab.eq _, Stab.eq _, Stab.eq _, Stab.eq _, Stab.eq _, trivial⟩ (by kernel_rfl) (by rfl) ?_ ?_
            · intro kq hkq
              match kq, hkq with
              | 0, _ =>
                refine StepOk.plain _ 69 rfl rfl rfl [(10, none)] (by kernel_rfl) (fun af wf hbw hf Kf hKf => ?_)
                obtain ⟨g10, _⟩ := hf
                have h10 : af.tmps[10]?.getD undef = .int .i64 (k : Int) := g10
                clear g10
                go_simp
                exact hKf _ _ (Below.refl _ _) rfl
              | 1, _ =>
                refine StepOk.plain _ 70 rfl rfl rfl [(9, none)] (by kernel_rfl) (fun af wf hbw hf Kf hKf => ?_)
                obtain ⟨g9, _⟩ := hf
                have h9 : af.tmps[9]?.getD undef = .pointer (some ⟨L, 0, none⟩) := g9
                clear g9
                go_simp
                exact hKf _ _ (Below.refl _ _) rfl
              | 2, _ =>
                refine StepOk.plain _ 71 rfl rfl rfl [(70, some 1)] (by kernel_rfl) (fun af wf hbw hf Kf hKf => ?_)
                obtain ⟨g70, _⟩ := hf
                have h70 : af.tmps[70]?.getD undef = .pointer (some ⟨L, 1, none⟩) := g70
                clear g70
                have cB0 := (Blk.on (Blk.drew (hBL)) hbw).cell
                have cB1 := (Blk.on (Blk.drew (hG)) hbw).cell
                go_simp
                exact hKf _ _ (Below.refl _ _) rfl
              | 3, _ =>
                refine StepOk.plain _ 72 rfl rfl rfl [(71, some 2)] (by kernel_rfl) (fun af wf hbw hf Kf hKf => ?_)
                obtain ⟨g71, _⟩ := hf
                have h71 : af.tmps[71]?.getD undef = .slice Av k cv := g71
                clear g71
                go_simp
                exact hKf _ _ (Below.refl _ _) rfl
              | 4, _ =>
                refine StepOk.plain _ 73 rfl rfl rfl [(69, some 0), (72, some 3)] (by kernel_rfl) (fun af wf hbw hf Kf hKf => ?_)
                obtain ⟨g69, g72, _⟩ := hf
                have h69 : af.tmps[69]?.getD undef = .int .i64 (k : Int) := g69
                have h72 : af.tmps[72]?.getD undef = .int .i64 (k : Int) := g72
                clear g69 g72
                go_simp
                exact hKf _ _ (Below.refl _ _) rfl
              | 5, _ =>
                refine StepOk.plain _ 74 rfl rfl rfl [(73, some 4)] (by kernel_rfl) (fun af wf hbw hf Kf hKf => ?_)
                obtain ⟨g73, _⟩ := hf
                have h73 : af.tmps[73]?.getD undef = .bool false := g73
                clear g73
                go_simp
                exact hKf _ _ (Below.refl _ _) rfl
              | 6, _ =>
                refine StepOk.yes _ 75 rfl rfl rfl rfl (fun _ _ h => h) [(2, none)] (by kernel_rfl) (fun af wf hbw hf Kf hKf => ?_)
                obtain ⟨g2, _⟩ := hf
                have h2 : af.tmps[2]?.getD undef = .pointer (some ⟨w.heap.size, 0, none⟩) := g2
                clear g2
                have cB0 := (Blk.on (Blk.drew (hBL)) hbw).cell
                have cB1 := (Blk.on (Blk.drew (hG)) hbw).cell
                go_simp
                exact hKf _ _ (Below.refl _ _) rfl
              | 7, _ =>
                refine StepOk.yes _ 76 rfl rfl rfl rfl (fun _ _ h => h) [(9, none)] (by kernel_rfl) (fun af wf hbw hf Kf hKf => ?_)
                obtain ⟨g9, _⟩ := hf
                have h9 : af.tmps[9]?.getD undef = .pointer (some ⟨L, 0, none⟩) := g9
                clear g9
                have cB0 := (Blk.on (Blk.drew (hBL)) hbw).cell
                have cB1 := (Blk.on (Blk.drew (hG)) hbw).cell
                go_simp
                exact hKf _ _ (Below.refl _ _) rfl
              | 8, _ =>
                refine StepOk.yes _ 77 rfl rfl rfl rfl (fun _ _ h => h) [(75, some 6), (76, some 7)] (by kernel_rfl) (fun af wf hbw hf Kf hKf => ?_)
                obtain ⟨g75, g76, _⟩ := hf
                have h75 : af.tmps[75]?.getD undef = .agg #[.int .i64 p, .int .i64 tN] := g75
                have h76 : af.tmps[76]?.getD undef = .agg #[.int .u64 C, .slice Av k cv] := g76
                clear g75 g76
                go_simp
                refine (lmay_any p tN C Av k cv _ _ es _ (RdR.below hOr.drew hbw) (by omega)).mono ?_
                rintro e wN ⟨rfl, hb⟩
                exact hKf _ _ (hb) (congrArg Value.bool HM.out)
              | 9, _ =>
                refine StepOk.yes _ 78 rfl rfl rfl rfl (fun _ _ h => h) [(77, some 8)] (by kernel_rfl) (fun af wf hbw hf Kf hKf => ?_)
                obtain ⟨g77, _⟩ := hf
                have h77 : af.tmps[77]?.getD undef = .bool true := g77
                clear g77
                go_simp
                exact hKf _ _ (Below.refl _ _) rfl
              | 10, _ =>
                refine StepOk.plain _ 79 rfl rfl rfl [(74, some 5), (78, some 9)] (by kernel_rfl) (fun af wf hbw hf Kf hKf => ?_)
                obtain ⟨g74, g78, _⟩ := hf
                have h74 : af.tmps[74]?.getD undef = .bool false := g74
                have h78 : af.tmps[78]?.getD undef = .bool false := g78
                clear g74 g78
                go_simp
                exact hKf _ _ (Below.refl _ _) rfl
              | 11, _ =>
                refine StepOk.plain _ 80 rfl rfl rfl [(79, some 10)] (by kernel_rfl) (fun af wf hbw hf Kf hKf => ?_)
                obtain ⟨g79, _⟩ := hf
                have h79 : af.tmps[79]?.getD undef = .bool false := g79
                clear g79
                go_simp
                exact hKf _ _ (Below.refl _ _) rfl
              | 12, _ =>
                refine StepOk.yes _ 81 rfl rfl rfl rfl (fun _ _ h => h) [(9, none)] (by kernel_rfl) (fun af wf hbw hf Kf hKf => ?_)
                obtain ⟨g9, _⟩ := hf
                have h9 : af.tmps[9]?.getD undef = .pointer (some ⟨L, 0, none⟩) := g9
                clear g9
                have cB0 := (Blk.on (Blk.drew (hBL)) hbw).cell
                have cB1 := (Blk.on (Blk.drew (hG)) hbw).cell
                go_simp
                exact hKf _ _ (Below.refl _ _) rfl
              | 13, _ =>
                refine StepOk.yes _ 82 rfl rfl rfl rfl (fun _ _ h => h) [(81, some 12)] (by kernel_rfl) (fun af wf hbw hf Kf hKf => ?_)
                obtain ⟨g81, _⟩ := hf
                have h81 : af.tmps[81]?.getD undef = .agg #[.int .u64 C, .slice Av k cv] := g81
                clear g81
                go_simp
                refine (lhead_any C Av k cv _ _ es _ (RdR.below hOr.drew hbw) (by omega) hC0 hC1 HKY.out).mono ?_
                rintro e wN ⟨r, rfl, hF, hb⟩
                exact hKf _ _ (hb) (IsB.of hF (headL_len _ _))
              | 14, _ =>
                refine StepOk.yes _ 83 rfl rfl rfl rfl (fun _ _ h => h) [(1, none)] (by kernel_rfl) (fun af wf hbw hf Kf hKf => ?_)
                obtain ⟨g1, _⟩ := hf
                have h1 : af.tmps[1]?.getD undef = .slice (some ⟨bl, off, none⟩) n c := g1
                clear g1
                go_simp
                exact hKf _ _ (Below.refl _ _) rfl
              | 15, _ =>
                refine StepOk.yes _ 84 rfl rfl rfl rfl (fun _ _ h => h) [(83, some 14)] (by kernel_rfl) (fun af wf hbw hf Kf hKf => ?_)
                obtain ⟨g83, _⟩ := hf
                have h83 : af.tmps[83]?.getD undef = .slice (some ⟨bl, off, none⟩) n c := g83
                clear g83
                have n0n : 0 < n := by omega
                go_simp
                exact hKf _ _ (Below.refl _ _) rfl
              | 16, _ =>
                refine StepOk.yes _ 85 rfl rfl rfl rfl (fun _ _ h => h) [(84, some 15)] (by kernel_rfl) (fun af wf hbw hf Kf hKf => ?_)
                obtain ⟨g84, _⟩ := hf
                have h84 : af.tmps[84]?.getD undef = .pointer (some ⟨bl, off, none⟩) := g84
                clear g84
                have cB0 := (Blk.on (Blk.drew (hBL)) hbw).cell
                have cB1 := (Blk.on (Blk.drew (hG)) hbw).cell
                have hcx := (Below.cell (p := ⟨bl, off, none⟩) hbw hbl2).trans hck0
                go_simp
                exact hKf _ _ (Below.refl _ _) rfl
              | 17, _ =>
                refine StepOk.yes _ 86 rfl rfl rfl rfl (fun _ _ h => h) [(82, some 13), (85, some 16)] (by kernel_rfl) (fun af wf hbw hf Kf hKf => ?_)
                obtain ⟨g82, g85, _⟩ := hf
                obtain ⟨A82, c82, h82, hR82, hn82, hm82⟩ : IsB (256) (headL C es) (af.tmps[82]?.getD undef) wf := g82
                have h85 : af.tmps[85]?.getD undef = .slice A0 256 c0' := g85
                clear g85
                go_simp
                refine (equal_any _ _ _ _ _ _ (headL C es) b _ hR82 (Rd.below (Rd.drew hR0w) hbw)).mono ?_
                rintro e wN ⟨rfl, rfl⟩
                exact hKf _ _ (Below.refl _ _) (congrArg Value.bool HD.out)
              | 18, _ =>
                refine StepOk.yes _ 87 rfl rfl rfl rfl (fun _ _ h => h) [(86, some 17)] (by kernel_rfl) (fun af wf hbw hf Kf hKf => ?_)
                obtain ⟨g86, _⟩ := hf
                have h86 : af.tmps[86]?.getD undef = .bool true := g86
                clear g86
                go_simp
                exact hKf _ _ (Below.refl _ _) rfl
              | 19, _ =>
                refine StepOk.plain _ 88 rfl rfl rfl [(80, some 11), (87, some 18)] (by kernel_rfl) (fun af wf hbw hf Kf hKf => ?_)
                obtain ⟨g80, g87, _⟩ := hf
                have h80 : af.tmps[80]?.getD undef = .bool false := g80
                have h87 : af.tmps[87]?.getD undef = .bool false := g87
                clear g80 g87
                go_simp
                exact hKf _ _ (Below.refl _ _) rfl
              | i + 20, h => exact absurd h (by show ¬ (i + 20 < 20); omega)
            · intro af wF hbF hdF hsF hbaseF hfactF
              obtain ⟨T, dsF⟩ := af
              obtain rfl : dsF = _ := hdF
              have e0 := hbaseF 0 (not_dst (by kernel_rfl))
              simp only [List.getElem?_toArray, List.getElem?_cons_zero, Option.getD_some] at e0
              have e1 := hbaseF 1 (not_dst (by kernel_rfl))
              simp only [List.getElem?_toArray, List.getElem?_cons_zero, List.getElem?_cons_succ, Option.getD_some] at e1
              have e2 := hbaseF 2 (not_dst (by kernel_rfl))
              simp only [List.getElem?_toArray, List.getElem?_cons_zero, List.getElem?_cons_succ, Option.getD_some] at e2
              have e3 := hbaseF 3 (not_dst (by kernel_rfl))
              simp only [List.getElem?_toArray, List.getElem?_cons_zero, List.getElem?_cons_succ, Option.getD_some] at e3
              have e4 := hbaseF 4 (not_dst (by kernel_rfl))
              simp only [List.getElem?_toArray, List.getElem?_cons_zero, List.getElem?_cons_succ, Option.getD_some] at e4
              have e5 := hbaseF 5 (not_dst (by kernel_rfl))
              simp only [List.getElem?_toArray, List.getElem?_cons_zero, List.getElem?_cons_succ, Option.getD_some] at e5
              have e6 := hbaseF 6 (not_dst (by kernel_rfl))
              simp only [List.getElem?_toArray, List.getElem?_cons_zero, List.getElem?_cons_succ, Option.getD_some] at e6
              have e7 := hbaseF 7 (not_dst (by kernel_rfl))
              simp only [List.getElem?_toArray, List.getElem?_cons_zero, List.getElem?_cons_succ, Option.getD_some] at e7
              have e8 := hbaseF 8 (not_dst (by kernel_rfl))
              simp only [List.getElem?_toArray, List.getElem?_cons_zero, List.getElem?_cons_succ, Option.getD_some] at e8
              have e9 := hbaseF 9 (not_dst (by kernel_rfl))
              simp only [List.getElem?_toArray, List.getElem?_cons_zero, List.getElem?_cons_succ, Option.getD_some] at e9
              have e10 := hbaseF 10 (not_dst (by kernel_rfl))
              simp only [List.getElem?_toArray, List.getElem?_cons_zero, List.getElem?_cons_succ, Option.getD_some] at e10
              have e11 := hbaseF 11 (not_dst (by kernel_rfl))
              simp only [List.getElem?_toArray, List.getElem?_cons_zero, List.getElem?_cons_succ, Option.getD_some] at e11
              have e12 := hbaseF 12 (not_dst (by kernel_rfl))
              simp only [List.getElem?_toArray, List.getElem?_cons_zero, List.getElem?_cons_succ, Option.getD_some] at e12
              have e13 := hbaseF 13 (not_dst (by kernel_rfl))
              simp only [List.getElem?_toArray, List.getElem?_cons_zero, List.getElem?_cons_succ, Option.getD_some] at e13
              have e14 := hbaseF 14 (not_dst (by kernel_rfl))
              simp only [List.getElem?_toArray, List.getElem?_cons_zero, List.getElem?_cons_succ, Option.getD_some] at e14
              have e15 := hbaseF 15 (not_dst (by kernel_rfl))
              simp only [List.getElem?_toArray, List.getElem?_cons_zero, List.getElem?_cons_succ, Option.getD_some] at e15
              have e16 := hbaseF 16 (not_dst (by kernel_rfl))
              simp only [List.getElem?_toArray, List.getElem?_cons_zero, List.getElem?_cons_succ, Option.getD_some] at e16
              have e17 := hbaseF 17 (not_dst (by kernel_rfl))
              simp only [List.getElem?_toArray, List.getElem?_cons_zero, List.getElem?_cons_succ, Option.getD_some] at e17
              have e18 := hbaseF 18 (not_dst (by kernel_rfl))
              simp only [List.getElem?_toArray, List.getElem?_cons_zero, List.getElem?_cons_succ, Option.getD_some] at e18
              have e19 := hbaseF 19 (not_dst (by kernel_rfl))
              simp only [List.getElem?_toArray, List.getElem?_cons_zero, List.getElem?_cons_succ, Option.getD_some] at e19
              have e20 := hbaseF 20 (not_dst (by kernel_rfl))
              simp only [List.getElem?_toArray, List.getElem?_cons_zero, List.getElem?_cons_succ, Option.getD_some] at e20
              have e21 := hbaseF 21 (not_dst (by kernel_rfl))
              simp only [List.getElem?_toArray, List.getElem?_cons_zero, List.getElem?_cons_succ, Option.getD_some] at e21
              have e22 := hbaseF 22 (not_dst (by kernel_rfl))
              simp only [List.getElem?_toArray, List.getElem?_cons_zero, List.getElem?_cons_succ, Option.getD_some] at e22
              have e23 := hbaseF 23 (not_dst (by kernel_rfl))
              simp only [List.getElem?_toArray, List.getElem?_cons_zero, List.getElem?_cons_succ, Option.getD_some] at e23
              have e24 := hbaseF 24 (not_dst (by kernel_rfl))
              simp only [List.getElem?_toArray, List.getElem?_cons_zero, List.getElem?_cons_succ, Option.getD_some] at e24
              have e25 := hbaseF 25 (not_dst (by kernel_rfl))
              simp only [List.getElem?_toArray, List.getElem?_cons_zero, List.getElem?_cons_succ, Option.getD_some] at e25
              have e26 := hbaseF 26 (not_dst (by kernel_rfl))
              simp only [List.getElem?_toArray, List.getElem?_cons_zero, List.getElem?_cons_succ, Option.getD_some] at e26
              have e27 := hbaseF 27 (not_dst (by kernel_rfl))
              simp only [List.getElem?_toArray, List.getElem?_cons_zero, List.getElem?_cons_succ, Option.getD_some] at e27
              have e28 := hbaseF 28 (not_dst (by kernel_rfl))
              simp only [List.getElem?_toArray, List.getElem?_cons_zero, List.getElem?_cons_succ, Option.getD_some] at e28
              have e29 := hbaseF 29 (not_dst (by kernel_rfl))
              simp only [List.getElem?_toArray, List.getElem?_cons_zero, List.getElem?_cons_succ, Option.getD_some] at e29
              have e30 := hbaseF 30 (not_dst (by kernel_rfl))
              simp only [List.getElem?_toArray, List.getElem?_cons_zero, List.getElem?_cons_succ, Option.getD_some] at e30
              have e31 := hbaseF 31 (not_dst (by kernel_rfl))
              simp only [List.getElem?_toArray, List.getElem?_cons_zero, List.getElem?_cons_succ, Option.getD_some] at e31
              have e32 := hbaseF 32 (not_dst (by kernel_rfl))
              simp only [List.getElem?_toArray, List.getElem?_cons_zero, List.getElem?_cons_succ, Option.getD_some] at e32
              have e33 := hbaseF 33 (not_dst (by kernel_rfl))
              simp only [List.getElem?_toArray, List.getElem?_cons_zero, List.getElem?_cons_succ, Option.getD_some] at e33
              have e34 := hbaseF 34 (not_dst (by kernel_rfl))
              simp only [List.getElem?_toArray, List.getElem?_cons_zero, List.getElem?_cons_succ, Option.getD_some] at e34
              have e35 := hbaseF 35 (not_dst (by kernel_rfl))
              simp only [List.getElem?_toArray, List.getElem?_cons_zero, List.getElem?_cons_succ, Option.getD_some] at e35
              have e36 := hbaseF 36 (not_dst (by kernel_rfl))
              simp only [List.getElem?_toArray, List.getElem?_cons_zero, List.getElem?_cons_succ, Option.getD_some] at e36
              have e37 := hbaseF 37 (not_dst (by kernel_rfl))
              simp only [List.getElem?_toArray, List.getElem?_cons_zero, List.getElem?_cons_succ, Option.getD_some] at e37
              have e38 := hbaseF 38 (not_dst (by kernel_rfl))
              simp only [List.getElem?_toArray, List.getElem?_cons_zero, List.getElem?_cons_succ, Option.getD_some] at e38
              have e39 := hbaseF 39 (not_dst (by kernel_rfl))
              simp only [List.getElem?_toArray, List.getElem?_cons_zero, List.getElem?_cons_succ, Option.getD_some] at e39
              have e40 := hbaseF 40 (not_dst (by kernel_rfl))
              simp only [List.getElem?_toArray, List.getElem?_cons_zero, List.getElem?_cons_succ, Option.getD_some] at e40
              have e41 := hbaseF 41 (not_dst (by kernel_rfl))
              simp only [List.getElem?_toArray, List.getElem?_cons_zero, List.getElem?_cons_succ, Option.getD_some] at e41
              have e42 := hbaseF 42 (not_dst (by kernel_rfl))
              simp only [List.getElem?_toArray, List.getElem?_cons_zero, List.getElem?_cons_succ, Option.getD_some] at e42
              have e43 := hbaseF 43 (not_dst (by kernel_rfl))
              simp only [List.getElem?_toArray, List.getElem?_cons_zero, List.getElem?_cons_succ, Option.getD_some] at e43
              have e44 := hbaseF 44 (not_dst (by kernel_rfl))
              simp only [List.getElem?_toArray, List.getElem?_cons_zero, List.getElem?_cons_succ, Option.getD_some] at e44
              have e45 := hbaseF 45 (not_dst (by kernel_rfl))
              simp only [List.getElem?_toArray, List.getElem?_cons_zero, List.getElem?_cons_succ, Option.getD_some] at e45
              have e46 := hbaseF 46 (not_dst (by kernel_rfl))
              simp only [List.getElem?_toArray, List.getElem?_cons_zero, List.getElem?_cons_succ, Option.getD_some] at e46
              have e47 := hbaseF 47 (not_dst (by kernel_rfl))
              simp only [List.getElem?_toArray, List.getElem?_cons_zero, List.getElem?_cons_succ, Option.getD_some] at e47
              have e48 := hbaseF 48 (not_dst (by kernel_rfl))
              simp only [List.getElem?_toArray, List.getElem?_cons_zero, List.getElem?_cons_succ, Option.getD_some] at e48
              have e49 := hbaseF 49 (not_dst (by kernel_rfl))
              simp only [List.getElem?_toArray, List.getElem?_cons_zero, List.getElem?_cons_succ, Option.getD_some] at e49
              have e50 := hbaseF 50 (not_dst (by kernel_rfl))
              simp only [List.getElem?_toArray, List.getElem?_cons_zero, List.getElem?_cons_succ, Option.getD_some] at e50
              have e51 := hbaseF 51 (not_dst (by kernel_rfl))
              simp only [List.getElem?_toArray, List.getElem?_cons_zero, List.getElem?_cons_succ, Option.getD_some] at e51
              have e52 := hbaseF 52 (not_dst (by kernel_rfl))
              simp only [List.getElem?_toArray, List.getElem?_cons_zero, List.getElem?_cons_succ, Option.getD_some] at e52
              have e53 := hbaseF 53 (not_dst (by kernel_rfl))
              simp only [List.getElem?_toArray, List.getElem?_cons_zero, List.getElem?_cons_succ, Option.getD_some] at e53
              have e54 := hbaseF 54 (not_dst (by kernel_rfl))
              simp only [List.getElem?_toArray, List.getElem?_cons_zero, List.getElem?_cons_succ, Option.getD_some] at e54
              have e55 := hbaseF 55 (not_dst (by kernel_rfl))
              simp only [List.getElem?_toArray, List.getElem?_cons_zero, List.getElem?_cons_succ, Option.getD_some] at e55
              have e56 := hbaseF 56 (not_dst (by kernel_rfl))
              simp only [List.getElem?_toArray, List.getElem?_cons_zero, List.getElem?_cons_succ, Option.getD_some] at e56
              have e57 := hbaseF 57 (not_dst (by kernel_rfl))
              simp only [List.getElem?_toArray, List.getElem?_cons_zero, List.getElem?_cons_succ, Option.getD_some] at e57
              have e58 := hbaseF 58 (not_dst (by kernel_rfl))
              simp only [List.getElem?_toArray, List.getElem?_cons_zero, List.getElem?_cons_succ, Option.getD_some] at e58
              have e59 := hbaseF 59 (not_dst (by kernel_rfl))
              simp only [List.getElem?_toArray, List.getElem?_cons_zero, List.getElem?_cons_succ, Option.getD_some] at e59
              have e60 := hbaseF 60 (not_dst (by kernel_rfl))
              simp only [List.getElem?_toArray, List.getElem?_cons_zero, List.getElem?_cons_succ, Option.getD_some] at e60
              have e61 := hbaseF 61 (not_dst (by kernel_rfl))
              simp only [List.getElem?_toArray, List.getElem?_cons_zero, List.getElem?_cons_succ, Option.getD_some] at e61
              have e62 := hbaseF 62 (not_dst (by kernel_rfl))
              simp only [List.getElem?_toArray, List.getElem?_cons_zero, List.getElem?_cons_succ, Option.getD_some] at e62
              have e63 := hbaseF 63 (not_dst (by kernel_rfl))
              simp only [List.getElem?_toArray, List.getElem?_cons_zero, List.getElem?_cons_succ, Option.getD_some] at e63
              have e64 := hbaseF 64 (not_dst (by kernel_rfl))
              simp only [List.getElem?_toArray, List.getElem?_cons_zero, List.getElem?_cons_succ, Option.getD_some] at e64
              have e65 := hbaseF 65 (not_dst (by kernel_rfl))
              simp only [List.getElem?_toArray, List.getElem?_cons_zero, List.getElem?_cons_succ, Option.getD_some] at e65
              have e66 := hbaseF 66 (not_dst (by kernel_rfl))
              simp only [List.getElem?_toArray, List.getElem?_cons_zero, List.getElem?_cons_succ, Option.getD_some] at e66
              have e67 := hbaseF 67 (not_dst (by kernel_rfl))
              simp only [List.getElem?_toArray, List.getElem?_cons_zero, List.getElem?_cons_succ, Option.getD_some] at e67
              have e68 := hbaseF 68 (not_dst (by kernel_rfl))
              simp only [List.getElem?_toArray, List.getElem?_cons_zero, List.getElem?_cons_succ, Option.getD_some] at e68
              have e89 := hbaseF 89 (not_dst (by kernel_rfl))
              simp only [List.getElem?_toArray, List.getElem?_cons_zero, List.getElem?_cons_succ, Option.getD_some] at e89
              have e90 := hbaseF 90 (not_dst (by kernel_rfl))
              simp only [List.getElem?_toArray, List.getElem?_cons_zero, List.getElem?_cons_succ, Option.getD_some] at e90
              have e88 := hfactF 19 88 (by decide) rfl
              replace e88 : T[88]?.getD undef = .bool false := e88
              clear hbaseF hfactF
              have hT : T = #[T[0]?.getD undef, T[1]?.getD undef, T[2]?.getD undef, T[3]?.getD undef, T[4]?.getD undef, T[5]?.getD undef, T[6]?.getD undef, T[7]?.getD undef, T[8]?.getD undef, T[9]?.getD undef, T[10]?.getD undef, T[11]?.getD undef, T[12]?.getD undef, T[13]?.getD undef, T[14]?.getD undef, T[15]?.getD undef, T[16]?.getD undef, T[17]?.getD undef, T[18]?.getD undef, T[19]?.getD undef, T[20]?.getD undef, T[21]?.getD undef, T[22]?.getD undef, T[23]?.getD undef, T[24]?.getD undef, T[25]?.getD undef, T[26]?.getD undef, T[27]?.getD undef, T[28]?.getD undef, T[29]?.getD undef, T[30]?.getD undef, T[31]?.getD undef, T[32]?.getD undef, T[33]?.getD undef, T[34]?.getD undef, T[35]?.getD undef, T[36]?.getD undef, T[37]?.getD undef, T[38]?.getD undef, T[39]?.getD undef, T[40]?.getD undef, T[41]?.getD undef, T[42]?.getD undef, T[43]?.getD undef, T[44]?.getD undef, T[45]?.getD undef, T[46]?.getD undef, T[47]?.getD undef, T[48]?.getD undef, T[49]?.getD undef, T[50]?.getD undef, T[51]?.getD undef, T[52]?.getD undef, T[53]?.getD undef, T[54]?.getD undef, T[55]?.getD undef, T[56]?.getD undef, T[57]?.getD undef, T[58]?.getD undef, T[59]?.getD undef, T[60]?.getD undef, T[61]?.getD undef, T[62]?.getD undef, T[63]?.getD undef, T[64]?.getD undef, T[65]?.getD undef, T[66]?.getD undef, T[67]?.getD undef, T[68]?.getD undef, T[69]?.getD undef, T[70]?.getD undef, T[71]?.getD undef, T[72]?.getD undef, T[73]?.getD undef, T[74]?.getD undef, T[75]?.getD undef, T[76]?.getD undef, T[77]?.getD undef, T[78]?.getD undef, T[79]?.getD undef, T[80]?.getD undef, T[81]?.getD undef, T[82]?.getD undef, T[83]?.getD undef, T[84]?.getD undef, T[85]?.getD undef, T[86]?.getD undef, T[87]?.getD undef, T[88]?.getD undef, T[89]?.getD undef, T[90]?.getD undef] := arr_eq T 91 hsF
              clear hsF
              rw [e0] at hT; clear e0
              rw [e1] at hT; clear e1
              rw [e2] at hT; clear e2
              rw [e3] at hT; clear e3
              rw [e4] at hT; clear e4
              rw [e5] at hT; clear e5
              rw [e6] at hT; clear e6
              rw [e7] at hT; clear e7
              rw [e8] at hT; clear e8
              rw [e9] at hT; clear e9
              rw [e10] at hT; clear e10
              rw [e11] at hT; clear e11
              rw [e12] at hT; clear e12
              rw [e13] at hT; clear e13
              rw [e14] at hT; clear e14
              rw [e15] at hT; clear e15
              rw [e16] at hT; clear e16
              rw [e17] at hT; clear e17
              rw [e18] at hT; clear e18
              rw [e19] at hT; clear e19
              rw [e20] at hT; clear e20
              rw [e21] at hT; clear e21
              rw [e22] at hT; clear e22
              rw [e23] at hT; clear e23
              rw [e24] at hT; clear e24
              rw [e25] at hT; clear e25
              rw [e26] at hT; clear e26
              rw [e27] at hT; clear e27
              rw [e28] at hT; clear e28
              rw [e29] at hT; clear e29
              rw [e30] at hT; clear e30
              rw [e31] at hT; clear e31
              rw [e32] at hT; clear e32
              rw [e33] at hT; clear e33
              rw [e34] at hT; clear e34
              rw [e35] at hT; clear e35
              rw [e36] at hT; clear e36
              rw [e37] at hT; clear e37
              rw [e38] at hT; clear e38
              rw [e39] at hT; clear e39
              rw [e40] at hT; clear e40
              rw [e41] at hT; clear e41
              rw [e42] at hT; clear e42
              rw [e43] at hT; clear e43
              rw [e44] at hT; clear e44
              rw [e45] at hT; clear e45
              rw [e46] at hT; clear e46
              rw [e47] at hT; clear e47
              rw [e48] at hT; clear e48
              rw [e49] at hT; clear e49
              rw [e50] at hT; clear e50
              rw [e51] at hT; clear e51
              rw [e52] at hT; clear e52
              rw [e53] at hT; clear e53
              rw [e54] at hT; clear e54
              rw [e55] at hT; clear e55
              rw [e56] at hT; clear e56
              rw [e57] at hT; clear e57
              rw [e58] at hT; clear e58
              rw [e59] at hT; clear e59
              rw [e60] at hT; clear e60
              rw [e61] at hT; clear e61
              rw [e62] at hT; clear e62
              rw [e63] at hT; clear e63
              rw [e64] at hT; clear e64
              rw [e65] at hT; clear e65
              rw [e66] at hT; clear e66
              rw [e67] at hT; clear e67
              rw [e68] at hT; clear e68
              generalize T[69]?.getD undef = u69 at hT
              generalize T[70]?.getD undef = u70 at hT
              generalize T[71]?.getD undef = u71 at hT
              generalize T[72]?.getD undef = u72 at hT
              generalize T[73]?.getD undef = u73 at hT
              generalize T[74]?.getD undef = u74 at hT
              generalize T[75]?.getD undef = u75 at hT
              generalize T[76]?.getD undef = u76 at hT
              generalize T[77]?.getD undef = u77 at hT
              generalize T[78]?.getD undef = u78 at hT
              generalize T[79]?.getD undef = u79 at hT
              generalize T[80]?.getD undef = u80 at hT
              generalize T[81]?.getD undef = u81 at hT
              generalize T[82]?.getD undef = u82 at hT
              generalize T[83]?.getD undef = u83 at hT
              generalize T[84]?.getD undef = u84 at hT
              generalize T[85]?.getD undef = u85 at hT
              generalize T[86]?.getD undef = u86 at hT
              generalize T[87]?.getD undef = u87 at hT
              rw [e88] at hT; clear e88
              rw [e89] at hT; clear e89
              rw [e90] at hT; clear e90
              subst hT
              have B1 := hBL.on hbF
              have R1 := hR.on hbF
              have O1 := hO.below hbF
              have bF : Below w.heap.size w wF := hbel.trans (hbF.mono hbz)
              have c7 := R1.cell
              have f7 := R1.frozen
              have z7 := R1.lt
              have c8 := B1.cell
              have e0 := (R1.set_ 0 (.int .u64 C)).cell 0
              have e1 := ((R1.set_ 0 (.int .u64 C)).set_ 1 (.slice Av k cv)).cell 1
              have e2 := ((R1.set_ 0 (.int .u64 C)).set_ 1 (.slice Av k cv)).cell 0
              have e3 := (R1.set_ 0 (.int .u64 C)).cell 1
              simp at e0 e1 e2 e3
              have hOF := ((O1.set_ R1 (by decide) (by omega) (by omega) 0 (.int .u64 C)).set_ (R1.set_ 0 (.int .u64 C)) (by decide) (by omega) (by omega) 1 (.slice Av k cv)).from_ (Br' := w.heap.size) (by omega)
              go_wp2_with fail
              refine bodyPost_ret (v := .tuple #[.agg #[.int .u64 C, .slice Av k cv], .int .i64 0]) (by simp [results, Try.results52, go_sem, e0, e1, e2, e3]) rfl ⟨.slice Av k cv, ?_, ?_, (by (have q_bF := Below.size bF; (try simp at q_bF); repeat (first | exact Below.refl _ _ | (refine Below.trans ?_ (Below.mono bF (by first | omega | (simp; omega) | simp))) | (refine Below.setCell ?_ (by first | omega | (simp; omega) | simp) _) | (refine Below.alloc ?_ (by first | omega | (simp; omega) | simp) _) | apply Below.drew | apply below_drewN)))⟩
              · unfold parC parE
                rw [if_pos hyes.out, if_pos hyes.out, HC.out]
              · unfold parS
                rw [if_pos hyes.out, ← HNB.out, ← HES.out]
                exact hOF
          · have hno := Lib.hid (show goodL p tN b bs = false by rw [hge, hM]; simp [hD])
            have HD := Lib.hid (show decide (headL C es = b) = false from decide_eq_false hD)
            clear hge hM hD
            go_wp2_with fail
            refine wp_flows [(fun y_ _ => y_ = .int .i64 (k : Int)), (fun y_ _ => y_ = .pointer (some ⟨L, 1, none⟩)), (fun y_ _ => y_ = .slice Av k cv), (fun y_ _ => y_ = .int .i64 (k : Int)), (fun y_ _ => y_ = .bool false), (fun y_ _ => y_ = .bool false), (fun y_ _ => y_ = .agg #[.int .i64 p, .int .i64 tN]), (fun y_ _ => y_ = .agg #[.int .u64 C, .slice Av k cv]), (fun y_ _ => y_ = .bool true), (fun y_ _ => y_ = .bool false), (fun y_ _ => y_ = .bool false), (fun y_ _ => y_ = .bool false), (fun y_ _ => y_ = .agg #[.int .u64 C, .slice Av k cv]), (IsB (256) (headL C es)), (fun y_ _ => y_ = .slice (some ⟨bl, off, none⟩) n c), (fun y_ _ => y_ = .pointer (some ⟨bl, off, none⟩)), (fun y_ _ => y_ = .slice A0 256 c0'), (fun y_ _ => y_ = .bool false), (fun y_ _ => y_ = .bool true), (fun y_ _ => y_ = .bool true)] (by kernel_rfl) ⟨Stab.eq _, Stab.eq _, Stab.eq _, Stab.eq _, Stab.eq _, Stab.eq _, Stab.eq _, Stab.eq _, Stab.eq _, Stab.eq _, Stab.eq _, Stab.eq _, Stab.eq _, Stab.b _ _, Stab.eq _, Stab.eq _, Stab.eq _, Stab.eq _, Stab.eq _, Stab.eq _, trivial⟩ (by kernel_rfl) (by rfl) ?_ ?_
            · intro kq hkq
              match kq, hkq with
              | 0, _ =>
                refine StepOk.plain _ 69 rfl rfl rfl [(10, none)] (by kernel_rfl) (fun af wf hbw hf Kf hKf => ?_)
                obtain ⟨g10, _⟩ := hf
                have h10 : af.tmps[10]?.getD undef = .int .i64 (k : Int) := g10
                clear g10
                go_simp
                exact hKf _ _ (Below.refl _ _) rfl
              | 1, _ =>
                refine StepOk.plain _ 70 rfl rfl rfl [(9, none)] (by kernel_rfl) (fun af wf hbw hf Kf hKf => ?_)
                obtain ⟨g9, _⟩ := hf
                have h9 : af.tmps[9]?.getD undef = .pointer (some ⟨L, 0, none⟩) := g9
                clear g9
                go_simp
                exact hKf _ _ (Below.refl _ _) rfl
              | 2, _ =>
                refine StepOk.plain _ 71 rfl rfl rfl [(70, some 1)] (by kernel_rfl) (fun af wf hbw hf Kf hKf => ?_)
                obtain ⟨g70, _⟩ := hf
                have h70 : af.tmps[70]?.getD undef = .pointer (some ⟨L, 1, none⟩) := g70
                clear g70
                have cB0 := (Blk.on (Blk.drew (hBL)) hbw).cell
                have cB1 := (Blk.on (Blk.drew (hG)) hbw).cell
                go_simp
                exact hKf _ _ (Below.refl _ _) rfl
              | 3, _ =>
                refine StepOk.plain _ 72 rfl rfl rfl [(71, some 2)] (by kernel_rfl) (fun af wf hbw hf Kf hKf => ?_)
                obtain ⟨g71, _⟩ := hf
                have h71 : af.tmps[71]?.getD undef = .slice Av k cv := g71
                clear g71
                go_simp
                exact hKf _ _ (Below.refl _ _) rfl
              | 4, _ =>
                refine StepOk.plain _ 73 rfl rfl rfl [(69, some 0), (72, some 3)] (by kernel_rfl) (fun af wf hbw hf Kf hKf => ?_)
                obtain ⟨g69, g72, _⟩ := hf
                have h69 : af.tmps[69]?.getD undef = .int .i64 (k : Int) := g69
                have h72 : af.tmps[72]?.getD undef = .int .i64 (k : Int) := g72
                clear g69 g72
                go_simp
                exact hKf _ _ (Below.refl _ _) rfl
              | 5, _ =>
                refine StepOk.plain _ 74 rfl rfl rfl [(73, some 4)] (by kernel_rfl) (fun af wf hbw hf Kf hKf => ?_)
                obtain ⟨g73, _⟩ := hf
                have h73 : af.tmps[73]?.getD undef = .bool false := g73
                clear g73
                go_simp
                exact hKf _ _ (Below.refl _ _) rfl
              | 6, _ =>
                refine StepOk.yes _ 75 rfl rfl rfl rfl (fun _ _ h => h) [(2, none)] (by kernel_rfl) (fun af wf hbw hf Kf hKf => ?_)
                obtain ⟨g2, _⟩ := hf
                have h2 : af.tmps[2]?.getD undef = .pointer (some ⟨w.heap.size, 0, none⟩) := g2
                clear g2
                have cB0 := (Blk.on (Blk.drew (hBL)) hbw).cell
                have cB1 := (Blk.on (Blk.drew (hG)) hbw).cell
                go_simp
                exact hKf _ _ (Below.refl _ _) rfl
              | 7, _ =>
                refine StepOk.yes _ 76 rfl rfl rfl rfl (fun _ _ h => h) [(9, none)] (by kernel_rfl) (fun af wf hbw hf Kf hKf => ?_)
                obtain ⟨g9, _⟩ := hf
                have h9 : af.tmps[9]?.getD undef = .pointer (some ⟨L, 0, none⟩) := g9
                clear g9
                have cB0 := (Blk.on (Blk.drew (hBL)) hbw).cell
                have cB1 := (Blk.on (Blk.drew (hG)) hbw).cell
                go_simp
                exact hKf _ _ (Below.refl _ _) rfl
              | 8, _ =>
                refine StepOk.yes _ 77 rfl rfl rfl rfl (fun _ _ h => h) [(75, some 6), (76, some 7)] (by kernel_rfl) (fun af wf hbw hf Kf hKf => ?_)
                obtain ⟨g75, g76, _⟩ := hf
                have h75 : af.tmps[75]?.getD undef = .agg #[.int .i64 p, .int .i64 tN] := g75
                have h76 : af.tmps[76]?.getD undef = .agg #[.int .u64 C, .slice Av k cv] := g76
                clear g75 g76
                go_simp
                refine (lmay_any p tN C Av k cv _ _ es _ (RdR.below hOr.drew hbw) (by omega)).mono ?_
                rintro e wN ⟨rfl, hb⟩
                exact hKf _ _ (hb) (congrArg Value.bool HM.out)
              | 9, _ =>
                refine StepOk.yes _ 78 rfl rfl rfl rfl (fun _ _ h => h) [(77, some 8)] (by kernel_rfl) (fun af wf hbw hf Kf hKf => ?_)
                obtain ⟨g77, _⟩ := hf
                have h77 : af.tmps[77]?.getD undef = .bool true := g77
                clear g77
                go_simp
                exact hKf _ _ (Below.refl _ _) rfl
              | 10, _ =>
                refine StepOk.plain _ 79 rfl rfl rfl [(74, some 5), (78, some 9)] (by kernel_rfl) (fun af wf hbw hf Kf hKf => ?_)
                obtain ⟨g74, g78, _⟩ := hf
                have h74 : af.tmps[74]?.getD undef = .bool false := g74
                have h78 : af.tmps[78]?.getD undef = .bool false := g78
                clear g74 g78
                go_simp
                exact hKf _ _ (Below.refl _ _) rfl
              | 11, _ =>
                refine StepOk.plain _ 80 rfl rfl rfl [(79, some 10)] (by kernel_rfl) (fun af wf hbw hf Kf hKf => ?_)
                obtain ⟨g79, _⟩ := hf
                have h79 : af.tmps[79]?.getD undef = .bool false := g79
                clear g79
                go_simp
                exact hKf _ _ (Below.refl _ _) rfl
              | 12, _ =>
                refine StepOk.yes _ 81 rfl rfl rfl rfl (fun _ _ h => h) [(9, none)] (by kernel_rfl) (fun af wf hbw hf Kf hKf => ?_)
                obtain ⟨g9, _⟩ := hf
                have h9 : af.tmps[9]?.getD undef = .pointer (some ⟨L, 0, none⟩) := g9
                clear g9
                have cB0 := (Blk.on (Blk.drew (hBL)) hbw).cell
                have cB1 := (Blk.on (Blk.drew (hG)) hbw).cell
                go_simp
                exact hKf _ _ (Below.refl _ _) rfl
              | 13, _ =>
                refine StepOk.yes _ 82 rfl rfl rfl rfl (fun _ _ h => h) [(81, some 12)] (by kernel_rfl) (fun af wf hbw hf Kf hKf => ?_)
                obtain ⟨g81, _⟩ := hf
                have h81 : af.tmps[81]?.getD undef = .agg #[.int .u64 C, .slice Av k cv] := g81
                clear g81
                go_simp
                refine (lhead_any C Av k cv _ _ es _ (RdR.below hOr.drew hbw) (by omega) hC0 hC1 HKY.out).mono ?_
                rintro e wN ⟨r, rfl, hF, hb⟩
                exact hKf _ _ (hb) (IsB.of hF (headL_len _ _))
              | 14, _ =>
                refine StepOk.yes _ 83 rfl rfl rfl rfl (fun _ _ h => h) [(1, none)] (by kernel_rfl) (fun af wf hbw hf Kf hKf => ?_)
                obtain ⟨g1, _⟩ := hf
                have h1 : af.tmps[1]?.getD undef = .slice (some ⟨bl, off, none⟩) n c := g1
                clear g1
                go_simp
                exact hKf _ _ (Below.refl _ _) rfl
              | 15, _ =>
                refine StepOk.yes _ 84 rfl rfl rfl rfl (fun _ _ h => h) [(83, some 14)] (by kernel_rfl) (fun af wf hbw hf Kf hKf => ?_)
                obtain ⟨g83, _⟩ := hf
                have h83 : af.tmps[83]?.getD undef = .slice (some ⟨bl, off, none⟩) n c := g83
                clear g83
                have n0n : 0 < n := by omega
                go_simp
                exact hKf _ _ (Below.refl _ _) rfl
              | 16, _ =>
                refine StepOk.yes _ 85 rfl rfl rfl rfl (fun _ _ h => h) [(84, some 15)] (by kernel_rfl) (fun af wf hbw hf Kf hKf => ?_)
                obtain ⟨g84, _⟩ := hf
                have h84 : af.tmps[84]?.getD undef = .pointer (some ⟨bl, off, none⟩) := g84
                clear g84
                have cB0 := (Blk.on (Blk.drew (hBL)) hbw).cell
                have cB1 := (Blk.on (Blk.drew (hG)) hbw).cell
                have hcx := (Below.cell (p := ⟨bl, off, none⟩) hbw hbl2).trans hck0
                go_simp
                exact hKf _ _ (Below.refl _ _) rfl
              | 17, _ =>
                refine StepOk.yes _ 86 rfl rfl rfl rfl (fun _ _ h => h) [(82, some 13), (85, some 16)] (by kernel_rfl) (fun af wf hbw hf Kf hKf => ?_)
                obtain ⟨g82, g85, _⟩ := hf
                obtain ⟨A82, c82, h82, hR82, hn82, hm82⟩ : IsB (256) (headL C es) (af.tmps[82]?.getD undef) wf := g82
                have h85 : af.tmps[85]?.getD undef = .slice A0 256 c0' := g85
                clear g85
                go_simp
                refine (equal_any _ _ _ _ _ _ (headL C es) b _ hR82 (Rd.below (Rd.drew hR0w) hbw)).mono ?_
                rintro e wN ⟨rfl, rfl⟩
                exact hKf _ _ (Below.refl _ _) (congrArg Value.bool HD.out)
              | 18, _ =>
                refine StepOk.yes _ 87 rfl rfl rfl rfl (fun _ _ h => h) [(86, some 17)] (by kernel_rfl) (fun af wf hbw hf Kf hKf => ?_)
                obtain ⟨g86, _⟩ := hf
                have h86 : af.tmps[86]?.getD undef = .bool false := g86
                clear g86
                go_simp
                exact hKf _ _ (Below.refl _ _) rfl
              | 19, _ =>
                refine StepOk.plain _ 88 rfl rfl rfl [(80, some 11), (87, some 18)] (by kernel_rfl) (fun af wf hbw hf Kf hKf => ?_)
                obtain ⟨g80, g87, _⟩ := hf
                have h80 : af.tmps[80]?.getD undef = .bool false := g80
                have h87 : af.tmps[87]?.getD undef = .bool true := g87
                clear g80 g87
                go_simp
                exact hKf _ _ (Below.refl _ _) rfl
              | i + 20, h => exact absurd h (by show ¬ (i + 20 < 20); omega)
            · intro af wF hbF hdF hsF hbaseF hfactF
              obtain ⟨T, dsF⟩ := af
              obtain rfl : dsF = _ := hdF
              have e0 := hbaseF 0 (not_dst (by kernel_rfl))
              simp only [List.getElem?_toArray, List.getElem?_cons_zero, Option.getD_some] at e0
              have e1 := hbaseF 1 (not_dst (by kernel_rfl))
              simp only [List.getElem?_toArray, List.getElem?_cons_zero, List.getElem?_cons_succ, Option.getD_some] at e1
              have e2 := hbaseF 2 (not_dst (by kernel_rfl))
              simp only [List.getElem?_toArray, List.getElem?_cons_zero, List.getElem?_cons_succ, Option.getD_some] at e2
              have e3 := hbaseF 3 (not_dst (by kernel_rfl))
              simp only [List.getElem?_toArray, List.getElem?_cons_zero, List.getElem?_cons_succ, Option.getD_some] at e3
              have e4 := hbaseF 4 (not_dst (by kernel_rfl))
              simp only [List.getElem?_toArray, List.getElem?_cons_zero, List.getElem?_cons_succ, Option.getD_some] at e4
              have e5 := hbaseF 5 (not_dst (by kernel_rfl))
              simp only [List.getElem?_toArray, List.getElem?_cons_zero, List.getElem?_cons_succ, Option.getD_some] at e5
              have e6 := hbaseF 6 (not_dst (by kernel_rfl))
              simp only [List.getElem?_toArray, List.getElem?_cons_zero, List.getElem?_cons_succ, Option.getD_some] at e6
              have e7 := hbaseF 7 (not_dst (by kernel_rfl))
              simp only [List.getElem?_toArray, List.getElem?_cons_zero, List.getElem?_cons_succ, Option.getD_some] at e7
              have e8 := hbaseF 8 (not_dst (by kernel_rfl))
              simp only [List.getElem?_toArray, List.getElem?_cons_zero, List.getElem?_cons_succ, Option.getD_some] at e8
              have e9 := hbaseF 9 (not_dst (by kernel_rfl))
              simp only [List.getElem?_toArray, List.getElem?_cons_zero, List.getElem?_cons_succ, Option.getD_some] at e9
              have e10 := hbaseF 10 (not_dst (by kernel_rfl))
              simp only [List.getElem?_toArray, List.getElem?_cons_zero, List.getElem?_cons_succ, Option.getD_some] at e10
              have e11 := hbaseF 11 (not_dst (by kernel_rfl))
              simp only [List.getElem?_toArray, List.getElem?_cons_zero, List.getElem?_cons_succ, Option.getD_some] at e11
              have e12 := hbaseF 12 (not_dst (by kernel_rfl))
              simp only [List.getElem?_toArray, List.getElem?_cons_zero, List.getElem?_cons_succ, Option.getD_some] at e12
              have e13 := hbaseF 13 (not_dst (by kernel_rfl))
              simp only [List.getElem?_toArray, List.getElem?_cons_zero, List.getElem?_cons_succ, Option.getD_some] at e13
              have e14 := hbaseF 14 (not_dst (by kernel_rfl))
              simp only [List.getElem?_toArray, List.getElem?_cons_zero, List.getElem?_cons_succ, Option.getD_some] at e14
              have e15 := hbaseF 15 (not_dst (by kernel_rfl))
              simp only [List.getElem?_toArray, List.getElem?_cons_zero, List.getElem?_cons_succ, Option.getD_some] at e15
              have e16 := hbaseF 16 (not_dst (by kernel_rfl))
              simp only [List.getElem?_toArray, List.getElem?_cons_zero, List.getElem?_cons_succ, Option.getD_some] at e16
              have e17 := hbaseF 17 (not_dst (by kernel_rfl))
              simp only [List.getElem?_toArray, List.getElem?_cons_zero, List.getElem?_cons_succ, Option.getD_some] at e17
              have e18 := hbaseF 18 (not_dst (by kernel_rfl))
              simp only [List.getElem?_toArray, List.getElem?_cons_zero, List.getElem?_cons_succ, Option.getD_some] at e18
              have e19 := hbaseF 19 (not_dst (by kernel_rfl))
              simp only [List.getElem?_toArray, List.getElem?_cons_zero, List.getElem?_cons_succ, Option.getD_some] at e19
              have e20 := hbaseF 20 (not_dst (by kernel_rfl))
              simp only [List.getElem?_toArray, List.getElem?_cons_zero, List.getElem?_cons_succ, Option.getD_some] at e20
              have e21 := hbaseF 21 (not_dst (by kernel_rfl))
              simp only [List.getElem?_toArray, List.getElem?_cons_zero, List.getElem?_cons_succ, Option.getD_some] at e21
              have e22 := hbaseF 22 (not_dst (by kernel_rfl))
              simp only [List.getElem?_toArray, List.getElem?_cons_zero, List.getElem?_cons_succ, Option.getD_some] at e22
              have e23 := hbaseF 23 (not_dst (by kernel_rfl))
              simp only [List.getElem?_toArray, List.getElem?_cons_zero, List.getElem?_cons_succ, Option.getD_some] at e23
              have e24 := hbaseF 24 (not_dst (by kernel_rfl))
              simp only [List.getElem?_toArray, List.getElem?_cons_zero, List.getElem?_cons_succ, Option.getD_some] at e24
              have e25 := hbaseF 25 (not_dst (by kernel_rfl))
              simp only [List.getElem?_toArray, List.getElem?_cons_zero, List.getElem?_cons_succ, Option.getD_some] at e25
              have e26 := hbaseF 26 (not_dst (by kernel_rfl))
              simp only [List.getElem?_toArray, List.getElem?_cons_zero, List.getElem?_cons_succ, Option.getD_some] at e26
              have e27 := hbaseF 27 (not_dst (by kernel_rfl))
              simp only [List.getElem?_toArray, List.getElem?_cons_zero, List.getElem?_cons_succ, Option.getD_some] at e27
              have e28 := hbaseF 28 (not_dst (by kernel_rfl))
              simp only [List.getElem?_toArray, List.getElem?_cons_zero, List.getElem?_cons_succ, Option.getD_some] at e28
              have e29 := hbaseF 29 (not_dst (by kernel_rfl))
              simp only [List.getElem?_toArray, List.getElem?_cons_zero, List.getElem?_cons_succ, Option.getD_some] at e29
              have e30 := hbaseF 30 (not_dst (by kernel_rfl))
              simp only [List.getElem?_toArray, List.getElem?_cons_zero, List.getElem?_cons_succ, Option.getD_some] at e30
              have e31 := hbaseF 31 (not_dst (by kernel_rfl))
              simp only [List.getElem?_toArray, List.getElem?_cons_zero, List.getElem?_cons_succ, Option.getD_some] at e31
              have e32 := hbaseF 32 (not_dst (by kernel_rfl))
              simp only [List.getElem?_toArray, List.getElem?_cons_zero, List.getElem?_cons_succ, Option.getD_some] at e32
              have e33 := hbaseF 33 (not_dst (by kernel_rfl))
              simp only [List.getElem?_toArray, List.getElem?_cons_zero, List.getElem?_cons_succ, Option.getD_some] at e33
              have e34 := hbaseF 34 (not_dst (by kernel_rfl))
              simp only [List.getElem?_toArray, List.getElem?_cons_zero, List.getElem?_cons_succ, Option.getD_some] at e34
              have e35 := hbaseF 35 (not_dst (by kernel_rfl))
              simp only [List.getElem?_toArray, List.getElem?_cons_zero, List.getElem?_cons_succ, Option.getD_some] at e35
              have e36 := hbaseF 36 (not_dst (by kernel_rfl))
              simp only [List.getElem?_toArray, List.getElem?_cons_zero, List.getElem?_cons_succ, Option.getD_some] at e36
              have e37 := hbaseF 37 (not_dst (by kernel_rfl))
              simp only [List.getElem?_toArray, List.getElem?_cons_zero, List.getElem?_cons_succ, Option.getD_some] at e37
              have e38 := hbaseF 38 (not_dst (by kernel_rfl))
              simp only [List.getElem?_toArray, List.getElem?_cons_zero, List.getElem?_cons_succ, Option.getD_some] at e38
              have e39 := hbaseF 39 (not_dst (by kernel_rfl))
              simp only [List.getElem?_toArray, List.getElem?_cons_zero, List.getElem?_cons_succ, Option.getD_some] at e39
              have e40 := hbaseF 40 (not_dst (by kernel_rfl))
              simp only [List.getElem?_toArray, List.getElem?_cons_zero, List.getElem?_cons_succ, Option.getD_some] at e40
              have e41 := hbaseF 41 (not_dst (by kernel_rfl))
              simp only [List.getElem?_toArray, List.getElem?_cons_zero, List.getElem?_cons_succ, Option.getD_some] at e41
              have e42 := hbaseF 42 (not_dst (by kernel_rfl))
              simp only [List.getElem?_toArray, List.getElem?_cons_zero, List.getElem?_cons_succ, Option.getD_some] at e42
              have e43 := hbaseF 43 (not_dst (by kernel_rfl))
              simp only [List.getElem?_toArray, List.getElem?_cons_zero, List.getElem?_cons_succ, Option.getD_some] at e43
              have e44 := hbaseF 44 (not_dst (by kernel_rfl))
              simp only [List.getElem?_toArray, List.getElem?_cons_zero, List.getElem?_cons_succ, Option.getD_some] at e44
              have e45 := hbaseF 45 (not_dst (by kernel_rfl))
              simp only [List.getElem?_toArray, List.getElem?_cons_zero, List.getElem?_cons_succ, Option.getD_some] at e45
              have e46 := hbaseF 46 (not_dst (by kernel_rfl))
              simp only [List.getElem?_toArray, List.getElem?_cons_zero, List.getElem?_cons_succ, Option.getD_some] at e46
              have e47 := hbaseF 47 (not_dst (by kernel_rfl))
              simp only [List.getElem?_toArray, List.getElem?_cons_zero, List.getElem?_cons_succ, Option.getD_some] at e47
              have e48 := hbaseF 48 (not_dst (by kernel_rfl))
              simp only [List.getElem?_toArray, List.getElem?_cons_zero, List.getElem?_cons_succ, Option.getD_some] at e48
              have e49 := hbaseF 49 (not_dst (by kernel_rfl))
              simp only [List.getElem?_toArray, List.getElem?_cons_zero, List.getElem?_cons_succ, Option.getD_some] at e49
              have e50 := hbaseF 50 (not_dst (by kernel_rfl))
              simp only [List.getElem?_toArray, List.getElem?_cons_zero, List.getElem?_cons_succ, Option.getD_some] at e50
              have e51 := hbaseF 51 (not_dst (by kernel_rfl))
              simp only [List.getElem?_toArray, List.getElem?_cons_zero, List.getElem?_cons_succ, Option.getD_some] at e51
              have e52 := hbaseF 52 (not_dst (by kernel_rfl))
              simp only [List.getElem?_toArray, List.getElem?_cons_zero, List.getElem?_cons_succ, Option.getD_some] at e52
              have e53 := hbaseF 53 (not_dst (by kernel_rfl))
              simp only [List.getElem?_toArray, List.getElem?_cons_zero, List.getElem?_cons_succ, Option.getD_some] at e53
              have e54 := hbaseF 54 (not_dst (by kernel_rfl))
              simp only [List.getElem?_toArray, List.getElem?_cons_zero, List.getElem?_cons_succ, Option.getD_some] at e54
              have e55 := hbaseF 55 (not_dst (by kernel_rfl))
              simp only [List.getElem?_toArray, List.getElem?_cons_zero, List.getElem?_cons_succ, Option.getD_some] at e55
              have e56 := hbaseF 56 (not_dst (by kernel_rfl))
              simp only [List.getElem?_toArray, List.getElem?_cons_zero, List.getElem?_cons_succ, Option.getD_some] at e56
              have e57 := hbaseF 57 (not_dst (by kernel_rfl))
              simp only [List.getElem?_toArray, List.getElem?_cons_zero, List.getElem?_cons_succ, Option.getD_some] at e57
              have e58 := hbaseF 58 (not_dst (by kernel_rfl))
              simp only [List.getElem?_toArray, List.getElem?_cons_zero, List.getElem?_cons_succ, Option.getD_some] at e58
              have e59 := hbaseF 59 (not_dst (by kernel_rfl))
              simp only [List.getElem?_toArray, List.getElem?_cons_zero, List.getElem?_cons_succ, Option.getD_some] at e59
              have e60 := hbaseF 60 (not_dst (by kernel_rfl))
              simp only [List.getElem?_toArray, List.getElem?_cons_zero, List.getElem?_cons_succ, Option.getD_some] at e60
              have e61 := hbaseF 61 (not_dst (by kernel_rfl))
              simp only [List.getElem?_toArray, List.getElem?_cons_zero, List.getElem?_cons_succ, Option.getD_some] at e61
              have e62 := hbaseF 62 (not_dst (by kernel_rfl))
              simp only [List.getElem?_toArray, List.getElem?_cons_zero, List.getElem?_cons_succ, Option.getD_some] at e62
              have e63 := hbaseF 63 (not_dst (by kernel_rfl))
              simp only [List.getElem?_toArray, List.getElem?_cons_zero, List.getElem?_cons_succ, Option.getD_some] at e63
              have e64 := hbaseF 64 (not_dst (by kernel_rfl))
              simp only [List.getElem?_toArray, List.getElem?_cons_zero, List.getElem?_cons_succ, Option.getD_some] at e64
              have e65 := hbaseF 65 (not_dst (by kernel_rfl))
              simp only [List.getElem?_toArray, List.getElem?_cons_zero, List.getElem?_cons_succ, Option.getD_some] at e65
              have e66 := hbaseF 66 (not_dst (by kernel_rfl))
              simp only [List.getElem?_toArray, List.getElem?_cons_zero, List.getElem?_cons_succ, Option.getD_some] at e66
              have e67 := hbaseF 67 (not_dst (by kernel_rfl))
              simp only [List.getElem?_toArray, List.getElem?_cons_zero, List.getElem?_cons_succ, Option.getD_some] at e67
              have e68 := hbaseF 68 (not_dst (by kernel_rfl))
              simp only [List.getElem?_toArray, List.getElem?_cons_zero, List.getElem?_cons_succ, Option.getD_some] at e68
              have e89 := hbaseF 89 (not_dst (by kernel_rfl))
              simp only [List.getElem?_toArray, List.getElem?_cons_zero, List.getElem?_cons_succ, Option.getD_some] at e89
              have e90 := hbaseF 90 (not_dst (by kernel_rfl))
              simp only [List.getElem?_toArray, List.getElem?_cons_zero, List.getElem?_cons_succ, Option.getD_some] at e90
              have e88 := hfactF 19 88 (by decide) rfl
              replace e88 : T[88]?.getD undef = .bool true := e88
              clear hbaseF hfactF
              have hT : T = #[T[0]?.getD undef, T[1]?.getD undef, T[2]?.getD undef, T[3]?.getD undef, T[4]?.getD undef, T[5]?.getD undef, T[6]?.getD undef, T[7]?.getD undef, T[8]?.getD undef, T[9]?.getD undef, T[10]?.getD undef, T[11]?.getD undef, T[12]?.getD undef, T[13]?.getD undef, T[14]?.getD undef, T[15]?.getD undef, T[16]?.getD undef, T[17]?.getD undef, T[18]?.getD undef, T[19]?.getD undef, T[20]?.getD undef, T[21]?.getD undef, T[22]?.getD undef, T[23]?.getD undef, T[24]?.getD undef, T[25]?.getD undef, T[26]?.getD undef, T[27]?.getD undef, T[28]?.getD undef, T[29]?.getD undef, T[30]?.getD undef, T[31]?.getD undef, T[32]?.getD undef, T[33]?.getD undef, T[34]?.getD undef, T[35]?.getD undef, T[36]?.getD undef, T[37]?.getD undef, T[38]?.getD undef, T[39]?.getD undef, T[40]?.getD undef, T[41]?.getD undef, T[42]?.getD undef, T[43]?.getD undef, T[44]?.getD undef, T[45]?.getD undef, T[46]?.getD undef, T[47]?.getD undef, T[48]?.getD undef, T[49]?.getD undef, T[50]?.getD undef, T[51]?.getD undef, T[52]?.getD undef, T[53]?.getD undef, T[54]?.getD undef, T[55]?.getD undef, T[56]?.getD undef, T[57]?.getD undef, T[58]?.getD undef, T[59]?.getD undef, T[60]?.getD undef, T[61]?.getD undef, T[62]?.getD undef, T[63]?.getD undef, T[64]?.getD undef, T[65]?.getD undef, T[66]?.getD undef, T[67]?.getD undef, T[68]?.getD undef, T[69]?.getD undef, T[70]?.getD undef, T[71]?.getD undef, T[72]?.getD undef, T[73]?.getD undef, T[74]?.getD undef, T[75]?.getD undef, T[76]?.getD undef, T[77]?.getD undef, T[78]?.getD undef, T[79]?.getD undef, T[80]?.getD undef, T[81]?.getD undef, T[82]?.getD undef, T[83]?.getD undef, T[84]?.getD undef, T[85]?.getD undef, T[86]?.getD undef, T[87]?.getD undef, T[88]?.getD undef, T[89]?.getD undef, T[90]?.getD undef] := arr_eq T 91 hsF
              clear hsF
              rw [e0] at hT; clear e0
              rw [e1] at hT; clear e1
              rw [e2] at hT; clear e2
              rw [e3] at hT; clear e3
              rw [e4] at hT; clear e4
              rw [e5] at hT; clear e5
              rw [e6] at hT; clear e6
              rw [e7] at hT; clear e7
              rw [e8] at hT; clear e8
              rw [e9] at hT; clear e9
              rw [e10] at hT; clear e10
              rw [e11] at hT; clear e11
              rw [e12] at hT; clear e12
              rw [e13] at hT; clear e13
              rw [e14] at hT; clear e14
              rw [e15] at hT; clear e15
              rw [e16] at hT; clear e16
              rw [e17] at hT; clear e17
              rw [e18] at hT; clear e18
              rw [e19] at hT; clear e19
              rw [e20] at hT; clear e20
              rw [e21] at hT; clear e21
              rw [e22] at hT; clear e22
              rw [e23] at hT; clear e23
              rw [e24] at hT; clear e24
              rw [e25] at hT; clear e25
              rw [e26] at hT; clear e26
              rw [e27] at hT; clear e27
              rw [e28] at hT; clear e28
              rw [e29] at hT; clear e29
              rw [e30] at hT; clear e30
              rw [e31] at hT; clear e31
              rw [e32] at hT; clear e32
              rw [e33] at hT; clear e33
              rw [e34] at hT; clear e34
              rw [e35] at hT; clear e35
              rw [e36] at hT; clear e36
              rw [e37] at hT; clear e37
              rw [e38] at hT; clear e38
              rw [e39] at hT; clear e39
              rw [e40] at hT; clear e40
              rw [e41] at hT; clear e41
              rw [e42] at hT; clear e42
              rw [e43] at hT; clear e43
              rw [e44] at hT; clear e44
              rw [e45] at hT; clear e45
              rw [e46] at hT; clear e46
              rw [e47] at hT; clear e47
              rw [e48] at hT; clear e48
              rw [e49] at hT; clear e49
              rw [e50] at hT; clear e50
              rw [e51] at hT; clear e51
              rw [e52] at hT; clear e52
              rw [e53] at hT; clear e53
              rw [e54] at hT; clear e54
              rw [e55] at hT; clear e55
              rw [e56] at hT; clear e56
              rw [e57] at hT; clear e57
              rw [e58] at hT; clear e58
              rw [e59] at hT; clear e59
              rw [e60] at hT; clear e60
              rw [e61] at hT; clear e61
              rw [e62] at hT; clear e62
              rw [e63] at hT; clear e63
              rw [e64] at hT; clear e64
              rw [e65] at hT; clear e65
              rw [e66] at hT; clear e66
              rw [e67] at hT; clear e67
              rw [e68] at hT; clear e68
              generalize T[69]?.getD undef = u69 at hT
              generalize T[70]?.getD undef = u70 at hT
              generalize T[71]?.getD undef = u71 at hT
              generalize T[72]?.getD undef = u72 at hT
              generalize T[73]?.getD undef = u73 at hT
              generalize T[74]?.getD undef = u74 at hT
              generalize T[75]?.getD undef = u75 at hT
              generalize T[76]?.getD undef = u76 at hT
              generalize T[77]?.getD undef = u77 at hT
              generalize T[78]?.getD undef = u78 at hT
              generalize T[79]?.getD undef = u79 at hT
              generalize T[80]?.getD undef = u80 at hT
              generalize T[81]?.getD undef = u81 at hT
              generalize T[82]?.getD undef = u82 at hT
              generalize T[83]?.getD undef = u83 at hT
              generalize T[84]?.getD undef = u84 at hT
              generalize T[85]?.getD undef = u85 at hT
              generalize T[86]?.getD undef = u86 at hT
              generalize T[87]?.getD undef = u87 at hT
              rw [e88] at hT; clear e88
              rw [e89] at hT; clear e89
              rw [e90] at hT; clear e90
              subst hT
              have R1 := hR.on hbF
              have bF : Below w.heap.size w wF := hbel.trans (hbF.mono hbz)
              have c7 := R1.cell
              have f7 := R1.frozen
              have z7 := R1.lt
              have e0 := (R1.set_ 0 (.int .u64 0)).cell 0
              have e1 := ((R1.set_ 0 (.int .u64 0)).set_ 1 (.slice none 0 0)).cell 1
              have e2 := ((R1.set_ 0 (.int .u64 0)).set_ 1 (.slice none 0 0)).cell 0
              simp at e0 e1 e2
              go_wp2_with fail
              refine bodyPost_ret (v := .tuple #[.agg #[.int .u64 0, .slice none 0 0], .int .i64 4]) (by simp [results, Try.results52, go_sem, e0, e1, e2]) rfl ⟨.slice none 0 0, ?_, ?_, (by (have q_bF := Below.size bF; (try simp at q_bF); repeat (first | exact Below.refl _ _ | (refine Below.trans ?_ (Below.mono bF (by first | omega | (simp; omega) | simp))) | (refine Below.setCell ?_ (by first | omega | (simp; omega) | simp) _) | (refine Below.alloc ?_ (by first | omega | (simp; omega) | simp) _) | apply Below.drew | apply below_drewN)))⟩
              · unfold parC parE
                rw [if_neg (by rw [hno.out]; simp), if_neg (by rw [hno.out]; simp)]
              · unfold parS
                rw [if_neg (by rw [hno.out]; simp)]
                exact OwnR.nil _
end Go.Proofs.Ythepgnankelmeaa
