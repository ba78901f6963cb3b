/- Contracts of the functions on supers: Bytes. -/
import Derived.Test.YthepgnankelmeaaConcat
import Derived.Test.YthepgnankelmeaaGeom
import Derived.Test.YthepgnankelmeaaPad
import Derived.Test.YthepgnankelmeaaRow
import Derived.Test.YthepgnankelmeaaFlm
import Derived.Test.YthepgnankelmeaaConv
namespace Go.Proofs.Ythepgnankelmeaa
open Go.RowKit

/-- Values that are slices of bytes. -/
def AllRd (w : World) : List Value → List (List UInt8) → Prop
  | [], [] => True
  | v :: vs, l :: ls => (∃ A n c, v = .slice A n c ∧ Rd w A n l ∧ n ≤ c ∧ c ≤ maxLen) ∧ AllRd w vs ls
  | _, _ => False
theorem AllRd.at_ {w : World} : ∀ {vs : List Value} {ls : List (List UInt8)}, AllRd w vs ls → ∀ (k : Nat) (l : List UInt8), ls[k]? = some l → ∃ A c, vs[k]? = some (.slice A l.length c) ∧ Rd w A l.length l ∧ l.length ≤ c ∧ c ≤ maxLen
  | [], [], _, k, l, h => by simp at h
  | v :: vs, l :: ls, ⟨⟨A, n, c, e, hR, h2⟩, _⟩, 0, l', h => by
    simp at h
    subst h
    obtain rfl := hR.len
    exact ⟨A, c, by simp [e], hR, h2⟩
  | v :: vs, l :: ls, ⟨_, ha⟩, k + 1, l', h => by
    obtain ⟨A, c, e, h2⟩ := AllRd.at_ ha k l' (by simpa using h)
    exact ⟨A, c, by simpa using e, h2⟩
  | [], _ :: _, h, _, _, _ => h.elim
  | _ :: _, [], h, _, _, _ => h.elim
theorem RdSS.of_blk {w : World} {g : Nat} {T : TypeId} {cs : Array Value} {ls : List (List UInt8)} {n : Nat} (h : Blk w g T cs) (ha : AllRd w cs.toList ls) (hn : ls.length = n) : RdSS w (some ⟨g, 0, none⟩) n ls :=
  ⟨hn, fun _ => ⟨g, 0, rfl, h.lt, fun k l hk => by
    obtain ⟨A, c, e, h2⟩ := ha.at_ k l hk
    exact ⟨A, c, by rw [Nat.zero_add, h.cell k, ← Array.getElem?_toList]; exact e, h2⟩⟩⟩
def IsSS (n : Nat) (ls : List (List UInt8)) (v : Value) (w : World) : Prop := ∃ A c, v = .slice A n c ∧ RdSS w A n ls ∧ n ≤ c ∧ c ≤ maxLen
theorem RdSS.ext {B : Nat} {w w' : World} {A : Option Addr} {n : Nat} {ls : List (List UInt8)} (h : RdSS w A n ls) (he : Ext B w w') : RdSS w' A n ls := by
  rcases he with hb | ⟨g, hg, hm⟩
  · exact h.below hb
  · refine ⟨h.1, fun hn => ?_⟩
    obtain ⟨b, off, e, hlt, hc⟩ := h.2 hn
    refine ⟨b, off, e, by rw [hm.size]; exact hlt, fun k l hk => ?_⟩
    obtain ⟨Ai, ci, h1, h2, h3⟩ := hc k l hk
    exact ⟨Ai, ci, (hm.cell b _).trans h1, h2.ext (.inr ⟨g, hg, hm⟩ : Ext B w w'), h3⟩
theorem StabM.ss (B n : Nat) (ls : List (List UInt8)) : StabM B (IsSS n ls) := fun _ _ _ hb ⟨A, c, e, hR, hn⟩ => ⟨A, c, e, hR.ext hb, hn⟩
theorem Stab.ss (n : Nat) (ls : List (List UInt8)) : Stab (IsSS n ls) := fun _ _ _ hb ⟨A, c, e, hR, hn⟩ => ⟨A, c, e, hR.below hb, hn⟩

/-- A call's end: bytes of its own and an error's number. -/
def GivesE (T : TypeId) (w : World) (l : List UInt8) (x : Int) (e : Ending) (w' : World) : Prop := ∃ v, e = .returned (.tuple #[v, .int .i64 x]) ∧ Fresh T w.heap.size w' v l ∧ Below w.heap.size w w'

def markS : List UInt8 := [71, 65, 82, 68, 82, 79, 66, 69]
def superParts (p t : Int) : List (List UInt8) := [markS, putL 2 1, putL 2 p, putL 2 t]
def superL (p t : Int) : List UInt8 := padL 256 (superParts p t).flatten
theorem superParts_len (p t : Int) : (superParts p t).flatten.length = 14 := by simp [superParts, markS, putL_len]
theorem superL_len (p t : Int) : (superL p t).length = 256 := padL_len _ _

set_option maxRecDepth 100000 in
set_option maxHeartbeats 4000000 in
theorem sbytes_yes (p t : Int) (w : World) (h : gmay p t = true) :
    Calls Try.prog 32 #[.agg #[.int .i64 p, .int .i64 t]] w (GivesE 5 w (superL p t) 0) := by
  obtain ⟨h1, h2, h3, h4⟩ := gmay_true h
  have hpl := Lib.hid (superParts_len p t)
  have hms : markS.length = 8 := rfl
  go_enter Try.func32, Try.ntmps32
  go_wp2_with fail
  refine (check_yes p t _ h).mono ?_
  rintro e w1 ⟨rfl, hb1⟩
  have B1 := (Blk.new w _ _).on hb1
  have hz1 := B1.lt
  go_wp2_with fail
  obtain ⟨G, hG⟩ : ∃ G, G = w.heap.size := ⟨_, rfl⟩
  have HG := Lib.hid hG
  rw [← hG] at B1 hz1 ⊢
  clear hG
  refine wp_flm [(IsConst w1.heap.size 5 8 markS), (IsB (8) (markS)), (IsB (2) (putL 2 1)), (fun y_ _ => y_ = .pointer (some ⟨G, 0, none⟩)), (fun y_ _ => y_ = .int .i64 p), (fun y_ _ => y_ = .int .u64 p), (IsB (2) (putL 2 p)), (fun y_ _ => y_ = .pointer (some ⟨G, 1, none⟩)), (fun y_ _ => y_ = .int .i64 t), (fun y_ _ => y_ = .int .u64 t), (IsB (2) (putL 2 t)), (IsSS 4 (superParts p t)), (IsB (14) ((superParts p t).flatten)), (IsB (14) ((superParts p t).flatten))] (by kernel_rfl) ⟨StabM.const _ _ _ _, StabM.b _ _ _, StabM.b _ _ _, StabM.eq _ _, StabM.eq _ _, StabM.eq _ _, StabM.b _ _ _, StabM.eq _ _, StabM.eq _ _, StabM.eq _ _, StabM.b _ _ _, StabM.ss _ _ _, StabM.b _ _ _, StabM.b _ _ _, trivial⟩ (by kernel_rfl) (by rfl) ?_ ?_
  · intro kq hkq
    match kq, hkq with
    | 0, _ =>
      refine StepM.plain _ 11 rfl rfl rfl [] (by kernel_rfl) (fun af wf hbw hf Kf hKf => ?_)
      go_simp
      exact hKf _ _ (.inl ((Below.refl _ _).alloc (Nat.le_refl _) _)) (⟨wf.heap.size, (0, 0), rfl, hbw.size, Blk.new _ _ _, by simp⟩)
    | 1, _ =>
      refine StepM.plain _ 12 rfl rfl rfl [(11, some 0)] (by kernel_rfl) (fun af wf hbw hf Kf hKf => ?_)
      obtain ⟨g11, _⟩ := hf
      have g11 : (IsConst w1.heap.size 5 8 markS) (af.tmps[11]?.getD undef) wf := g11
      obtain ⟨g11, f11, h11, hg11, hh11, hl11⟩ := g11
      have hcvt := run_mark (P := Try.prog) (n := 8) (c := 8) Try.underlying39 Try.underlying5 hh11
      go_simp
      exact hKf _ _ (.inr ⟨g11, hg11, Marked.freeze hh11 (by decide)⟩) (⟨_, _, rfl, Rd.ext (B := w1.heap.size) (rd_of_cells hh11 hl11 rfl) (.inr ⟨g11, hg11, Marked.freeze hh11 (by decide)⟩), by omega, by unfold maxLen; omega⟩)
    | 2, _ =>
      refine StepM.plain _ 13 rfl rfl rfl [] (by kernel_rfl) (fun af wf hbw hf Kf hKf => ?_)
      go_simp
      refine (put_any 2 1 _ (by omega) (by omega) (by omega) (by omega)).mono ?_
      rintro e wN ⟨r, rfl, hF, hb⟩
      exact hKf _ _ (.inl (hb)) (IsB.of hF (putL_len _ _))
    | 3, _ =>
      refine StepM.plain _ 14 rfl rfl rfl [(1, none)] (by kernel_rfl) (fun af wf hbw hf Kf hKf => ?_)
      obtain ⟨g1, _⟩ := hf
      have h1 : af.tmps[1]?.getD undef = .pointer (some ⟨G, 0, none⟩) := g1
      clear g1
      go_simp
      exact hKf _ _ (.inl (Below.refl _ _)) rfl
    | 4, _ =>
      refine StepM.plain _ 15 rfl rfl rfl [(14, some 3)] (by kernel_rfl) (fun af wf hbw hf Kf hKf => ?_)
      obtain ⟨g14, _⟩ := hf
      have h14 : af.tmps[14]?.getD undef = .pointer (some ⟨G, 0, none⟩) := g14
      clear g14
      have cB0 := (Blk.on (Blk.drew (B1)) hbw).cell
      go_simp
      exact hKf _ _ (.inl (Below.refl _ _)) rfl
    | 5, _ =>
      refine StepM.plain _ 16 rfl rfl rfl [(15, some 4)] (by kernel_rfl) (fun af wf hbw hf Kf hKf => ?_)
      obtain ⟨g15, _⟩ := hf
      have h15 : af.tmps[15]?.getD undef = .int .i64 p := g15
      clear g15
      have hwu : IntKind.u64.wrap p = p := by rw [IntKind.wrap_u64]; omega
      go_simp
      exact hKf _ _ (.inl (Below.refl _ _)) rfl
    | 6, _ =>
      refine StepM.plain _ 17 rfl rfl rfl [(16, some 5)] (by kernel_rfl) (fun af wf hbw hf Kf hKf => ?_)
      obtain ⟨g16, _⟩ := hf
      have h16 : af.tmps[16]?.getD undef = .int .u64 p := g16
      clear g16
      go_simp
      refine (put_any 2 p _ (by omega) (by omega) (by omega) (by omega)).mono ?_
      rintro e wN ⟨r, rfl, hF, hb⟩
      exact hKf _ _ (.inl (hb)) (IsB.of hF (putL_len _ _))
    | 7, _ =>
      refine StepM.plain _ 18 rfl rfl rfl [(1, none)] (by kernel_rfl) (fun af wf hbw hf Kf hKf => ?_)
      obtain ⟨g1, _⟩ := hf
      have h1 : af.tmps[1]?.getD undef = .pointer (some ⟨G, 0, none⟩) := g1
      clear g1
      go_simp
      exact hKf _ _ (.inl (Below.refl _ _)) rfl
    | 8, _ =>
      refine StepM.plain _ 19 rfl rfl rfl [(18, some 7)] (by kernel_rfl) (fun af wf hbw hf Kf hKf => ?_)
      obtain ⟨g18, _⟩ := hf
      have h18 : af.tmps[18]?.getD undef = .pointer (some ⟨G, 1, none⟩) := g18
      clear g18
      have cB0 := (Blk.on (Blk.drew (B1)) hbw).cell
      go_simp
      exact hKf _ _ (.inl (Below.refl _ _)) rfl
    | 9, _ =>
      refine StepM.plain _ 20 rfl rfl rfl [(19, some 8)] (by kernel_rfl) (fun af wf hbw hf Kf hKf => ?_)
      obtain ⟨g19, _⟩ := hf
      have h19 : af.tmps[19]?.getD undef = .int .i64 t := g19
      clear g19
      have hwu : IntKind.u64.wrap t = t := by rw [IntKind.wrap_u64]; omega
      go_simp
      exact hKf _ _ (.inl (Below.refl _ _)) rfl
    | 10, _ =>
      refine StepM.plain _ 21 rfl rfl rfl [(20, some 9)] (by kernel_rfl) (fun af wf hbw hf Kf hKf => ?_)
      obtain ⟨g20, _⟩ := hf
      have h20 : af.tmps[20]?.getD undef = .int .u64 t := g20
      clear g20
      go_simp
      refine (put_any 2 t _ (by omega) (by omega) (by omega) (by omega)).mono ?_
      rintro e wN ⟨r, rfl, hF, hb⟩
      exact hKf _ _ (.inl (hb)) (IsB.of hF (putL_len _ _))
    | 11, _ =>
      refine StepM.plain _ 22 rfl rfl rfl [(12, some 1), (13, some 2), (17, some 6), (21, some 10)] (by kernel_rfl) (fun af wf hbw hf Kf hKf => ?_)
      obtain ⟨g12, g13, g17, g21, _⟩ := hf
      obtain ⟨A12, c12, h12, hR12, hn12, hm12⟩ : IsB (8) (markS) (af.tmps[12]?.getD undef) wf := g12
      obtain ⟨A13, c13, h13, hR13, hn13, hm13⟩ : IsB (2) (putL 2 1) (af.tmps[13]?.getD undef) wf := g13
      obtain ⟨A17, c17, h17, hR17, hn17, hm17⟩ : IsB (2) (putL 2 p) (af.tmps[17]?.getD undef) wf := g17
      obtain ⟨A21, c21, h21, hR21, hn21, hm21⟩ : IsB (2) (putL 2 t) (af.tmps[21]?.getD undef) wf := g21
      go_simp
      exact hKf _ _ (.inl ((Below.refl _ _).alloc (Nat.le_refl _) _)) (⟨_, _, rfl, RdSS.of_blk (Blk.new _ _ _) ⟨⟨_, _, _, rfl, hR12.alloc _, hn12, hm12⟩, ⟨_, _, _, rfl, hR13.alloc _, hn13, hm13⟩, ⟨_, _, _, rfl, hR17.alloc _, hn17, hm17⟩, ⟨_, _, _, rfl, hR21.alloc _, hn21, hm21⟩, trivial⟩ rfl, by omega, by unfold maxLen; omega⟩)
    | 12, _ =>
      refine StepM.plain _ 23 rfl rfl rfl [(22, some 11)] (by kernel_rfl) (fun af wf hbw hf Kf hKf => ?_)
      obtain ⟨g22, _⟩ := hf
      have g22 : (IsSS 4 (superParts p t)) (af.tmps[22]?.getD undef) wf := g22
      obtain ⟨A22, c22, h22, hS22, hn22, hm22⟩ := g22
      go_simp
      refine (concat_any _ 4 _ _ _ hS22 (by omega) (by rw [hpl.out]; omega)).mono ?_
      rintro e wN ⟨r, rfl, hF, hb⟩
      exact hKf _ _ (.inl (hb)) (IsB.of hF hpl.out)
    | 13, _ =>
      refine StepM.plain _ 5 rfl rfl rfl [(23, some 12)] (by kernel_rfl) (fun af wf hbw hf Kf hKf => ?_)
      obtain ⟨g23, _⟩ := hf
      obtain ⟨A23, c23, h23, hR23, hn23, hm23⟩ : IsB (14) ((superParts p t).flatten) (af.tmps[23]?.getD undef) wf := g23
      go_simp
      exact hKf _ _ (.inl (Below.refl _ _)) ⟨A23, c23, rfl, hR23, hn23, hm23⟩
    | i + 14, h => exact absurd h (by show ¬ (i + 14 < 14); omega)
  · intro af wF hbF hdF hsF hbaseF hfactF
    obtain ⟨T, dsF⟩ := af
    obtain rfl : dsF = _ := hdF
    have e0 := hbaseF 0 (not_dst (by kernel_rfl))
    simp only [List.getElem?_toArray, List.getElem?_cons_zero, Option.getD_some] at e0
    have e1 := hbaseF 1 (not_dst (by kernel_rfl))
    simp only [List.getElem?_toArray, List.getElem?_cons_zero, List.getElem?_cons_succ, Option.getD_some] at e1
    have e2 := hbaseF 2 (not_dst (by kernel_rfl))
    simp only [List.getElem?_toArray, List.getElem?_cons_zero, List.getElem?_cons_succ, Option.getD_some] at e2
    have e3 := hbaseF 3 (not_dst (by kernel_rfl))
    simp only [List.getElem?_toArray, List.getElem?_cons_zero, List.getElem?_cons_succ, Option.getD_some] at e3
    have e4 := hbaseF 4 (not_dst (by kernel_rfl))
    simp only [List.getElem?_toArray, List.getElem?_cons_zero, List.getElem?_cons_succ, Option.getD_some] at e4
    have e6 := hbaseF 6 (not_dst (by kernel_rfl))
    simp only [List.getElem?_toArray, List.getElem?_cons_zero, List.getElem?_cons_succ, Option.getD_some] at e6
    have e7 := hbaseF 7 (not_dst (by kernel_rfl))
    simp only [List.getElem?_toArray, List.getElem?_cons_zero, List.getElem?_cons_succ, Option.getD_some] at e7
    have e8 := hbaseF 8 (not_dst (by kernel_rfl))
    simp only [List.getElem?_toArray, List.getElem?_cons_zero, List.getElem?_cons_succ, Option.getD_some] at e8
    have e9 := hbaseF 9 (not_dst (by kernel_rfl))
    simp only [List.getElem?_toArray, List.getElem?_cons_zero, List.getElem?_cons_succ, Option.getD_some] at e9
    have e10 := hbaseF 10 (not_dst (by kernel_rfl))
    simp only [List.getElem?_toArray, List.getElem?_cons_zero, List.getElem?_cons_succ, Option.getD_some] at e10
    have e24 := hbaseF 24 (not_dst (by kernel_rfl))
    simp only [List.getElem?_toArray, List.getElem?_cons_zero, List.getElem?_cons_succ, Option.getD_some] at e24
    have e25 := hbaseF 25 (not_dst (by kernel_rfl))
    simp only [List.getElem?_toArray, List.getElem?_cons_zero, List.getElem?_cons_succ, Option.getD_some] at e25
    have e5 := hfactF 13 5 (by decide) rfl
    obtain ⟨A5, c5, h5, hR5, hn5, hm5⟩ : IsB (14) ((superParts p t).flatten) (T[5]?.getD undef) wF := e5
    clear hbaseF hfactF
    have hT : T = #[T[0]?.getD undef, T[1]?.getD undef, T[2]?.getD undef, T[3]?.getD undef, T[4]?.getD undef, T[5]?.getD undef, T[6]?.getD undef, T[7]?.getD undef, T[8]?.getD undef, T[9]?.getD undef, T[10]?.getD undef, T[11]?.getD undef, T[12]?.getD undef, T[13]?.getD undef, T[14]?.getD undef, T[15]?.getD undef, T[16]?.getD undef, T[17]?.getD undef, T[18]?.getD undef, T[19]?.getD undef, T[20]?.getD undef, T[21]?.getD undef, T[22]?.getD undef, T[23]?.getD undef, T[24]?.getD undef, T[25]?.getD undef] := arr_eq T 26 hsF
    clear hsF
    rw [e0] at hT; clear e0
    rw [e1] at hT; clear e1
    rw [e2] at hT; clear e2
    rw [e3] at hT; clear e3
    rw [e4] at hT; clear e4
    rw [h5] at hT; clear h5
    rw [e6] at hT; clear e6
    rw [e7] at hT; clear e7
    rw [e8] at hT; clear e8
    rw [e9] at hT; clear e9
    rw [e10] at hT; clear e10
    generalize T[11]?.getD undef = u11 at hT
    generalize T[12]?.getD undef = u12 at hT
    generalize T[13]?.getD undef = u13 at hT
    generalize T[14]?.getD undef = u14 at hT
    generalize T[15]?.getD undef = u15 at hT
    generalize T[16]?.getD undef = u16 at hT
    generalize T[17]?.getD undef = u17 at hT
    generalize T[18]?.getD undef = u18 at hT
    generalize T[19]?.getD undef = u19 at hT
    generalize T[20]?.getD undef = u20 at hT
    generalize T[21]?.getD undef = u21 at hT
    generalize T[22]?.getD undef = u22 at hT
    generalize T[23]?.getD undef = u23 at hT
    rw [e24] at hT; clear e24
    rw [e25] at hT; clear e25
    subst hT
    go_wp2_with fail
    refine (pad_any _ _ _ (superParts p t).flatten 256 _ hR5 (by omega) (by omega)).mono ?_
    rintro e w2 ⟨v, rfl, hF2, hb2⟩
    go_wp2_with fail
    go_ret2
    exact ⟨v, rfl, hF2.from_ (by have h1 := hb1.size; simp at h1; have := hbF.size; omega), (by (have q_hb2 := Below.size hb2; (try simp at q_hb2); have q_hbF := Below.size hbF; (try simp at q_hbF); have q_hb1 := Below.size hb1; (try simp at q_hb1); repeat (first | exact Below.refl _ _ | (refine Below.trans ?_ (Below.mono hb2 (by first | omega | (simp; omega) | simp))) | (refine Below.trans ?_ (Below.mono hbF (by first | omega | (simp; omega) | simp))) | (refine Below.trans ?_ (Below.mono hb1 (by first | omega | (simp; omega) | simp))) | (refine Below.setCell ?_ (by first | omega | (simp; omega) | simp) _) | (refine Below.alloc ?_ (by first | omega | (simp; omega) | simp) _) | apply Below.drew | apply below_drewN)))⟩

set_option maxHeartbeats 1000000 in
theorem sbytes_no (p t : Int) (w : World) (h : gmay p t = false) :
    Calls Try.prog 32 #[.agg #[.int .i64 p, .int .i64 t]] w (GivesE 5 w [] 1) := by
  go_enter Try.func32, Try.ntmps32
  go_wp2_with fail
  refine (check_no p t _ h).mono ?_
  rintro e w1 ⟨rfl, hb1⟩
  go_wp2_with fail
  go_ret2
  exact ⟨_, rfl, Fresh.nil _ _ _, (by (have q_hb1 := Below.size hb1; (try simp at q_hb1); repeat (first | exact Below.refl _ _ | (refine Below.trans ?_ (Below.mono hb1 (by first | omega | (simp; omega) | simp))) | (refine Below.setCell ?_ (by first | omega | (simp; omega) | simp) _) | (refine Below.alloc ?_ (by first | omega | (simp; omega) | simp) _) | apply Below.drew | apply below_drewN)))⟩
end Go.Proofs.Ythepgnankelmeaa
