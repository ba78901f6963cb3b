/- Pages as bytes: parsed by the program. -/
import Derived.Test.YtidlcplamgajpaaPgB3
import Derived.Test.YtidlcplamgajpaaPgI
import Derived.Test.YtidlcplamgajpaaPgR
namespace Go.Proofs.Ytidlcplamgajpaa
open Go.RowKit Go.Shelf
attribute [local go_sem] Oper.semAt_some

/-- What the program's Parse says of 256 bytes. -/
def ParsedP (T : TypeId) (w : World) (b : List UInt8) (e : Ending) (w' : World) : Prop :=
  (okB b = true ∧ ∃ v, e = .returned (.tuple #[v, .int .i64 0]) ∧ FreshG pgE T w.heap.size w' v (parseP b 16) ∧ Below w.heap.size w w') ∨ (okB b = false ∧ e = .returned (.tuple #[.slice none 0 0, .int .i64 4]) ∧ Below w.heap.size w w')
/-- The boxes of the loop. -/
structure PBox (w : World) (sv : Value) (a e : Value) (W : World) : Prop where
  r1 : Blk W w.heap.size 24 #[a]
  r2 : Blk W (w.heap.size + 1) 45 #[e]
  bs : Blk W (w.heap.size + 1 + 1 + 1) 57 #[sv]
  bn : Blk W (w.heap.size + 1 + 1 + 1 + 1) 3 #[.int .i64 16]
def PI (w : World) (sv : Value) (b : List UInt8) (pre : List K16) (W : World) : Prop :=
  (∃ v, Blk W (w.heap.size + 1 + 1) 24 #[v] ∧ FreshG pgE 65 w.heap.size W v (pre.map fun x => pgC (chunkB b x.1))) ∧ PBox w sv (.slice none 0 0) (.int .i64 0) W ∧ (∀ x ∈ pre, mayB (pgC (chunkB b x.1)) = true)
def PIx (w : World) (sv : Value) (b : List UInt8) (c : Code) (pre : List K16) (W : World) : Prop :=
  c = .ret ∧ PBox w sv (.slice none 0 0) (.int .i64 4) W ∧ (∃ x ∈ pre, mayB (pgC (chunkB b x.1)) = false)
theorem FreshG.ownCells {α : Type} {E : Enc α} {T : TypeId} {B : Nat} {w : World} {v : Value} {l : List α} (h : FreshG E T B w v l) (j : Nat) (o : Obj) (e : v.ownBlock = some j) (ho : w.heap[j]? = some o) : o.isCells = true := by
  obtain ⟨A0, c, rfl, hown⟩ := h
  rcases hown.2 with ⟨e', _⟩ | ⟨g, cap, cur, e', _, hgb, _⟩
  · rw [e'] at e; cases e
  · rw [e'] at e
    simp [Value.ownBlock] at e
    subst e
    rw [hgb] at ho
    cases ho
    rfl
theorem upto_parse (b : List UInt8) : (upto 16).map (fun x => pgC (chunkB b x.1)) = parseP b 16 := by
  unfold upto parseP
  rw [List.map_map]
  apply List.map_congr_left
  intro j hj
  simp [k16_val (List.mem_range.1 hj)]
theorem PBox.turned {w : World} {sv a e : Value} {A A' : World} {row : Option Nat} (hg : A.grownBy A' row) (hr : ∀ r, row = some r → ∃ o : Obj, A.heap[r]? = some o ∧ o.isCells = false) (h : PBox w sv a e A) : PBox w sv a e A' :=
  ⟨h.r1.turned hg hr, h.r2.turned hg hr, h.bs.turned hg hr, h.bn.turned hg hr⟩
theorem PI.own (w : World) (sv : Value) (b : List UInt8) : Own (PI w sv b) := fun _ _ _ _ ⟨⟨v, h1, h2⟩, h3, h4⟩ hg hr => ⟨⟨v, h1.turned hg hr, h2.turned hg hr⟩, h3.turned hg hr, h4⟩
theorem PIx.own (w : World) (sv : Value) (b : List UInt8) (c : Code) : Own (PIx w sv b c) := fun _ _ _ _ ⟨h1, h2, h3⟩ hg hr => ⟨h1, h2.turned hg hr, h3⟩

set_option maxHeartbeats 1000000 in
theorem equal_any (A B : Option Addr) (n m c d : Nat) (a b : List UInt8) (w : World) (ha : Rd w A n a) (hb : Rd w B m b) :
    Calls Try.prog 48 #[.slice A n c, .slice B m d] w fun e w' => e = .returned (.bool (decide (a = b))) ∧ w = w' := by
  have h1 := run_str (P := Try.prog) ha 57 5 9 c Try.underlying57 Try.underlying5 Try.underlying9
  have h2 := run_str (P := Try.prog) hb 57 5 9 d Try.underlying57 Try.underlying5 Try.underlying9
  have hq := Lib.hid (show ((str a).toList == (str b).toList) = decide (a = b) by rw [Bool.eq_iff_iff]; simp [str_toL])
  go_enter Try.func48, Try.ntmps48
  go_wp2_with fail
  go_ret
  exact ⟨ret_bool hq.out, rfl⟩
theorem pgC_nums (L : List UInt8) (h : L.length = 16) : pgC L = ((getL (L.take 1) : Int), (getL ((L.drop 1).take 1) : Int), (getL (((L.drop 1).drop 1).take 2) : Int), (getL ((((L.drop 1).drop 1).drop 2).take 4) : Int), (getL (((((L.drop 1).drop 1).drop 2).drop 4).take 8) : Int)) := by
  unfold pgC
  match L, h with
  | [c0, c1, c2, c3, c4, c5, c6, c7, c8, c9, c10, c11, c12, c13, c14, c15], _ => simp [getL]
set_option maxRecDepth 100000 in
set_option maxHeartbeats 2000000 in
theorem pgparse_any (ab off c : Nat) (b : List UInt8) (w : World) (hr : Rd w (some ⟨ab, off, none⟩) 256 b) (hc : 256 ≤ c) (hm : c ≤ maxLen) :
    Calls Try.prog 25 #[.slice (some ⟨ab, off, none⟩) 256 c] w (ParsedP 65 w b) := by
  refine (callsIn_wide (n := 9)).1 ?_
  refine callsIn_of_wp_marks Try.func25 rfl trivial ?_ rfl
  simp only [Try.ntmps25, List.size_toArray, List.length_cons, List.length_nil, Nat.reduceAdd, Nat.reduceSub, Array.replicate_succ, Array.replicate_zero, List.push_toArray, List.append_toArray, List.nil_append, List.cons_append]
  gi_wp2_with (refine ⟨trivial, ?_⟩; refine (chunkmk_in Fence.wide _ trivial rfl _ _ _ _).mono ?_; rintro e w' ⟨rfl, rfl⟩)
  have K1 := Blk.new w 24 #[.slice none 0 0]
  have K2 := Blk.new (w.alloc (.cells #[.slice none 0 0] 24)) 45 #[.int .i64 0]
  have K3 := Blk.new ((w.alloc (.cells #[.slice none 0 0] 24)).alloc (.cells #[.int .i64 0] 45)) 24 #[.slice none 0 0]
  have K4 := Blk.new (((w.alloc (.cells #[.slice none 0 0] 24)).alloc (.cells #[.int .i64 0] 45)).alloc (.cells #[.slice none 0 0] 24)) 57 #[.slice (some ⟨ab, off, none⟩) 256 c]
  have K5 := Blk.new ((((w.alloc (.cells #[.slice none 0 0] 24)).alloc (.cells #[.int .i64 0] 45)).alloc (.cells #[.slice none 0 0] 24)).alloc (.cells #[.slice (some ⟨ab, off, none⟩) 256 c] 57)) 3 #[.int .i64 16]
  simp only [World.size_alloc] at K1 K2 K3 K4 K5
  obtain ⟨W0, hW0⟩ : ∃ W0, ((((w.alloc (.cells #[.slice none 0 0] 24)).alloc (.cells #[.int .i64 0] 45)).alloc (.cells #[.slice none 0 0] 24)).alloc (.cells #[.slice (some ⟨ab, off, none⟩) 256 c] 57)).alloc (.cells #[.int .i64 16] 3) = W0 := ⟨_, rfl⟩
  have hb0 : Below w.heap.size w W0 := by rw [← hW0]; exact (by (repeat (first | exact Below.refl _ _ | (refine Below.setCell ?_ (by first | omega | (simp; omega) | simp) _) | (refine Below.alloc ?_ (by first | omega | (simp; omega) | simp) _) | apply Below.drew | apply below_drewN)))
  have hz0 : W0.heap.size = w.heap.size + 5 := by rw [← hW0]; simp
  have B1 : Blk W0 w.heap.size 24 #[.slice none 0 0] := by rw [← hW0]; exact (((K1.alloc _).alloc _).alloc _).alloc _
  have B2 : Blk W0 (w.heap.size + 1) 45 #[.int .i64 0] := by rw [← hW0]; exact ((K2.alloc _).alloc _).alloc _
  have B3 : Blk W0 (w.heap.size + 1 + 1) 24 #[.slice none 0 0] := by rw [← hW0]; exact (K3.alloc _).alloc _
  have B4 : Blk W0 (w.heap.size + 1 + 1 + 1) 57 #[.slice (some ⟨ab, off, none⟩) 256 c] := by rw [← hW0]; exact K4.alloc _
  have B5 : Blk W0 (w.heap.size + 1 + 1 + 1 + 1) 3 #[.int .i64 16] := by rw [← hW0]; exact K5
  try simp only [World.size_alloc]
  rw [hW0]
  clear K1 K2 K3 K4 K5 hW0
  refine wpIn_rangeFunc_ownF rfl (by decide) (gf := 56) (lb := #[.pointer (some ⟨w.heap.size + 1 + 1 + 1, 0, none⟩), .pointer (some ⟨w.heap.size + 1 + 1 + 1 + 1, 0, none⟩)]) rfl trivial (enters_of Try.func56 (by kernel_rfl) rfl)
    (chunk_stops _ (by decide) (w.heap.size + 1 + 1 + 1) (w.heap.size + 1 + 1 + 1 + 1) ab off c hc hm W0 (by omega) (by omega) (B4.cell 0) (B5.cell 0)) KpC.t (KpC.b (by omega) (by omega)) (Below.refl _ _) (fun _ => rfl)
    (fun pre W => PI w (.slice (some ⟨ab, off, none⟩) 256 c) b pre W ∧ Below w.heap.size w W)
    (fun cd pre W => PIx w (.slice (some ⟨ab, off, none⟩) 256 c) b cd pre W ∧ Below w.heap.size w W)
    (OwnFrom.and (Own.from (PI.own _ _ _) _) (ownFrom_below (Nat.le_refl _) (by omega)))
    (fun cd => OwnFrom.and (Own.from (PIx.own _ _ _ cd) _) (ownFrom_below (Nat.le_refl _) (by omega)))
    ⟨⟨⟨_, B3, FreshG.nil _ _ _⟩, ⟨B1, B2, B4, B5⟩, by simp⟩, hb0⟩
    ?a1 ?assign ?body ?done ?stop
  case assign =>
    intro l x W K hK
    gi_wp2
    exact hK
  case body =>
    rintro l pre x W ⟨⟨⟨v, hO, hF⟩, hP, hall⟩, hB⟩ hlt
    obtain ⟨k, hk⟩ := x
    have hRc : Rd W (some ⟨ab, off + k * 16, none⟩) 16 (chunkB b k) := by
      have h := (hr.below hB).sub (k * 16) 16 (by omega)
      have h2 := sub_chunk b k 0 16 (by omega)
      rw [Nat.add_zero, List.drop_zero, List.take_of_length_le (by simp [chunkB]; omega)] at h2
      rw [h2]
      exact h
    obtain ⟨L, hL⟩ : ∃ L, chunkB b k = L := ⟨_, rfl⟩
    rw [hL] at hRc
    have hL16 : L.length = 16 := hRc.len
    have hpg := pgC_nums L hL16
    obtain ⟨y0, e0⟩ : ∃ y : Int, (getL (L.take 1) : Int) = y := ⟨_, rfl⟩
    obtain ⟨y1, e1⟩ : ∃ y : Int, (getL ((L.drop 1).take 1) : Int) = y := ⟨_, rfl⟩
    obtain ⟨y2, e2⟩ : ∃ y : Int, (getL (((L.drop 1).drop 1).take 2) : Int) = y := ⟨_, rfl⟩
    obtain ⟨y3, e3⟩ : ∃ y : Int, (getL ((((L.drop 1).drop 1).drop 2).take 4) : Int) = y := ⟨_, rfl⟩
    obtain ⟨y4, e4⟩ : ∃ y : Int, (getL (((((L.drop 1).drop 1).drop 2).drop 4).take 8) : Int) = y := ⟨_, rfl⟩
    rw [e0, e1, e2, e3, e4] at hpg
    have r0 : 0 ≤ y0 ∧ y0 < 256 := by
      have := getL_lt (L.take 1)
      rw [show (L.take 1).length = 1 by simp; omega] at this
      omega
    have r1 : 0 ≤ y1 ∧ y1 < 256 := by
      have := getL_lt ((L.drop 1).take 1)
      rw [show ((L.drop 1).take 1).length = 1 by simp; omega] at this
      omega
    have r2 : 0 ≤ y2 ∧ y2 < 65536 := by
      have := getL_lt (((L.drop 1).drop 1).take 2)
      rw [show (((L.drop 1).drop 1).take 2).length = 2 by simp; omega] at this
      omega
    have r3 : 0 ≤ y3 ∧ y3 < 4294967296 := by
      have := getL_lt ((((L.drop 1).drop 1).drop 2).take 4)
      rw [show ((((L.drop 1).drop 1).drop 2).take 4).length = 4 by simp; omega] at this
      omega
    have r4 : 0 ≤ y4 := by omega
    gi_wp2_with (refine ⟨trivial, ?_⟩; refine (CallsIn.inRound l (callsIn_wide.2 (of_x _ _ _ L _ hRc (by omega)))).mono ?_; rintro e w1 ⟨g, rfl, hg, hRow, hb1⟩)
    gi_wp2_with fail
    refine ⟨trivial, ?_⟩
    refine (CallsIn.inRound l (callsIn_wide.2 (num_x g W.heap.size 1 _ _ hRow hg (by omega) (by omega) (by omega)))).mono ?_
    rintro e w2 ⟨he, u2, hw2, hRow2⟩
    rw [e0] at he
    subst he
    have hb2 : Below W.heap.size W w2 := (by rw [hw2]; exact hb1.setCell (p := ⟨g, 0, none⟩) hg _)
    clear hw2 hRow hb1
    gi_wp2_with fail
    refine ⟨trivial, ?_⟩
    refine (CallsIn.inRound l (callsIn_wide.2 (num_x g W.heap.size 1 _ _ hRow2 hg (by omega) (by omega) (by simp; omega)))).mono ?_
    rintro e w3 ⟨he, u3, hw3, hRow3⟩
    rw [e1] at he
    subst he
    have hb3 : Below W.heap.size W w3 := (by rw [hw3]; exact hb2.setCell (p := ⟨g, 0, none⟩) hg _)
    clear hw3 hRow2 hb2
    gi_wp2_with fail
    refine ⟨trivial, ?_⟩
    refine (CallsIn.inRound l (callsIn_wide.2 (num_x g W.heap.size 2 _ _ hRow3 hg (by omega) (by omega) (by simp; omega)))).mono ?_
    rintro e w4 ⟨he, u4, hw4, hRow4⟩
    rw [e2] at he
    subst he
    have hb4 : Below W.heap.size W w4 := (by rw [hw4]; exact hb3.setCell (p := ⟨g, 0, none⟩) hg _)
    clear hw4 hRow3 hb3
    gi_wp2_with fail
    refine ⟨trivial, ?_⟩
    refine (CallsIn.inRound l (callsIn_wide.2 (num_x g W.heap.size 4 _ _ hRow4 hg (by omega) (by omega) (by simp; omega)))).mono ?_
    rintro e w5 ⟨he, u5, hw5, hRow5⟩
    rw [e3] at he
    subst he
    have hb5 : Below W.heap.size W w5 := (by rw [hw5]; exact hb4.setCell (p := ⟨g, 0, none⟩) hg _)
    clear hw5 hRow4 hb4
    gi_wp2_with fail
    refine ⟨trivial, ?_⟩
    refine (CallsIn.inRound l (callsIn_wide.2 (num_x g W.heap.size 8 _ _ hRow5 hg (by omega) (by omega) (by simp; omega)))).mono ?_
    rintro e w6 ⟨he, u6, hw6, hRow6⟩
    rw [e4] at he
    subst he
    have hb6 : Below W.heap.size W w6 := (by rw [hw6]; exact hb5.setCell (p := ⟨g, 0, none⟩) hg _)
    clear hw6 hRow5 hb5
    have hz6 := hb6.size
    have hRc6 := hRc.below hb6
    clear hRow6
    have E0 := Lib.hid e0
    clear e0 e1 e2 e3 e4
    gi_wp2_with fail
    refine ⟨trivial, ?_⟩
    refine (CallsIn.inRound l (callsIn_wide.2 (bad_any y0 y1 y2 y3 y4 _))).mono ?_
    rintro e w7 ⟨rfl, hb7⟩
    have hB6 := Blk.new w6 65 #[.int .i64 y0, .int .i64 y1, .int .i64 y2, .int .i64 y3, .int .u64 y4]
    have hB7 := hB6.on hb7
    have c7 := hB7.cell
    have hW7 : Below W.heap.size W w7 := (by (have q_hb7 := Below.size hb7; (try simp at q_hb7); have q_hb6 := Below.size hb6; (try simp at q_hb6); repeat (first | exact Below.refl _ _ | (refine Below.trans ?_ (Below.mono hb7 (by first | omega | (simp; omega) | simp))) | (refine Below.trans ?_ (Below.mono hb6 (by first | omega | (simp; omega) | simp))) | (refine Below.setCell ?_ (by first | omega | (simp; omega) | simp) _) | (refine Below.alloc ?_ (by first | omega | (simp; omega) | simp) _) | apply Below.drew | apply below_drewN)))
    have hz7 := hW7.size
    have hWlt : w.heap.size + 1 + 1 + 1 + 1 < W.heap.size := hP.bn.lt
    have P1 := hP.r1.below hW7 (by omega)
    have P2 := hP.r2.below hW7 (by omega)
    have P3 := hP.bs.below hW7 (by omega)
    have P4 := hP.bn.below hW7 (by omega)
    have hRc7 := hRc.below hW7
    clear hB6 hb7 hb6 hRc6
    obtain ⟨M, hM⟩ : ∃ M, mayB (y0, y1, y2, y3, y4) = M := ⟨_, rfl⟩
    rw [hM]
    have HPG := Lib.hid (show mayB (pgC (chunkB b k)) = M by rw [hL, hpg]; exact hM)
    have HMY := Lib.hid hM
    clear hM
    cases M with
    | false =>
      have cp1 := P1.cell 0
      have cp2 := P2.cell 0
      have fp1 := P1.frozen 0
      have fp2 := P2.frozen 0
      gi_wp2_with fail
      refine ⟨trivial, ?_⟩
      gi_wp2_with fail
      refine ⟨trivial, ?_⟩
      gi_wp2_with fail
      exact ⟨(KeepsOthers.ofBelow hW7).trans ((KeepsOthers.setCell _ _ _).trans (KeepsOthers.setCell _ _ _)),
        ⟨rfl, ⟨(P1.set_ 0 _).far (by simp) _, (P2.far (by simp) _).set_ 0 _, (P3.far (by simp <;> omega) _).far (by simp <;> omega) _, (P4.far (by simp <;> omega) _).far (by simp <;> omega) _⟩, ⟨⟨k, hk⟩, by simp, HPG.out⟩⟩,
        ((hB.trans (hW7.mono hB.size)).setCell (p := ⟨w.heap.size, 0, none⟩) (Nat.le_refl _) _).setCell (p := ⟨w.heap.size + 1, 0, none⟩) (by simp) _⟩
    | true =>
      gi_wp2_with fail
      refine ⟨trivial, ?_⟩
      refine (CallsIn.inRound l (callsIn_wide.2 (pbytes_any y0 y1 y2 y3 y4 _ (may_room HMY.out)))).mono ?_
      rintro e w8 ⟨u8, rfl, hF8, hb8⟩
      obtain ⟨A8, c8, rfl, hR8, _, _, _⟩ := hF8.rdn 16 (pgL_len _)
      have hpL : pgL (y0, y1, y2, y3, y4) = L := by rw [← hpg]; exact pgL_pgC L hL16
      rw [hpL] at hR8
      have hW8 : Below W.heap.size W w8 := (by (have q_hb8 := Below.size hb8; (try simp at q_hb8); have q_hW7 := Below.size hW7; (try simp at q_hW7); repeat (first | exact Below.refl _ _ | (refine Below.trans ?_ (Below.mono hb8 (by first | omega | (simp; omega) | simp))) | (refine Below.trans ?_ (Below.mono hW7 (by first | omega | (simp; omega) | simp))) | (refine Below.setCell ?_ (by first | omega | (simp; omega) | simp) _) | (refine Below.alloc ?_ (by first | omega | (simp; omega) | simp) _) | apply Below.drew | apply below_drewN)))
      have hB8 := hB7.on hb8
      have c8' := hB8.cell
      have hz8 := hW8.size
      clear hB7 c7 hb8 P1 P2 P3 P4 hF8 hpL
      gi_wp2_with fail
      refine ⟨trivial, ?_⟩
      refine (CallsIn.inRound l (callsIn_wide.2 (equal_any _ _ _ _ _ _ L L _ hR8 (hRc.below hW8)))).mono ?_
      rintro e w9 ⟨rfl, rfl⟩
      rw [decide_eq_true rfl]
      have P0 := hO.below hW8 (by omega)
      have P1 := hP.r1.below hW8 (by omega)
      have P2 := hP.r2.below hW8 (by omega)
      have P3 := hP.bs.below hW8 (by omega)
      have P4 := hP.bn.below hW8 (by omega)
      have cO := P0.cell 0
      have hFa := (hF.below hW8).alloc (.cells #[.int .i64 y0, .int .i64 y1, .int .i64 y2, .int .i64 y3, .int .u64 y4] 65)
      have hRb : RdG pgE (w8.alloc (.cells #[.int .i64 y0, .int .i64 y1, .int .i64 y2, .int .i64 y3, .int .u64 y4] 65)) (some ⟨w8.heap.size, 0, none⟩) 1 [(y0, y1, y2, y3, y4)] := RdG.boxed _ _ _ _ rfl
      obtain ⟨lp, hlp⟩ : ∃ lp, pre.map (fun x => pgC (chunkB b x.1)) = lp := ⟨_, rfl⟩
      rw [hlp] at hFa
      have hlpl : lp.length < 16 := by rw [← hlp]; simpa using hlt
      clear hF hR8 hRc7 hRc
      gi_wp2_with (gi_at_builtin; refine wpListIn_append_G (E := pgE) _ rfl (.tmp 41) (.tmp 43) _ rfl w.heap.size 65 Try.underlying24 infoPg rfl v lp rfl hFa (some ⟨w8.heap.size, 0, none⟩) 1 1 [(y0, y1, y2, y3, y4)] rfl hRb (by omega) (by omega) (by have := hB.size; simp; omega) ?_; intro v' w10 hF10' hg10 hb10; have Q0 := (P0.alloc (.cells #[.int .i64 y0, .int .i64 y1, .int .i64 y2, .int .i64 y3, .int .u64 y4] 65)).grown hg10 (own_ne hFa (P0.alloc _) (by decide)); have cQ := Q0.cell 0; have fQ := Q0.frozen 0; obtain ⟨A10, c10, rfl, hF10, _⟩ := hF10'.rdn (lp.length + 1) (by simp))
      have hbA : Below W.heap.size W (w8.alloc (.cells #[.int .i64 y0, .int .i64 y1, .int .i64 y2, .int .i64 y3, .int .u64 y4] 65)) := (by (have q_hW8 := Below.size hW8; (try simp at q_hW8); repeat (first | exact Below.refl _ _ | (refine Below.trans ?_ (Below.mono hW8 (by first | omega | (simp; omega) | simp))) | (refine Below.setCell ?_ (by first | omega | (simp; omega) | simp) _) | (refine Below.alloc ?_ (by first | omega | (simp; omega) | simp) _) | apply Below.drew | apply below_drewN)))
      have R1 := (P1.alloc _).grown hg10 (own_ne hFa (P1.alloc _) (by decide))
      have R2 := (P2.alloc _).grown hg10 (own_ne hFa (P2.alloc _) (by decide))
      have R3 := (P3.alloc _).grown hg10 (own_ne hFa (P3.alloc _) (by decide))
      have R4 := (P4.alloc _).grown hg10 (own_ne hFa (P4.alloc _) (by decide))
      have S3 := R3.far (p := ⟨w.heap.size + 1 + 1, 0, none⟩) (by simp) (.slice A10 (lp.length + 1) c10)
      have S4 := R4.far (p := ⟨w.heap.size + 1 + 1, 0, none⟩) (by simp <;> omega) (.slice A10 (lp.length + 1) c10)
      have hmm : (pre ++ [(⟨k, hk⟩ : K16)]).map (fun x => pgC (chunkB b x.1)) = lp ++ [(y0, y1, y2, y3, y4)] := by rw [List.map_append, hlp]; simp [hL, hpg]
      refine ⟨(KeepsOthers.ofBelow hbA).trans ((KeepsOthers.of_grownBy hg10 (fun j o ej ho => hFa.ownCells j o ej ho)).trans (KeepsOthers.setCell _ _ _)), KpC.blk hP.bs hP.bn S3 S4,
        ⟨⟨_, Q0.set_ 0 _, ?_⟩, ⟨R1.far (by simp <;> omega) _, R2.far (by simp) _, S3, S4⟩, ?_⟩, (((hB.trans (hbA.mono hB.size)).trans hb10).setCell (p := ⟨w.heap.size + 1 + 1, 0, none⟩) (by simp <;> omega) _)⟩
      · rw [hmm]
        exact hF10'.setNe (fun y hy e => own_ne hF10' Q0 (by decide) (by rw [hy, e])) _
      · intro x hx
        rcases List.mem_append.1 hx with hx | hx
        · exact hall x hx
        · simp at hx
          subst hx
          exact HPG.out
  case done =>
    rintro D ys W hD rfl ⟨⟨⟨v, hO, hF⟩, hP, hall⟩, hB⟩ hK
    have cO := hO.cell 0
    have P1 := hP.r1
    have P2 := hP.r2
    have cp1 := P1.cell 0
    have cp2 := P2.cell 0
    have fp1 := P1.frozen 0
    have fp2 := P2.frozen 0
    obtain ⟨A9, c9, rfl, hF9, _⟩ := hF.rdn 16 (by simp [upto])
    gi_wp2
    have hK1 := (KeepsOthers.setCell W ⟨w.heap.size, 0, none⟩ (.slice A9 16 c9)).same D _ hK rfl
    have hK2 := (KeepsOthers.setCell (W.setCell ⟨w.heap.size, 0, none⟩ (.slice A9 16 c9)) ⟨w.heap.size + 1, 0, none⟩ (.int .i64 0)).same D _ hK1 rfl
    have T1 := (P1.set_ 0 (.slice A9 16 c9)).far (p := ⟨w.heap.size + 1, 0, none⟩) (by simp) (.int .i64 0)
    have T2 := (P2.far (p := ⟨w.heap.size, 0, none⟩) (by simp) (.slice A9 16 c9)).set_ 0 (.int .i64 0)
    have P2' := P2.far (p := ⟨w.heap.size, 0, none⟩) (by simp) (.slice A9 16 c9)
    have hF1 := hF.setNe (p := ⟨w.heap.size, 0, none⟩) (fun y hy e => own_ne hF P1 (by decide) (by rw [hy, e])) (.slice A9 16 c9)
    have hF2 := hF1.setNe (p := ⟨w.heap.size + 1, 0, none⟩) (fun y hy e => own_ne hF1 P2' (by decide) (by rw [hy, e])) (.int .i64 0)
    have hgp := grownBy_putObj' ((W.setCell ⟨w.heap.size, 0, none⟩ (.slice A9 16 c9)).setCell ⟨w.heap.size + 1, 0, none⟩ (.int .i64 0)) D (.deferred none)
    have hrp : ∀ r, some D = some r → ∃ o : Obj, ((W.setCell ⟨w.heap.size, 0, none⟩ (.slice A9 16 c9)).setCell ⟨w.heap.size + 1, 0, none⟩ (.int .i64 0)).heap[r]? = some o ∧ o.isCells = false := fun r e => by cases e; exact ⟨_, hK2, rfl⟩
    have t1 := (T1.turned hgp hrp).cell 0
    have t2 := (T2.turned hgp hrp).cell 0
    refine ⟨by simp, .inl ⟨_, _, rfl, run_takeDeferred hK2, ?_⟩⟩
    refine ⟨.tuple #[.slice A9 16 c9, .int .i64 0], ?_, .inl ⟨?_, _, rfl, ?_, ?_⟩⟩
    · simp at t1 t2
      simp [results, Try.f25, go_sem, t1, t2]
    · unfold okB
      rw [List.all_eq_true, ← upto_parse]
      intro x hx
      obtain ⟨j, hj, rfl⟩ := List.mem_map.1 hx
      exact hall j hj
    · rw [← upto_parse]
      exact hF2.turned hgp hrp
    · exact ((hB.setCell (p := ⟨w.heap.size, 0, none⟩) (Nat.le_refl _) _).setCell (p := ⟨w.heap.size + 1, 0, none⟩) (by simp) _).trans (belowK_b (w := w) (Nat.le_refl _) _ D _ _ (by omega) hK2 rfl rfl)
  case stop =>
    rintro D cd pre W hD ⟨k, hk, rfl⟩ ⟨⟨rfl, hP, hx⟩, hB⟩ hK
    gi_wp2
    obtain ⟨x, hxm, hxf⟩ := hx
    have hgp := grownBy_putObj' W D (.deferred none)
    have hrp : ∀ r, some D = some r → ∃ o : Obj, W.heap[r]? = some o ∧ o.isCells = false := fun r e => by cases e; exact ⟨_, hK, rfl⟩
    have t1 := (hP.r1.turned hgp hrp).cell 0
    have t2 := (hP.r2.turned hgp hrp).cell 0
    refine ⟨by simp, .inl ⟨_, _, rfl, run_takeDeferred hK, ?_⟩⟩
    refine ⟨.tuple #[.slice none 0 0, .int .i64 4], ?_, .inr ⟨okB_no x.2 hxf, rfl, ?_⟩⟩
    · simp at t1 t2
      simp [results, Try.f25, go_sem, t1, t2]
    · exact hB.trans (belowK_b (w := w) (Nat.le_refl _) W D _ _ (by omega) hK rfl rfl)
end Go.Proofs.Ytidlcplamgajpaa
