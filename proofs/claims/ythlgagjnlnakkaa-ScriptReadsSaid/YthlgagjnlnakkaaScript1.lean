/- Scripts: acts; the program's and the document's; the one as the other. -/
import Derived.Test.YthlgagjnlnakkaaRec
import Derived.Test.YthlgagjnlnakkaaConv
namespace Go.Proofs.Ythlgagjnlnakkaa
open Go.RowKit

/-- An act's plain fields: kind, yes, which, k, n, at. -/
abbrev ActF := Int × Bool × Int × Int × Int × Int
abbrev ActH := ActF × (Option Addr × Nat × Nat)
abbrev ActD := ActF × List UInt8
def actE : Enc ActH where
  sz := 7
  f x := [.int .i64 x.1.1, .bool x.1.2.1, .int .i64 x.1.2.2.1, .int .i64 x.1.2.2.2.1, .int .i64 x.1.2.2.2.2.1, .int .i64 x.1.2.2.2.2.2, .slice x.2.1 x.2.2.1 x.2.2.2]
  len _ := rfl
  pos := by decide
  one x u hu := by simp at hu; rcases hu with rfl | rfl | rfl | rfl | rfl | rfl | rfl <;> rfl
def actK : RKind ActH ActD := ⟨actE, fun h => h.2, fun e => e.2, fun h e => h.1 = e.1⟩
theorem infoRA : (Try.prog.info? 32).map (fun i => (i.zero, i.size, i.bytes)) = some (some (.agg #[.int .i64 0, .bool false, .int .i64 0, .int .i64 0, .int .i64 0, .int .i64 0, .slice none 0 0]), 7, 72) := by kernel_rfl
theorem infoSA : (Try.prog.info? 34).map (fun i => (i.zero, i.size, i.bytes)) = some (some (.agg #[.int .i64 0, .bool false, .int .i64 0, .int .i64 0, .int .i64 0, .int .i64 0, .slice none 0 0]), 7, 72) := by kernel_rfl
theorem infoB8 : (Try.prog.info? 5).map (fun i => (i.zero, i.size, i.bytes)) = some (some (.int .u8 0), 1, 1) := by kernel_rfl

theorem RdR.act {B : Nat} {T : TypeId} {w : World} {A : Option Addr} {n k : Nat} {es : List ActD} (hr : RdR actK B T w A n es) (hk : k < n) : ∃ (b off : Nat) (f1 : Int) (f2 : Bool) (f3 f4 f5 f6 : Int) (Ad : Option Addr) (nd cd : Nat) (L : List UInt8), A = some ⟨b, off, none⟩ ∧ b < w.heap.size ∧ es[k]? = some ((f1, f2, f3, f4, f5, f6), L) ∧
    w.cell? ⟨b, off + k * 7, none⟩ = some (.int .i64 f1) ∧ w.cell? ⟨b, off + k * 7 + 1, none⟩ = some (.bool f2) ∧ w.cell? ⟨b, off + k * 7 + 2, none⟩ = some (.int .i64 f3) ∧ w.cell? ⟨b, off + k * 7 + 3, none⟩ = some (.int .i64 f4) ∧ w.cell? ⟨b, off + k * 7 + 4, none⟩ = some (.int .i64 f5) ∧ w.cell? ⟨b, off + k * 7 + 5, none⟩ = some (.int .i64 f6) ∧ w.cell? ⟨b, off + k * 7 + 6, none⟩ = some (.slice Ad nd cd) ∧ RdX B T w Ad nd L ∧ nd ≤ cd ∧ cd ≤ maxLen := by
  obtain ⟨b, off, ⟨⟨g1, g2, g3, g4, g5, g6⟩, Ad, nd, cd⟩, ⟨⟨f1, f2, f3, f4, f5, f6⟩, L⟩, hA, hb, he, hc, hi⟩ := hr.at_ hk
  obtain ⟨e1, e2, e3, e4⟩ := hi
  have e1' : ((g1, g2, g3, g4, g5, g6) : ActF) = (f1, f2, f3, f4, f5, f6) := e1
  simp only [Prod.mk.injEq] at e1'
  obtain ⟨rfl, rfl, rfl, rfl, rfl, rfl⟩ := e1'
  have h0 : w.cell? ⟨b, off + k * 7 + 0, none⟩ = _ := hc 0 _ rfl
  have h1 : w.cell? ⟨b, off + k * 7 + 1, none⟩ = _ := hc 1 _ rfl
  have h2 : w.cell? ⟨b, off + k * 7 + 2, none⟩ = _ := hc 2 _ rfl
  have h3 : w.cell? ⟨b, off + k * 7 + 3, none⟩ = _ := hc 3 _ rfl
  have h4 : w.cell? ⟨b, off + k * 7 + 4, none⟩ = _ := hc 4 _ rfl
  have h5 : w.cell? ⟨b, off + k * 7 + 5, none⟩ = _ := hc 5 _ rfl
  have h6 : w.cell? ⟨b, off + k * 7 + 6, none⟩ = _ := hc 6 _ rfl
  exact ⟨b, off, g1, g2, g3, g4, g5, g6, Ad, nd, cd, L, hA, hb, he, h0, h1, h2, h3, h4, h5, h6, e2, e3, e4⟩
theorem Rd.pre {w : World} {A : Option Addr} {n : Nat} {l : List UInt8} (h : Rd w A n l) (m : Nat) (hm : m ≤ n) : Rd w A m (l.take m) := by
  have hl := h.1
  refine ⟨by simp; omega, fun hp => ?_⟩
  obtain ⟨b, off, hA, hlt, hc⟩ := h.2 (by omega)
  refine ⟨b, off, hA, hlt, fun j u hj => ?_⟩
  rw [List.getElem?_take] at hj
  split at hj
  · exact hc j u hj
  · cases hj
theorem RdX.pre {B : Nat} {T : TypeId} {w : World} {A : Option Addr} {n : Nat} {l : List UInt8} (h : RdX B T w A n l) (m : Nat) (hm : m ≤ n) : RdX B T w A m (l.take m) :=
  ⟨h.1.pre m hm, fun ad hn hA => h.2 ad (by omega) hA⟩

/-- A row in a variable, of which one more record is appended: ahead; appended; taken over. -/
def VarInv {η α : Type} (K : RKind η α) (T2 : TypeId) (Br B : Nat) (T : TypeId) (v : Value) (es es' : List α) : Nat → Value → World → Prop
  | 0, _, W => OwnR K T2 Br B T W v es
  | _ + 1, u, W => OwnR K T2 Br B T W u es'
theorem VarInv.stab {η α : Type} {K : RKind η α} {T2 : TypeId} {Br B : Nat} {T : TypeId} {v : Value} {es es' : List α} : ∀ i u w w', Below w.heap.size w w' → VarInv K T2 Br B T v es es' i u w → VarInv K T2 Br B T v es es' i u w'
  | 0, _, _, _, hb, h => h.below hb
  | _ + 1, _, _, _, hb, h => h.below hb
/-- The blocks that an append to a row of records may touch: its own. -/
theorem OwnR.blocks1 {η α : Type} {K : RKind η α} {B Br : Nat} {T T2 : TypeId} {w : World} {v : Value} {es : List α} (ho : OwnR K T2 Br B T w v es) (hT2 : T ≠ T2) : ∃ gs : List Nat, (∀ x, v.ownBlock = some x → x ∈ gs) ∧ (∀ x ∈ gs, x < w.heap.size) ∧ (∀ x ∈ gs, Br ≤ x) ∧ ∀ x ∈ gs, ∃ cs t fr, w.heap[x]? = some (.cells cs t fr) ∧ T ≠ t := by
  have hb := ho.block
  cases hv : v.ownBlock with
  | none => exact ⟨[], (fun x h => by cases h), (fun x hx => by simp at hx), (fun x hx => by simp at hx), (fun x hx => by simp at hx)⟩
  | some y =>
    have hy := hb y hv
    obtain ⟨hs, ⟨A, c, e, hown⟩, _⟩ := ho
    rcases hown.2 with ⟨e0, _⟩ | ⟨g', cap, cur', e0, _, hh, _⟩
    · rw [e0] at hv; cases hv
    · rw [e0] at hv
      injection hv with hv
      have hv : g' = y := hv
      subst hv
      exact ⟨[g'], (fun x h => by injection h with h; subst h; simp), (fun x hx => by simp at hx; omega), (fun x hx => by simp at hx; omega), (fun x hx => by simp at hx; subst hx; exact ⟨cur', T2, _, hh, hT2⟩)⟩

set_option maxRecDepth 100000 in
set_option maxHeartbeats 8000000 in
theorem aours_any (A : Option Addr) (n c B : Nat) (es : List ActD) (w : World) (hr : RdR actK B 5 w A n es) (hBw : B ≤ w.heap.size) (hn : n ≤ 1000) (hL : ∀ e ∈ es, e.2.length ≤ 1000000) :
    Calls Try.prog 9 #[.slice A n c] w fun e w' => ∃ v, e = .returned v ∧ OwnR actK 34 w.heap.size w.heap.size 5 w' v es ∧ Below w.heap.size w w' := by
  have hlen := hr.len
  go_enter Try.func9, Try.ntmps9
  go_wp2_with fail
  go_loopw [3, 8] (fun v i wr => ∃ k : Nat, k ≤ n ∧ i = .int .i64 k ∧ OwnR actK 34 w.heap.size w.heap.size 5 wr v (es.take k) ∧ Below w.heap.size w wr) (fun _ i _ => n - (intOf i).toNat)
  case atStart => exact ⟨0, by omega, rfl, OwnR.nil _, Below.refl _ _⟩
  case round =>
    obtain ⟨k, hk, rfl, hO, hbel⟩ := hrel
    have hbz := hbel.size
    by_cases hlt : k < n
    · obtain ⟨b, off, f1, f2, f3, f4, f5, f6, Ad, nd, cd, L, rfl, hb, he, c0, c1, c2, c3, c4, c5, c6, hX, hnd, hcd⟩ := (hr.below hbel).act hlt
      have hst := Lib.hid (take_step he)
      have hLl : L.length = nd := hX.1.len
      have hL1 := hL _ (List.mem_of_getElem? he)
      simp only at hL1
      have hkl : (es.take k).length = k := by simp; omega
      obtain ⟨v, hv0⟩ : ∃ v, v = u3 := ⟨_, rfl⟩
      subst hv0
      obtain ⟨gs, hg2, hg3, hg4, hg6⟩ := hO.blocks1 (by decide)
      have Bx := Blk.new wr 32 #[.int .i64 f1, .bool f2, .int .i64 f3, .int .i64 f4, .int .i64 f5, .int .i64 f6, .slice Ad nd cd]
      have hOa := hO.alloc (.cells #[.int .i64 f1, .bool f2, .int .i64 f3, .int .i64 f4, .int .i64 f5, .int .i64 f6, .slice Ad nd cd] 32)
      have hgx : wr.heap.size ∉ gs := fun h => by have := hg3 _ h; omega
      have hRx : RdN (wr.alloc (.cells #[.int .i64 f1, .bool f2, .int .i64 f3, .int .i64 f4, .int .i64 f5, .int .i64 f6, .slice Ad nd cd] 32)) gs Ad nd L := RdN.below (hX.rdn (fun x h => by have := hg4 x h; omega) hg6) (by (repeat (first | exact Below.refl _ _ | (refine Below.setCell ?_ (by first | omega | (simp; omega) | simp) _) | (refine Below.alloc ?_ (by first | omega | (simp; omega) | simp) _) | apply Below.drew | apply below_drewN)))
      clear he hX
      go_wp2_with fail
      refine wp_flvl [(fun y_ _ => y_ = v), (fun y_ _ => y_ = .pointer (some ⟨wr.heap.size, 0, none⟩)), (fun y_ _ => y_ = .int .i64 f1), (fun y_ _ => y_ = .pointer (some ⟨wr.heap.size, 1, none⟩)), (fun y_ _ => y_ = .bool f2), (fun y_ _ => y_ = .pointer (some ⟨wr.heap.size, 2, none⟩)), (fun y_ _ => y_ = .int .i64 f3), (fun y_ _ => y_ = .pointer (some ⟨wr.heap.size, 3, none⟩)), (fun y_ _ => y_ = .int .i64 f4), (fun y_ _ => y_ = .pointer (some ⟨wr.heap.size, 4, none⟩)), (fun y_ _ => y_ = .int .i64 f5), (fun y_ _ => y_ = .pointer (some ⟨wr.heap.size, 5, none⟩)), (fun y_ _ => y_ = .int .i64 f6), IsLit gs wr.heap.size 5, (fun y_ _ => y_ = .pointer (some ⟨wr.heap.size, 6, none⟩)), (fun y_ _ => y_ = .slice Ad nd cd), IsRow gs wr.heap.size 5 nd L, IsAg gs wr.heap.size 5 nd L (fun s => .agg #[.int .i64 f1, .bool f2, .int .i64 f3, .int .i64 f4, .int .i64 f5, .int .i64 f6, s]), IsBox actE gs wr.heap.size 5 nd L (fun s => ((f1, f2, f3, f4, f5, f6), s)), (fun _ _ => True), (fun _ _ => True)] gs (VarInv actK 34 w.heap.size w.heap.size 5 v (es.take k) (es.take k ++ [((f1, f2, f3, f4, f5, f6), L)])) [19, 20] (by kernel_rfl) ⟨StabW.eq _ _, StabW.eq _ _, StabW.eq _ _, StabW.eq _ _, StabW.eq _ _, StabW.eq _ _, StabW.eq _ _, StabW.eq _ _, StabW.eq _ _, StabW.eq _ _, StabW.eq _ _, StabW.eq _ _, StabW.eq _ _, IsLit.stab _ _ _, StabW.eq _ _, StabW.eq _ _, IsRow.stab _ _ _ _ _, IsAg.stab _ _ _ _ _ _, IsBox.stab _ _ _ _ _ _ _, StabW.any _, StabW.any _, trivial⟩ (VarInv.stab) (hOa) (by kernel_rfl) (by kernel_rfl) (by kernel_rfl) (by rfl) ?_ ?_
      · intro kq hkq
        match kq, hkq with
        | 0, _ =>
          refine StepV.plain _ rfl rfl rfl [(3, none)] (by kernel_rfl) (fun af wf hbw hz hf Kf hKf => ?_)
          obtain ⟨g3, _⟩ := hf
          have h3 : af.tmps[3]?.getD undef = v := g3
          clear g3
          go_simp
          exact hKf _ _ (Below.refl _ _) rfl
        | 1, _ =>
          refine StepV.plain _ rfl rfl rfl [(5, none)] (by kernel_rfl) (fun af wf hbw hz hf Kf hKf => ?_)
          obtain ⟨g5, _⟩ := hf
          have h5 : af.tmps[5]?.getD undef = .pointer (some ⟨wr.heap.size, 0, none⟩) := g5
          clear g5
          go_simp
          exact hKf _ _ (Below.refl _ _) rfl
        | 2, _ =>
          refine StepV.plain _ rfl rfl rfl [(13, some 1)] (by kernel_rfl) (fun af wf hbw hz hf Kf hKf => ?_)
          obtain ⟨g13, _⟩ := hf
          have h13 : af.tmps[13]?.getD undef = .pointer (some ⟨wr.heap.size, 0, none⟩) := g13
          clear g13
          have cB0 := (Blk.kept (Blk.drew (Bx)) hbw (hgx)).cell
          go_simp
          exact hKf _ _ (Below.refl _ _) rfl
        | 3, _ =>
          refine StepV.plain _ rfl rfl rfl [(5, none)] (by kernel_rfl) (fun af wf hbw hz hf Kf hKf => ?_)
          obtain ⟨g5, _⟩ := hf
          have h5 : af.tmps[5]?.getD undef = .pointer (some ⟨wr.heap.size, 0, none⟩) := g5
          clear g5
          go_simp
          exact hKf _ _ (Below.refl _ _) rfl
        | 4, _ =>
          refine StepV.plain _ rfl rfl rfl [(15, some 3)] (by kernel_rfl) (fun af wf hbw hz hf Kf hKf => ?_)
          obtain ⟨g15, _⟩ := hf
          have h15 : af.tmps[15]?.getD undef = .pointer (some ⟨wr.heap.size, 1, none⟩) := g15
          clear g15
          have cB0 := (Blk.kept (Blk.drew (Bx)) hbw (hgx)).cell
          go_simp
          exact hKf _ _ (Below.refl _ _) rfl
        | 5, _ =>
          refine StepV.plain _ rfl rfl rfl [(5, none)] (by kernel_rfl) (fun af wf hbw hz hf Kf hKf => ?_)
          obtain ⟨g5, _⟩ := hf
          have h5 : af.tmps[5]?.getD undef = .pointer (some ⟨wr.heap.size, 0, none⟩) := g5
          clear g5
          go_simp
          exact hKf _ _ (Below.refl _ _) rfl
        | 6, _ =>
          refine StepV.plain _ rfl rfl rfl [(17, some 5)] (by kernel_rfl) (fun af wf hbw hz hf Kf hKf => ?_)
          obtain ⟨g17, _⟩ := hf
          have h17 : af.tmps[17]?.getD undef = .pointer (some ⟨wr.heap.size, 2, none⟩) := g17
          clear g17
          have cB0 := (Blk.kept (Blk.drew (Bx)) hbw (hgx)).cell
          go_simp
          exact hKf _ _ (Below.refl _ _) rfl
        | 7, _ =>
          refine StepV.plain _ rfl rfl rfl [(5, none)] (by kernel_rfl) (fun af wf hbw hz hf Kf hKf => ?_)
          obtain ⟨g5, _⟩ := hf
          have h5 : af.tmps[5]?.getD undef = .pointer (some ⟨wr.heap.size, 0, none⟩) := g5
          clear g5
          go_simp
          exact hKf _ _ (Below.refl _ _) rfl
        | 8, _ =>
          refine StepV.plain _ rfl rfl rfl [(19, some 7)] (by kernel_rfl) (fun af wf hbw hz hf Kf hKf => ?_)
          obtain ⟨g19, _⟩ := hf
          have h19 : af.tmps[19]?.getD undef = .pointer (some ⟨wr.heap.size, 3, none⟩) := g19
          clear g19
          have cB0 := (Blk.kept (Blk.drew (Bx)) hbw (hgx)).cell
          go_simp
          exact hKf _ _ (Below.refl _ _) rfl
        | 9, _ =>
          refine StepV.plain _ rfl rfl rfl [(5, none)] (by kernel_rfl) (fun af wf hbw hz hf Kf hKf => ?_)
          obtain ⟨g5, _⟩ := hf
          have h5 : af.tmps[5]?.getD undef = .pointer (some ⟨wr.heap.size, 0, none⟩) := g5
          clear g5
          go_simp
          exact hKf _ _ (Below.refl _ _) rfl
        | 10, _ =>
          refine StepV.plain _ rfl rfl rfl [(21, some 9)] (by kernel_rfl) (fun af wf hbw hz hf Kf hKf => ?_)
          obtain ⟨g21, _⟩ := hf
          have h21 : af.tmps[21]?.getD undef = .pointer (some ⟨wr.heap.size, 4, none⟩) := g21
          clear g21
          have cB0 := (Blk.kept (Blk.drew (Bx)) hbw (hgx)).cell
          go_simp
          exact hKf _ _ (Below.refl _ _) rfl
        | 11, _ =>
          refine StepV.plain _ rfl rfl rfl [(5, none)] (by kernel_rfl) (fun af wf hbw hz hf Kf hKf => ?_)
          obtain ⟨g5, _⟩ := hf
          have h5 : af.tmps[5]?.getD undef = .pointer (some ⟨wr.heap.size, 0, none⟩) := g5
          clear g5
          go_simp
          exact hKf _ _ (Below.refl _ _) rfl
        | 12, _ =>
          refine StepV.plain _ rfl rfl rfl [(23, some 11)] (by kernel_rfl) (fun af wf hbw hz hf Kf hKf => ?_)
          obtain ⟨g23, _⟩ := hf
          have h23 : af.tmps[23]?.getD undef = .pointer (some ⟨wr.heap.size, 5, none⟩) := g23
          clear g23
          have cB0 := (Blk.kept (Blk.drew (Bx)) hbw (hgx)).cell
          go_simp
          exact hKf _ _ (Below.refl _ _) rfl
        | 13, _ =>
          refine StepV.plain _ rfl rfl rfl [] (by kernel_rfl) (fun af wf hbw hz hf Kf hKf => ?_)
          go_simp
          exact hKf _ _ (((Below.refl _ _).alloc (Nat.le_refl _) _)) (⟨hg3, _, rfl, Blk.new _ _ _, by have := hbw.size; simp at this; omega⟩)
        | 14, _ =>
          refine StepV.plain _ rfl rfl rfl [(5, none)] (by kernel_rfl) (fun af wf hbw hz hf Kf hKf => ?_)
          obtain ⟨g5, _⟩ := hf
          have h5 : af.tmps[5]?.getD undef = .pointer (some ⟨wr.heap.size, 0, none⟩) := g5
          clear g5
          go_simp
          exact hKf _ _ (Below.refl _ _) rfl
        | 15, _ =>
          refine StepV.plain _ rfl rfl rfl [(26, some 14)] (by kernel_rfl) (fun af wf hbw hz hf Kf hKf => ?_)
          obtain ⟨g26, _⟩ := hf
          have h26 : af.tmps[26]?.getD undef = .pointer (some ⟨wr.heap.size, 6, none⟩) := g26
          clear g26
          have cB0 := (Blk.kept (Blk.drew (Bx)) hbw (hgx)).cell
          go_simp
          exact hKf _ _ (Below.refl _ _) rfl
        | 16, _ =>
          refine StepV.plain _ rfl rfl rfl [(25, some 13), (27, some 15)] (by kernel_rfl) (fun af wf hbw hz hf Kf hKf => ?_)
          obtain ⟨g25, g27, _⟩ := hf
          have g25 : IsLit gs wr.heap.size 5 (af.tmps[25]?.getD undef) wf := g25
          obtain ⟨hz25, b25, h25, hB25, hb25⟩ := g25
          have h27 : af.tmps[27]?.getD undef = .slice Ad nd cd := g27
          clear g27
          have hRf := RdN.kept (RdN.drew hRx) hbw (fun _ h_ => h_)
          refine wp_append_lit wf (.tmp 25) (.tmp 27) _ rfl b25 wr.heap.size 5 Try.underlying30 infoB8 hB25 hb25 (by simp [Act.eval, h25]) Ad nd cd L (by simp [Act.eval, h27]) hRf.1 (by omega) ?_; intro v7 w7 hF7 hb7
          exact hKf _ _ (hb7) (IsRow.of hF7 hg3 hLl)
        | 17, _ =>
          refine StepV.plain _ rfl rfl rfl [(14, some 2), (16, some 4), (18, some 6), (20, some 8), (22, some 10), (24, some 12), (28, some 16)] (by kernel_rfl) (fun af wf hbw hz hf Kf hKf => ?_)
          obtain ⟨g14, g16, g18, g20, g22, g24, g28, _⟩ := hf
          have h14 : af.tmps[14]?.getD undef = .int .i64 f1 := g14
          have h16 : af.tmps[16]?.getD undef = .bool f2 := g16
          have h18 : af.tmps[18]?.getD undef = .int .i64 f3 := g18
          have h20 : af.tmps[20]?.getD undef = .int .i64 f4 := g20
          have h22 : af.tmps[22]?.getD undef = .int .i64 f5 := g22
          have h24 : af.tmps[24]?.getD undef = .int .i64 f6 := g24
          have g28 : IsRow gs wr.heap.size 5 nd L (af.tmps[28]?.getD undef) wf := g28
          obtain ⟨hz28, A28, c28, h28, hF28, hn28, hm28⟩ := g28
          clear g14 g16 g18 g20 g22 g24
          go_simp
          exact hKf _ _ (Below.refl _ _) (⟨hz28, A28, c28, rfl, hF28, hn28, hm28⟩)
        | 18, _ =>
          refine StepV.plain _ rfl rfl rfl [(29, some 17)] (by kernel_rfl) (fun af wf hbw hz hf Kf hKf => ?_)
          obtain ⟨g29, _⟩ := hf
          have g29 : IsAg gs wr.heap.size 5 nd L (fun s => .agg #[.int .i64 f1, .bool f2, .int .i64 f3, .int .i64 f4, .int .i64 f5, .int .i64 f6, s]) (af.tmps[29]?.getD undef) wf := g29
          obtain ⟨hz29, A29, c29, h29, hF29, hn29, hm29⟩ := g29
          go_simp
          exact hKf _ _ (((Below.refl _ _).alloc (Nat.le_refl _) _)) (⟨hz29, A29, c29, _, rfl, (fun h_ => by have := hz29 _ h_; have := hbw.size; simp at this; omega), RdG.boxed _ _ _ _ rfl, hF29.alloc _, hn29, hm29⟩)
        | 19, _ =>
          refine StepV.chain 0 _ rfl rfl rfl (by decide) [(12, some 0), (30, some 18)] (by kernel_rfl) (fun af wf hbw hiv hf Kf hKf => ?_)
          obtain ⟨uv, hiv, hlast⟩ := hiv
          obtain ⟨g12, g30, _⟩ := hf
          have h12 : af.tmps[12]?.getD undef = v := g12
          have g30 : IsBox actE gs wr.heap.size 5 nd L (fun s => ((f1, f2, f3, f4, f5, f6), s)) (af.tmps[30]?.getD undef) wf := g30
          obtain ⟨hz30, A30, c30, b30, h30, hb30, hR30, hF30, hn30, hm30⟩ := g30
          clear g12
          obtain ⟨hs, hFr, hAll⟩ := hiv
          have hsl : hs.length = k := by rw [hAll.1, hkl]
          obtain ⟨A8, c8, e8, hown8⟩ := id hFr
          refine wp_append_G wf (.tmp 12) (.tmp 30) _ rfl w.heap.size 34 Try.underlying25 infoSA rfl v hs (by simp [Act.eval, h12]) hFr _ 1 1 [((f1, f2, f3, f4, f5, f6), (A30, nd, c30))] (by simp [Act.eval, h30]) hR30 (by omega) (by omega) (by have := hbw.size; simp at this; omega) ?_; intro v10 w10 hF10 hg10 hb10
          exact hKf _ _ ((Kept.of_grown hg10 hg2)) (⟨_, hF10, hAll.more (show RItem actK _ _ wf ((f1, f2, f3, f4, f5, f6), (A30, nd, c30)) ((f1, f2, f3, f4, f5, f6), L) from ⟨rfl, RdX.fresh hF30 hLl, hn30, hm30⟩) hown8 (Nat.le_refl _) (by decide) hg10⟩) (trivial)
        | 20, _ =>
          refine StepV.chain 1 _ rfl rfl rfl (by decide) [(31, some 19)] (by kernel_rfl) (fun af wf hbw hiv hf Kf hKf => ?_)
          obtain ⟨uv, hiv, hlast⟩ := hiv
          have h31 : af.tmps[31]?.getD undef = uv := hlast 0 19 31 rfl rfl rfl
          obtain ⟨g31, _⟩ := hf
          go_simp
          exact hKf _ _ ((Kept.refl _ _)) (hiv) (trivial)
        | i + 21, h => exact absurd h (by show ¬ (i + 21 < 21); omega)
      · intro af wF hbF hiF hdF hsF hbaseF hfactF
        obtain ⟨T, dsF⟩ := af
        obtain rfl : dsF = _ := hdF
        obtain ⟨uF, hiF, hlF⟩ := hiF
        have e3 := hlF 1 20 3 rfl rfl rfl
        replace e3 : T[3]?.getD undef = uF := e3
        clear hlF
        have e0 := hbaseF 0 (not_dst (by kernel_rfl))
        simp only [List.getElem?_toArray, List.getElem?_cons_zero, Option.getD_some] at e0
        have e1 := hbaseF 1 (not_dst (by kernel_rfl))
        simp only [List.getElem?_toArray, List.getElem?_cons_zero, List.getElem?_cons_succ, Option.getD_some] at e1
        have e2 := hbaseF 2 (not_dst (by kernel_rfl))
        simp only [List.getElem?_toArray, List.getElem?_cons_zero, List.getElem?_cons_succ, Option.getD_some] at e2
        have e4 := hbaseF 4 (not_dst (by kernel_rfl))
        simp only [List.getElem?_toArray, List.getElem?_cons_zero, List.getElem?_cons_succ, Option.getD_some] at e4
        have e5 := hbaseF 5 (not_dst (by kernel_rfl))
        simp only [List.getElem?_toArray, List.getElem?_cons_zero, List.getElem?_cons_succ, Option.getD_some] at e5
        have e6 := hbaseF 6 (not_dst (by kernel_rfl))
        simp only [List.getElem?_toArray, List.getElem?_cons_zero, List.getElem?_cons_succ, Option.getD_some] at e6
        have e7 := hbaseF 7 (not_dst (by kernel_rfl))
        simp only [List.getElem?_toArray, List.getElem?_cons_zero, List.getElem?_cons_succ, Option.getD_some] at e7
        have e8 := hbaseF 8 (not_dst (by kernel_rfl))
        simp only [List.getElem?_toArray, List.getElem?_cons_zero, List.getElem?_cons_succ, Option.getD_some] at e8
        have e9 := hbaseF 9 (not_dst (by kernel_rfl))
        simp only [List.getElem?_toArray, List.getElem?_cons_zero, List.getElem?_cons_succ, Option.getD_some] at e9
        have e10 := hbaseF 10 (not_dst (by kernel_rfl))
        simp only [List.getElem?_toArray, List.getElem?_cons_zero, List.getElem?_cons_succ, Option.getD_some] at e10
        have e11 := hbaseF 11 (not_dst (by kernel_rfl))
        simp only [List.getElem?_toArray, List.getElem?_cons_zero, List.getElem?_cons_succ, Option.getD_some] at e11
        have e32 := hbaseF 32 (not_dst (by kernel_rfl))
        simp only [List.getElem?_toArray, List.getElem?_cons_zero, List.getElem?_cons_succ, Option.getD_some] at e32
        have e33 := hbaseF 33 (not_dst (by kernel_rfl))
        simp only [List.getElem?_toArray, List.getElem?_cons_zero, List.getElem?_cons_succ, Option.getD_some] at e33
        clear hbaseF hfactF
        have hT : T = #[T[0]?.getD undef, T[1]?.getD undef, T[2]?.getD undef, T[3]?.getD undef, T[4]?.getD undef, T[5]?.getD undef, T[6]?.getD undef, T[7]?.getD undef, T[8]?.getD undef, T[9]?.getD undef, T[10]?.getD undef, T[11]?.getD undef, T[12]?.getD undef, T[13]?.getD undef, T[14]?.getD undef, T[15]?.getD undef, T[16]?.getD undef, T[17]?.getD undef, T[18]?.getD undef, T[19]?.getD undef, T[20]?.getD undef, T[21]?.getD undef, T[22]?.getD undef, T[23]?.getD undef, T[24]?.getD undef, T[25]?.getD undef, T[26]?.getD undef, T[27]?.getD undef, T[28]?.getD undef, T[29]?.getD undef, T[30]?.getD undef, T[31]?.getD undef, T[32]?.getD undef, T[33]?.getD undef] := arr_eq T 34 hsF
        clear hsF
        rw [e0] at hT; clear e0
        rw [e1] at hT; clear e1
        rw [e2] at hT; clear e2
        rw [e3] at hT; clear e3
        rw [e4] at hT; clear e4
        rw [e5] at hT; clear e5
        rw [e6] at hT; clear e6
        rw [e7] at hT; clear e7
        rw [e8] at hT; clear e8
        rw [e9] at hT; clear e9
        rw [e10] at hT; clear e10
        rw [e11] at hT; clear e11
        generalize T[12]?.getD undef = u12 at hT
        generalize T[13]?.getD undef = u13 at hT
        generalize T[14]?.getD undef = u14 at hT
        generalize T[15]?.getD undef = u15 at hT
        generalize T[16]?.getD undef = u16 at hT
        generalize T[17]?.getD undef = u17 at hT
        generalize T[18]?.getD undef = u18 at hT
        generalize T[19]?.getD undef = u19 at hT
        generalize T[20]?.getD undef = u20 at hT
        generalize T[21]?.getD undef = u21 at hT
        generalize T[22]?.getD undef = u22 at hT
        generalize T[23]?.getD undef = u23 at hT
        generalize T[24]?.getD undef = u24 at hT
        generalize T[25]?.getD undef = u25 at hT
        generalize T[26]?.getD undef = u26 at hT
        generalize T[27]?.getD undef = u27 at hT
        generalize T[28]?.getD undef = u28 at hT
        generalize T[29]?.getD undef = u29 at hT
        generalize T[30]?.getD undef = u30 at hT
        generalize T[31]?.getD undef = u31 at hT
        rw [e32] at hT; clear e32
        rw [e33] at hT; clear e33
        subst hT
        have hbel' : Below w.heap.size w wF := (show Below w.heap.size w (wr.alloc (.cells #[.int .i64 f1, .bool f2, .int .i64 f3, .int .i64 f4, .int .i64 f5, .int .i64 f6, .slice Ad nd cd] 32)) from (by (have q_hbel := Below.size hbel; (try simp at q_hbel); repeat (first | exact Below.refl _ _ | (refine Below.trans ?_ (Below.mono hbel (by first | omega | (simp; omega) | simp))) | (refine Below.setCell ?_ (by first | omega | (simp; omega) | simp) _) | (refine Below.alloc ?_ (by first | omega | (simp; omega) | simp) _) | apply Below.drew | apply below_drewN)))).trans (hbF.below (by simp; omega) hg4)
        have hiF' : OwnR actK 34 w.heap.size w.heap.size 5 wF uF (es.take k ++ [((f1, f2, f3, f4, f5, f6), L)]) := hiF
        go_wp2_with fail
        go_roundw
        case rel => exact ⟨k + 1, by omega, by go_num, by rw [hst.out]; exact hiF', hbel'⟩
        case measure => simp [intOf] <;> omega
    · obtain rfl : k = n := by omega
      have hT := Lib.hid (show es.take k = es from List.take_of_length_le (by omega))
      go_wp2_with fail
      go_ret
      exact ⟨_, rfl, by rw [← hT.out]; rw [hT.out]; rw [← hT.out]; exact hO, hbel⟩
end Go.Proofs.Ythlgagjnlnakkaa
