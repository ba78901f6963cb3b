/- Scripts: bytes' acts, by the document: Parse. -/
import Derived.Test.YthlgagjnlnakkaaScriptD
import Derived.Test.YthlgagjnlnakkaaScript15
import Derived.Test.YthlgagjnlnakkaaScript12
import Derived.Test.YthlgagjnlnakkaaScript13
import Derived.Test.YthlgagjnlnakkaaFlq
namespace Go.Proofs.Ythlgagjnlnakkaa
open Go.RowKit

def ParsedD (w : World) (b : List UInt8) (e : Ending) (w' : World) : Prop :=
  ((∃ es v, PA b es [] ∧ e = .returned (.tuple #[v, .bool true]) ∧ OwnR actK 32 w.heap.size w.heap.size 5 w' v es) ∨ (∃ es r, PA b es r ∧ r ≠ [] ∧ stepOK r = false ∧ e = .returned (.tuple #[.slice none 0 0, .bool false]))) ∧ Below w.heap.size w w'

theorem Rd.sub {w : World} {ab off n : Nat} {l : List UInt8} (h : Rd w (some ⟨ab, off, none⟩) n l) (j m : Nat) (hj : j + m ≤ n) : Rd w (some ⟨ab, off + j, none⟩) m ((l.take (j + m)).drop j) := by
  have hl := h.1
  refine ⟨by simp; omega, fun hm => ?_⟩
  obtain ⟨b', o', hA, hlt, hc⟩ := h.2 (by omega)
  injection hA with hA
  injection hA with e1 e2
  subst e1 e2
  refine ⟨ab, off + j, rfl, hlt, fun i u hi => ?_⟩
  rw [List.getElem?_drop, List.getElem?_take] at hi
  split at hi
  · rw [Nat.add_assoc]
    exact hc (j + i) u hi
  · cases hi
theorem Rd.cellAt {w : World} {ab off n k : Nat} {l : List UInt8} {x : UInt8} (h : Rd w (some ⟨ab, off, none⟩) n l) (hx : l[k]? = some x) : w.cell? ⟨ab, off + k, none⟩ = some (.int .u8 (x.toNat : Int)) := by
  have hk : k < l.length := (List.getElem?_eq_some_iff.1 hx).1
  have hl := h.1
  obtain ⟨b', o', hA, hlt, hc⟩ := h.2 (by omega)
  injection hA with hA
  injection hA with e1 e2
  subst e1 e2
  exact hc k x hx
theorem Kept.fill7 {w : World} {g : Nat} (v0 v1 v2 v3 v4 v5 v6 : Value) : Kept [g] w (((((((w.setCell ⟨g, 0, none⟩ v0).setCell ⟨g, 1, none⟩ v1).setCell ⟨g, 2, none⟩ v2).setCell ⟨g, 3, none⟩ v3).setCell ⟨g, 4, none⟩ v4).setCell ⟨g, 5, none⟩ v5).setCell ⟨g, 6, none⟩ v6) :=
  Kept.setCell (Kept.setCell (Kept.setCell (Kept.setCell (Kept.setCell (Kept.setCell (Kept.setCell (.refl _ _) (by simp) _) (by simp) _) (by simp) _) (by simp) _) (by simp) _) (by simp) _) (by simp) _
theorem Blk.fill7 {w : World} {g : Nat} {T : TypeId} {z0 z1 z2 z3 z4 z5 z6 : Value} (h : Blk w g T #[z0, z1, z2, z3, z4, z5, z6]) (v0 v1 v2 v3 v4 v5 v6 : Value) : Blk (((((((w.setCell ⟨g, 0, none⟩ v0).setCell ⟨g, 1, none⟩ v1).setCell ⟨g, 2, none⟩ v2).setCell ⟨g, 3, none⟩ v3).setCell ⟨g, 4, none⟩ v4).setCell ⟨g, 5, none⟩ v5).setCell ⟨g, 6, none⟩ v6) g T #[v0, v1, v2, v3, v4, v5, v6] := by
  simpa using ((((((h.set_ 0 v0).set_ 1 v1).set_ 2 v2).set_ 3 v3).set_ 4 v4).set_ 5 v5).set_ 6 v6
/-- A box that a region makes and fills: not yet; made; filled. -/
def BoxInv (g : Nat) (T : TypeId) (zs cs : Array Value) : Nat → Value → World → Prop
  | 0, _, W => W.heap.size = g
  | 1, u, W => u = .pointer (some ⟨g, 0, none⟩) ∧ Blk W g T zs
  | _, _, W => Blk W g T cs

set_option maxRecDepth 100000 in
set_option maxHeartbeats 1000000 in
theorem rparse_any (A : Option Addr) (n c : Nat) (b : List UInt8) (w : World) (hr : Rd w A n b) (hn : n ≤ 1000000000) (hc : n ≤ c) (hcm : c ≤ maxLen) :
    Calls Try.prog 19 #[.slice A n c] w (ParsedD w b) := by
  unfold maxLen at hcm
  have hbl := hr.len
  go_enter Try.func19, Try.ntmps19
  go_wp2_with fail
  go_loopw [4, 5] (fun ov kv wr => ∃ (es : List ActD) (k : Nat), kv = .int .i64 k ∧ k ≤ n ∧ es.length ≤ k ∧ PA b es (b.drop k) ∧ OwnR actK 32 w.heap.size w.heap.size 5 wr ov es ∧ Below w.heap.size w wr) (fun _ kv _ => n - (intOf kv).toNat)
  case atStart => exact ⟨[], 0, rfl, by omega, by simp, PA.nil b, OwnR.nil _, Below.refl _ _⟩
  case round =>
    obtain ⟨es, k, rfl, hk, hel, hPA, hO, hbel⟩ := hrel
    have hbz := hbel.size
    have HPA := Lib.hid hPA
    clear hPA
    by_cases hlt : k < n
    · have q0 : (k : Int) < n := by omega
      have hne := Lib.hid (show b.drop k ≠ [] by intro h; have := congrArg List.length h; simp at this; omega)
      by_cases h12 : k + 12 ≤ n
      · obtain ⟨x0, x1, g0, g1, hn6, hbad1, hbadn, hgood⟩ := doc_long (b := b) (k := k) (by omega)
        obtain ⟨nn, hnn⟩ : ∃ nn, rlen (b.drop k) = nn := ⟨_, rfl⟩
        rw [hnn] at hn6 hbadn hgood
        have hrr := hr.below hbel
        obtain ⟨ab, off, hA, hab, hcl⟩ := hrr.2 (by omega)
        subst hA
        have cx0 : wr.cell? ⟨ab, off + k, none⟩ = some (.int .u8 (x0.toNat : Int)) := hcl k x0 g0
        have cx1 : wr.cell? ⟨ab, off + (k + 1), none⟩ = some (.int .u8 (x1.toNat : Int)) := hcl (k + 1) x1 g1
        have HN6 := Lib.hid hn6
        have HB1 := Lib.hid hbad1
        have HBN := Lib.hid hbadn
        have HG := Lib.hid hgood
        have hcut := hrr.cut (k := k + 10) (m := k + 12) (cap := c) (by omega) h12 (by omega)
        rw [if_neg (by omega), show k + 12 - (k + 10) = 2 from by omega] at hcut
        have hnn2 : nn < 65536 := by
          rw [hn6]
          have h1 := getL_lt ((b.take (k + 12)).drop (k + 10))
          rw [hcut.len] at h1
          omega
        have G0 := Lib.hid g0
        have G1 := Lib.hid g1
        have hct := hrr.sub (k + 10) 2 (by omega)
        clear hnn hn6 hbad1 hbadn hgood g0 g1 hcl hcut
        have q1 : ¬ ((n : Int) - k < 12) := by omega
        by_cases hx1 : x1.toNat ≤ 1
        · have q2 : ¬ ((x1.toNat : Int) > 1) := by omega
          go_wp2_with fail
          refine (rget_short _ 2 _ ((b.take (k + 12)).drop (k + 10)) _ hct (by omega)).mono ?_
          rintro e w1 ⟨rfl, rfl⟩
          rw [← HN6.out]
          by_cases hnl : k + 12 + nn ≤ n
          · have q3 : ¬ ((nn : Int) > n - k - 12) := by omega
            obtain ⟨hread, hstep, hrest⟩ := HG.out hx1 (by omega)
            obtain ⟨L, hL⟩ : ∃ L, L = (b.take (k + 12 + nn)).drop (k + 12) := ⟨_, rfl⟩
            obtain ⟨y, hy⟩ : ∃ y, (x1 == 1) = y := ⟨_, rfl⟩
            obtain ⟨x2, hx2⟩ : ∃ x2 : Int, (getL ((b.take (k + 4)).drop (k + 2)) : Int) = x2 := ⟨_, rfl⟩
            obtain ⟨x3, hx3⟩ : ∃ x3 : Int, (getL ((b.take (k + 6)).drop (k + 4)) : Int) = x3 := ⟨_, rfl⟩
            obtain ⟨x4, hx4⟩ : ∃ x4 : Int, (getL ((b.take (k + 8)).drop (k + 6)) : Int) = x4 := ⟨_, rfl⟩
            obtain ⟨x5, hx5⟩ : ∃ x5 : Int, (getL ((b.take (k + 10)).drop (k + 8)) : Int) = x5 := ⟨_, rfl⟩
            have small : ∀ j, k + j + 2 ≤ n → (getL ((b.take (k + j + 2)).drop (k + j)) : Int) < 65536 := by
              intro j hj
              have h1 := getL_lt ((b.take (k + j + 2)).drop (k + j))
              rw [(hrr.sub (k + j) 2 hj).len] at h1
              omega
            have b2 : 0 ≤ x2 ∧ x2 < 65536 := ⟨by omega, by rw [← hx2]; exact small 2 (by omega)⟩
            have b3 : 0 ≤ x3 ∧ x3 < 65536 := ⟨by omega, by rw [← hx3]; exact small 4 (by omega)⟩
            have b4 : 0 ≤ x4 ∧ x4 < 65536 := ⟨by omega, by rw [← hx4]; exact small 6 (by omega)⟩
            have b5 : 0 ≤ x5 ∧ x5 < 65536 := ⟨by omega, by rw [← hx5]; exact small 8 (by omega)⟩
            rw [hx2, hx3, hx4, hx5, hy, ← hL] at hread
            have X2 := Lib.hid hx2
            have X3 := Lib.hid hx3
            have X4 := Lib.hid hx4
            have X5 := Lib.hid hx5
            have HY := Lib.hid (show ((x1.toNat : Int) == 1) = y by
              rw [← hy, Bool.eq_iff_iff, beq_iff_eq, beq_iff_eq, ← UInt8.toNat_inj]
              have : (1 : UInt8).toNat = 1 := rfl
              omega)
            have HREAD := Lib.hid hread
            have HSTEP := Lib.hid hstep
            have HREST := Lib.hid hrest
            have hLn : L.length = nn := by rw [hL, List.length_drop, List.length_take]; omega
            have HL := Lib.hid hL
            clear hread hstep hrest hL hy hx2 hx3 hx4 hx5 small HG HB1 HBN HN6 hct cx0 cx1
            by_cases hck : c = k + 12
            · have HCK := Lib.hid hck
              have hX9 : RdX w.heap.size 5 w (some ⟨ab, off, none⟩) nn L := by
                have h0 : nn = 0 := by omega
                have h1 : L = [] := List.eq_nil_of_length_eq_zero (by omega)
                rw [h0, h1]
                exact RdX.nil
              have hn9 : nn ≤ 0 := by omega
              have hm9 : 0 ≤ maxLen := Nat.zero_le _
              clear hck
              go_wp2_with fail
              have hRN : RdN wr [wr.heap.size] (some ⟨ab, off, none⟩) n b := RdN.old hrr (by simp)
              refine wp_flq [(fun y_ _ => y_ = .slice (some ⟨ab, off, none⟩) n c), (fun y_ _ => y_ = .int .i64 (k : Int)), (fun y_ _ => y_ = .pointer (some ⟨ab, off + k, none⟩)), (fun y_ _ => y_ = .int .u8 (x0.toNat : Int)), (fun y_ _ => y_ = .int .i64 (x0.toNat : Int)), (fun y_ _ => y_ = .slice (some ⟨ab, off, none⟩) n c), (fun y_ _ => y_ = .int .i64 (k : Int)), (fun y_ _ => y_ = .int .i64 ((k : Int) + 1)), (fun y_ _ => y_ = .pointer (some ⟨ab, off + (k + 1), none⟩)), (fun y_ _ => y_ = .int .u8 (x1.toNat : Int)), (fun y_ _ => y_ = .bool y), (fun y_ _ => y_ = .slice (some ⟨ab, off, none⟩) n c), (fun y_ _ => y_ = .int .i64 (k : Int)), (fun y_ _ => y_ = .int .i64 ((k : Int) + 2)), (fun y_ _ => y_ = .int .i64 (k : Int)), (fun y_ _ => y_ = .int .i64 ((k : Int) + 4)), (fun y_ _ => y_ = .slice (some ⟨ab, off + (k + 2), none⟩) 2 (c - (k + 2))), (fun y_ _ => y_ = .int .u64 x2), (fun y_ _ => y_ = .int .i64 x2), (fun y_ _ => y_ = .slice (some ⟨ab, off, none⟩) n c), (fun y_ _ => y_ = .int .i64 (k : Int)), (fun y_ _ => y_ = .int .i64 ((k : Int) + 4)), (fun y_ _ => y_ = .int .i64 (k : Int)), (fun y_ _ => y_ = .int .i64 ((k : Int) + 6)), (fun y_ _ => y_ = .slice (some ⟨ab, off + (k + 4), none⟩) 2 (c - (k + 4))), (fun y_ _ => y_ = .int .u64 x3), (fun y_ _ => y_ = .int .i64 x3), (fun y_ _ => y_ = .slice (some ⟨ab, off, none⟩) n c), (fun y_ _ => y_ = .int .i64 (k : Int)), (fun y_ _ => y_ = .int .i64 ((k : Int) + 6)), (fun y_ _ => y_ = .int .i64 (k : Int)), (fun y_ _ => y_ = .int .i64 ((k : Int) + 8)), (fun y_ _ => y_ = .slice (some ⟨ab, off + (k + 6), none⟩) 2 (c - (k + 6))), (fun y_ _ => y_ = .int .u64 x4), (fun y_ _ => y_ = .int .i64 x4), (fun y_ _ => y_ = .slice (some ⟨ab, off, none⟩) n c), (fun y_ _ => y_ = .int .i64 (k : Int)), (fun y_ _ => y_ = .int .i64 ((k : Int) + 8)), (fun y_ _ => y_ = .int .i64 (k : Int)), (fun y_ _ => y_ = .int .i64 ((k : Int) + 10)), (fun y_ _ => y_ = .slice (some ⟨ab, off + (k + 8), none⟩) 2 (c - (k + 8))), (fun y_ _ => y_ = .int .u64 x5), (fun y_ _ => y_ = .int .i64 x5), (fun y_ _ => y_ = .slice (some ⟨ab, off, none⟩) n c), (fun y_ _ => y_ = .int .i64 (k : Int)), (fun y_ _ => y_ = .int .i64 ((k : Int) + 12)), (fun y_ _ => y_ = .int .i64 (k : Int)), (fun y_ _ => y_ = .int .i64 ((k : Int) + 12)), (fun y_ _ => y_ = .int .i64 (nn : Int)), (fun y_ _ => y_ = .int .i64 ((((k : Int) + 12)) + (nn : Int))), (fun y_ _ => y_ = .slice (some ⟨ab, off, none⟩) nn 0), (fun y_ _ => y_ = .agg #[.int .i64 (x0.toNat : Int), .bool y, .int .i64 x2, .int .i64 x3, .int .i64 x4, .int .i64 x5, .slice (some ⟨ab, off, none⟩) nn 0]), (fun y_ _ => y_ = .pointer (some ⟨wr.heap.size, 0, none⟩)), (fun _ _ => True)] [wr.heap.size] (BoxInv wr.heap.size 32 #[.int .i64 0, .bool false, .int .i64 0, .int .i64 0, .int .i64 0, .int .i64 0, .slice none 0 0] #[.int .i64 (x0.toNat : Int), .bool y, .int .i64 x2, .int .i64 x3, .int .i64 x4, .int .i64 x5, .slice (some ⟨ab, off, none⟩) nn 0]) [52, 53] (by kernel_rfl) ⟨StabW.eq _ _, StabW.eq _ _, StabW.eq _ _, StabW.eq _ _, StabW.eq _ _, StabW.eq _ _, StabW.eq _ _, StabW.eq _ _, StabW.eq _ _, StabW.eq _ _, StabW.eq _ _, StabW.eq _ _, StabW.eq _ _, StabW.eq _ _, StabW.eq _ _, StabW.eq _ _, StabW.eq _ _, StabW.eq _ _, StabW.eq _ _, StabW.eq _ _, StabW.eq _ _, StabW.eq _ _, StabW.eq _ _, StabW.eq _ _, StabW.eq _ _, StabW.eq _ _, StabW.eq _ _, StabW.eq _ _, StabW.eq _ _, StabW.eq _ _, StabW.eq _ _, StabW.eq _ _, StabW.eq _ _, StabW.eq _ _, StabW.eq _ _, StabW.eq _ _, StabW.eq _ _, StabW.eq _ _, StabW.eq _ _, StabW.eq _ _, StabW.eq _ _, StabW.eq _ _, StabW.eq _ _, StabW.eq _ _, StabW.eq _ _, StabW.eq _ _, StabW.eq _ _, StabW.eq _ _, StabW.eq _ _, StabW.eq _ _, StabW.eq _ _, StabW.eq _ _, StabW.eq _ _, StabW.any _, trivial⟩ ((show wr.drew.heap.size = wr.heap.size from rfl)) (by kernel_rfl) (by kernel_rfl) (by kernel_rfl) (by rfl) ?_ ?_
              · intro kq hkq
                match kq, hkq with
                | 0, _ =>
                  refine StepQ.plain _ rfl rfl rfl [(0, none)] (by kernel_rfl) (fun af wf hbw hz hf Kf hKf => ?_)
                  obtain ⟨g0, _⟩ := hf
                  have h0 : af.tmps[0]?.getD undef = .slice (some ⟨ab, off, none⟩) n c := g0
                  clear g0
                  go_simp
                  exact hKf _ _ rfl rfl
                | 1, _ =>
                  refine StepQ.plain _ rfl rfl rfl [(5, none)] (by kernel_rfl) (fun af wf hbw hz hf Kf hKf => ?_)
                  obtain ⟨g5, _⟩ := hf
                  have h5 : af.tmps[5]?.getD undef = .int .i64 (k : Int) := g5
                  clear g5
                  go_simp
                  exact hKf _ _ rfl rfl
                | 2, _ =>
                  refine StepQ.plain _ rfl rfl rfl [(40, some 0), (41, some 1)] (by kernel_rfl) (fun af wf hbw hz hf Kf hKf => ?_)
                  obtain ⟨g40, g41, _⟩ := hf
                  have h40 : af.tmps[40]?.getD undef = .slice (some ⟨ab, off, none⟩) n c := g40
                  have h41 : af.tmps[41]?.getD undef = .int .i64 (k : Int) := g41
                  clear g40 g41
                  go_simp
                  exact hKf _ _ rfl rfl
                | 3, _ =>
                  refine StepQ.plain _ rfl rfl rfl [(42, some 2)] (by kernel_rfl) (fun af wf hbw hz hf Kf hKf => ?_)
                  obtain ⟨g42, _⟩ := hf
                  have h42 : af.tmps[42]?.getD undef = .pointer (some ⟨ab, off + k, none⟩) := g42
                  clear g42
                  have cx0 := Rd.cellAt (RdN.kept (RdN.drew hRN) hbw (fun _ h_ => h_)).1 G0.out
                  go_simp
                  exact hKf _ _ rfl rfl
                | 4, _ =>
                  refine StepQ.plain _ rfl rfl rfl [(43, some 3)] (by kernel_rfl) (fun af wf hbw hz hf Kf hKf => ?_)
                  obtain ⟨g43, _⟩ := hf
                  have h43 : af.tmps[43]?.getD undef = .int .u8 (x0.toNat : Int) := g43
                  clear g43
                  have hx0w : IntKind.i64.wrap (x0.toNat : Int) = (x0.toNat : Int) := IntWalk.i64_in _ (by have := x0.toNat_lt; omega)
                  go_simp
                  exact hKf _ _ rfl rfl
                | 5, _ =>
                  refine StepQ.plain _ rfl rfl rfl [(0, none)] (by kernel_rfl) (fun af wf hbw hz hf Kf hKf => ?_)
                  obtain ⟨g0, _⟩ := hf
                  have h0 : af.tmps[0]?.getD undef = .slice (some ⟨ab, off, none⟩) n c := g0
                  clear g0
                  go_simp
                  exact hKf _ _ rfl rfl
                | 6, _ =>
                  refine StepQ.plain _ rfl rfl rfl [(5, none)] (by kernel_rfl) (fun af wf hbw hz hf Kf hKf => ?_)
                  obtain ⟨g5, _⟩ := hf
                  have h5 : af.tmps[5]?.getD undef = .int .i64 (k : Int) := g5
                  clear g5
                  go_simp
                  exact hKf _ _ rfl rfl
                | 7, _ =>
                  refine StepQ.plain _ rfl rfl rfl [(46, some 6)] (by kernel_rfl) (fun af wf hbw hz hf Kf hKf => ?_)
                  obtain ⟨g46, _⟩ := hf
                  have h46 : af.tmps[46]?.getD undef = .int .i64 (k : Int) := g46
                  clear g46
                  have hwr : IntKind.i64.wrap ((k : Int) + 1) = (k : Int) + 1 := IntWalk.i64_in _ (by omega)
                  go_simp
                  exact hKf _ _ rfl rfl
                | 8, _ =>
                  refine StepQ.plain _ rfl rfl rfl [(45, some 5), (47, some 7)] (by kernel_rfl) (fun af wf hbw hz hf Kf hKf => ?_)
                  obtain ⟨g45, g47, _⟩ := hf
                  have h45 : af.tmps[45]?.getD undef = .slice (some ⟨ab, off, none⟩) n c := g45
                  have h47 : af.tmps[47]?.getD undef = .int .i64 ((k : Int) + 1) := g47
                  clear g45 g47
                  have hbd : 0 ≤ (k : Int) + 1 ∧ (k : Int) + 1 < n := by omega
                  go_simp
                  exact hKf _ _ rfl rfl
                | 9, _ =>
                  refine StepQ.plain _ rfl rfl rfl [(48, some 8)] (by kernel_rfl) (fun af wf hbw hz hf Kf hKf => ?_)
                  obtain ⟨g48, _⟩ := hf
                  have h48 : af.tmps[48]?.getD undef = .pointer (some ⟨ab, off + (k + 1), none⟩) := g48
                  clear g48
                  have cx1 := Rd.cellAt (RdN.kept (RdN.drew hRN) hbw (fun _ h_ => h_)).1 G1.out
                  go_simp
                  exact hKf _ _ rfl rfl
                | 10, _ =>
                  refine StepQ.plain _ rfl rfl rfl [(49, some 9)] (by kernel_rfl) (fun af wf hbw hz hf Kf hKf => ?_)
                  obtain ⟨g49, _⟩ := hf
                  have h49 : af.tmps[49]?.getD undef = .int .u8 (x1.toNat : Int) := g49
                  clear g49
                  have hyy := HY.out
                  go_simp
                  exact hKf _ _ rfl rfl
                | 11, _ =>
                  refine StepQ.plain _ rfl rfl rfl [(0, none)] (by kernel_rfl) (fun af wf hbw hz hf Kf hKf => ?_)
                  obtain ⟨g0, _⟩ := hf
                  have h0 : af.tmps[0]?.getD undef = .slice (some ⟨ab, off, none⟩) n c := g0
                  clear g0
                  go_simp
                  exact hKf _ _ rfl rfl
                | 12, _ =>
                  refine StepQ.plain _ rfl rfl rfl [(5, none)] (by kernel_rfl) (fun af wf hbw hz hf Kf hKf => ?_)
                  obtain ⟨g5, _⟩ := hf
                  have h5 : af.tmps[5]?.getD undef = .int .i64 (k : Int) := g5
                  clear g5
                  go_simp
                  exact hKf _ _ rfl rfl
                | 13, _ =>
                  refine StepQ.plain _ rfl rfl rfl [(52, some 12)] (by kernel_rfl) (fun af wf hbw hz hf Kf hKf => ?_)
                  obtain ⟨g52, _⟩ := hf
                  have h52 : af.tmps[52]?.getD undef = .int .i64 (k : Int) := g52
                  clear g52
                  have hwr : IntKind.i64.wrap ((k : Int) + 2) = (k : Int) + 2 := IntWalk.i64_in _ (by omega)
                  go_simp
                  exact hKf _ _ rfl rfl
                | 14, _ =>
                  refine StepQ.plain _ rfl rfl rfl [(5, none)] (by kernel_rfl) (fun af wf hbw hz hf Kf hKf => ?_)
                  obtain ⟨g5, _⟩ := hf
                  have h5 : af.tmps[5]?.getD undef = .int .i64 (k : Int) := g5
                  clear g5
                  go_simp
                  exact hKf _ _ rfl rfl
                | 15, _ =>
                  refine StepQ.plain _ rfl rfl rfl [(54, some 14)] (by kernel_rfl) (fun af wf hbw hz hf Kf hKf => ?_)
                  obtain ⟨g54, _⟩ := hf
                  have h54 : af.tmps[54]?.getD undef = .int .i64 (k : Int) := g54
                  clear g54
                  have hwr : IntKind.i64.wrap ((k : Int) + 4) = (k : Int) + 4 := IntWalk.i64_in _ (by omega)
                  go_simp
                  exact hKf _ _ rfl rfl
                | 16, _ =>
                  refine StepQ.plain _ rfl rfl rfl [(51, some 11), (53, some 13), (55, some 15)] (by kernel_rfl) (fun af wf hbw hz hf Kf hKf => ?_)
                  obtain ⟨g51, g53, g55, _⟩ := hf
                  have h51 : af.tmps[51]?.getD undef = .slice (some ⟨ab, off, none⟩) n c := g51
                  have h53 : af.tmps[53]?.getD undef = .int .i64 ((k : Int) + 2) := g53
                  have h55 : af.tmps[55]?.getD undef = .int .i64 ((k : Int) + 4) := g55
                  clear g51 g53 g55
                  have sl1 : 0 ≤ (k : Int) + 4 ∧ (k : Int) + 4 ≤ c := by omega
                  have sl2 : 0 ≤ (k : Int) + 2 ∧ (k : Int) + 2 ≤ (k : Int) + 4 := by omega
                  have sl3 : ((k : Int) + 4).toNat = k + 4 := by omega
                  have sl4 : ((k : Int) + 2).toNat = k + 2 := by omega
                  have sl5 : k + 4 - (k + 2) = 2 := by omega
                  have sl6 : ¬ c = k + 2 := by omega
                  go_simp
                  exact hKf _ _ rfl rfl
                | 17, _ =>
                  refine StepQ.plain _ rfl rfl rfl [(56, some 16)] (by kernel_rfl) (fun af wf hbw hz hf Kf hKf => ?_)
                  obtain ⟨g56, _⟩ := hf
                  have h56 : af.tmps[56]?.getD undef = .slice (some ⟨ab, off + (k + 2), none⟩) 2 (c - (k + 2)) := g56
                  clear g56
                  go_simp
                  refine (rget_short (some ⟨ab, off + (k + 2), none⟩) 2 (c - (k + 2)) ((b.take (k + 4)).drop (k + 2)) _ (Rd.sub (RdN.kept (RdN.drew hRN) hbw (fun _ h_ => h_)).1 (k + 2) 2 (by omega)) (by omega)).mono ?_
                  rintro e wN ⟨rfl, rfl⟩
                  exact hKf _ _ (rfl) (int_eq X2.out)
                | 18, _ =>
                  refine StepQ.plain _ rfl rfl rfl [(57, some 17)] (by kernel_rfl) (fun af wf hbw hz hf Kf hKf => ?_)
                  obtain ⟨g57, _⟩ := hf
                  have h57 : af.tmps[57]?.getD undef = .int .u64 x2 := g57
                  clear g57
                  have hw_ : IntKind.i64.wrap x2 = x2 := IntWalk.i64_in _ (by omega)
                  go_simp
                  exact hKf _ _ rfl rfl
                | 19, _ =>
                  refine StepQ.plain _ rfl rfl rfl [(0, none)] (by kernel_rfl) (fun af wf hbw hz hf Kf hKf => ?_)
                  obtain ⟨g0, _⟩ := hf
                  have h0 : af.tmps[0]?.getD undef = .slice (some ⟨ab, off, none⟩) n c := g0
                  clear g0
                  go_simp
                  exact hKf _ _ rfl rfl
                | 20, _ =>
                  refine StepQ.plain _ rfl rfl rfl [(5, none)] (by kernel_rfl) (fun af wf hbw hz hf Kf hKf => ?_)
                  obtain ⟨g5, _⟩ := hf
                  have h5 : af.tmps[5]?.getD undef = .int .i64 (k : Int) := g5
                  clear g5
                  go_simp
                  exact hKf _ _ rfl rfl
                | 21, _ =>
                  refine StepQ.plain _ rfl rfl rfl [(60, some 20)] (by kernel_rfl) (fun af wf hbw hz hf Kf hKf => ?_)
                  obtain ⟨g60, _⟩ := hf
                  have h60 : af.tmps[60]?.getD undef = .int .i64 (k : Int) := g60
                  clear g60
                  have hwr : IntKind.i64.wrap ((k : Int) + 4) = (k : Int) + 4 := IntWalk.i64_in _ (by omega)
                  go_simp
                  exact hKf _ _ rfl rfl
                | 22, _ =>
                  refine StepQ.plain _ rfl rfl rfl [(5, none)] (by kernel_rfl) (fun af wf hbw hz hf Kf hKf => ?_)
                  obtain ⟨g5, _⟩ := hf
                  have h5 : af.tmps[5]?.getD undef = .int .i64 (k : Int) := g5
                  clear g5
                  go_simp
                  exact hKf _ _ rfl rfl
                | 23, _ =>
                  refine StepQ.plain _ rfl rfl rfl [(62, some 22)] (by kernel_rfl) (fun af wf hbw hz hf Kf hKf => ?_)
                  obtain ⟨g62, _⟩ := hf
                  have h62 : af.tmps[62]?.getD undef = .int .i64 (k : Int) := g62
                  clear g62
                  have hwr : IntKind.i64.wrap ((k : Int) + 6) = (k : Int) + 6 := IntWalk.i64_in _ (by omega)
                  go_simp
                  exact hKf _ _ rfl rfl
                | 24, _ =>
                  refine StepQ.plain _ rfl rfl rfl [(59, some 19), (61, some 21), (63, some 23)] (by kernel_rfl) (fun af wf hbw hz hf Kf hKf => ?_)
                  obtain ⟨g59, g61, g63, _⟩ := hf
                  have h59 : af.tmps[59]?.getD undef = .slice (some ⟨ab, off, none⟩) n c := g59
                  have h61 : af.tmps[61]?.getD undef = .int .i64 ((k : Int) + 4) := g61
                  have h63 : af.tmps[63]?.getD undef = .int .i64 ((k : Int) + 6) := g63
                  clear g59 g61 g63
                  have sl1 : 0 ≤ (k : Int) + 6 ∧ (k : Int) + 6 ≤ c := by omega
                  have sl2 : 0 ≤ (k : Int) + 4 ∧ (k : Int) + 4 ≤ (k : Int) + 6 := by omega
                  have sl3 : ((k : Int) + 6).toNat = k + 6 := by omega
                  have sl4 : ((k : Int) + 4).toNat = k + 4 := by omega
                  have sl5 : k + 6 - (k + 4) = 2 := by omega
                  have sl6 : ¬ c = k + 4 := by omega
                  go_simp
                  exact hKf _ _ rfl rfl
                | 25, _ =>
                  refine StepQ.plain _ rfl rfl rfl [(64, some 24)] (by kernel_rfl) (fun af wf hbw hz hf Kf hKf => ?_)
                  obtain ⟨g64, _⟩ := hf
                  have h64 : af.tmps[64]?.getD undef = .slice (some ⟨ab, off + (k + 4), none⟩) 2 (c - (k + 4)) := g64
                  clear g64
                  go_simp
                  refine (rget_short (some ⟨ab, off + (k + 4), none⟩) 2 (c - (k + 4)) ((b.take (k + 6)).drop (k + 4)) _ (Rd.sub (RdN.kept (RdN.drew hRN) hbw (fun _ h_ => h_)).1 (k + 4) 2 (by omega)) (by omega)).mono ?_
                  rintro e wN ⟨rfl, rfl⟩
                  exact hKf _ _ (rfl) (int_eq X3.out)
                | 26, _ =>
                  refine StepQ.plain _ rfl rfl rfl [(65, some 25)] (by kernel_rfl) (fun af wf hbw hz hf Kf hKf => ?_)
                  obtain ⟨g65, _⟩ := hf
                  have h65 : af.tmps[65]?.getD undef = .int .u64 x3 := g65
                  clear g65
                  have hw_ : IntKind.i64.wrap x3 = x3 := IntWalk.i64_in _ (by omega)
                  go_simp
                  exact hKf _ _ rfl rfl
                | 27, _ =>
                  refine StepQ.plain _ rfl rfl rfl [(0, none)] (by kernel_rfl) (fun af wf hbw hz hf Kf hKf => ?_)
                  obtain ⟨g0, _⟩ := hf
                  have h0 : af.tmps[0]?.getD undef = .slice (some ⟨ab, off, none⟩) n c := g0
                  clear g0
                  go_simp
                  exact hKf _ _ rfl rfl
                | 28, _ =>
                  refine StepQ.plain _ rfl rfl rfl [(5, none)] (by kernel_rfl) (fun af wf hbw hz hf Kf hKf => ?_)
                  obtain ⟨g5, _⟩ := hf
                  have h5 : af.tmps[5]?.getD undef = .int .i64 (k : Int) := g5
                  clear g5
                  go_simp
                  exact hKf _ _ rfl rfl
                | 29, _ =>
                  refine StepQ.plain _ rfl rfl rfl [(68, some 28)] (by kernel_rfl) (fun af wf hbw hz hf Kf hKf => ?_)
                  obtain ⟨g68, _⟩ := hf
                  have h68 : af.tmps[68]?.getD undef = .int .i64 (k : Int) := g68
                  clear g68
                  have hwr : IntKind.i64.wrap ((k : Int) + 6) = (k : Int) + 6 := IntWalk.i64_in _ (by omega)
                  go_simp
                  exact hKf _ _ rfl rfl
                | 30, _ =>
                  refine StepQ.plain _ rfl rfl rfl [(5, none)] (by kernel_rfl) (fun af wf hbw hz hf Kf hKf => ?_)
                  obtain ⟨g5, _⟩ := hf
                  have h5 : af.tmps[5]?.getD undef = .int .i64 (k : Int) := g5
                  clear g5
                  go_simp
                  exact hKf _ _ rfl rfl
                | 31, _ =>
                  refine StepQ.plain _ rfl rfl rfl [(70, some 30)] (by kernel_rfl) (fun af wf hbw hz hf Kf hKf => ?_)
                  obtain ⟨g70, _⟩ := hf
                  have h70 : af.tmps[70]?.getD undef = .int .i64 (k : Int) := g70
                  clear g70
                  have hwr : IntKind.i64.wrap ((k : Int) + 8) = (k : Int) + 8 := IntWalk.i64_in _ (by omega)
                  go_simp
                  exact hKf _ _ rfl rfl
                | 32, _ =>
                  refine StepQ.plain _ rfl rfl rfl [(67, some 27), (69, some 29), (71, some 31)] (by kernel_rfl) (fun af wf hbw hz hf Kf hKf => ?_)
                  obtain ⟨g67, g69, g71, _⟩ := hf
                  have h67 : af.tmps[67]?.getD undef = .slice (some ⟨ab, off, none⟩) n c := g67
                  have h69 : af.tmps[69]?.getD undef = .int .i64 ((k : Int) + 6) := g69
                  have h71 : af.tmps[71]?.getD undef = .int .i64 ((k : Int) + 8) := g71
                  clear g67 g69 g71
                  have sl1 : 0 ≤ (k : Int) + 8 ∧ (k : Int) + 8 ≤ c := by omega
                  have sl2 : 0 ≤ (k : Int) + 6 ∧ (k : Int) + 6 ≤ (k : Int) + 8 := by omega
                  have sl3 : ((k : Int) + 8).toNat = k + 8 := by omega
                  have sl4 : ((k : Int) + 6).toNat = k + 6 := by omega
                  have sl5 : k + 8 - (k + 6) = 2 := by omega
                  have sl6 : ¬ c = k + 6 := by omega
                  go_simp
                  exact hKf _ _ rfl rfl
                | 33, _ =>
                  refine StepQ.plain _ rfl rfl rfl [(72, some 32)] (by kernel_rfl) (fun af wf hbw hz hf Kf hKf => ?_)
                  obtain ⟨g72, _⟩ := hf
                  have h72 : af.tmps[72]?.getD undef = .slice (some ⟨ab, off + (k + 6), none⟩) 2 (c - (k + 6)) := g72
                  clear g72
                  go_simp
                  refine (rget_short (some ⟨ab, off + (k + 6), none⟩) 2 (c - (k + 6)) ((b.take (k + 8)).drop (k + 6)) _ (Rd.sub (RdN.kept (RdN.drew hRN) hbw (fun _ h_ => h_)).1 (k + 6) 2 (by omega)) (by omega)).mono ?_
                  rintro e wN ⟨rfl, rfl⟩
                  exact hKf _ _ (rfl) (int_eq X4.out)
                | 34, _ =>
                  refine StepQ.plain _ rfl rfl rfl [(73, some 33)] (by kernel_rfl) (fun af wf hbw hz hf Kf hKf => ?_)
                  obtain ⟨g73, _⟩ := hf
                  have h73 : af.tmps[73]?.getD undef = .int .u64 x4 := g73
                  clear g73
                  have hw_ : IntKind.i64.wrap x4 = x4 := IntWalk.i64_in _ (by omega)
                  go_simp
                  exact hKf _ _ rfl rfl
                | 35, _ =>
                  refine StepQ.plain _ rfl rfl rfl [(0, none)] (by kernel_rfl) (fun af wf hbw hz hf Kf hKf => ?_)
                  obtain ⟨g0, _⟩ := hf
                  have h0 : af.tmps[0]?.getD undef = .slice (some ⟨ab, off, none⟩) n c := g0
                  clear g0
                  go_simp
                  exact hKf _ _ rfl rfl
                | 36, _ =>
                  refine StepQ.plain _ rfl rfl rfl [(5, none)] (by kernel_rfl) (fun af wf hbw hz hf Kf hKf => ?_)
                  obtain ⟨g5, _⟩ := hf
                  have h5 : af.tmps[5]?.getD undef = .int .i64 (k : Int) := g5
                  clear g5
                  go_simp
                  exact hKf _ _ rfl rfl
                | 37, _ =>
                  refine StepQ.plain _ rfl rfl rfl [(76, some 36)] (by kernel_rfl) (fun af wf hbw hz hf Kf hKf => ?_)
                  obtain ⟨g76, _⟩ := hf
                  have h76 : af.tmps[76]?.getD undef = .int .i64 (k : Int) := g76
                  clear g76
                  have hwr : IntKind.i64.wrap ((k : Int) + 8) = (k : Int) + 8 := IntWalk.i64_in _ (by omega)
                  go_simp
                  exact hKf _ _ rfl rfl
                | 38, _ =>
                  refine StepQ.plain _ rfl rfl rfl [(5, none)] (by kernel_rfl) (fun af wf hbw hz hf Kf hKf => ?_)
                  obtain ⟨g5, _⟩ := hf
                  have h5 : af.tmps[5]?.getD undef = .int .i64 (k : Int) := g5
                  clear g5
                  go_simp
                  exact hKf _ _ rfl rfl
                | 39, _ =>
                  refine StepQ.plain _ rfl rfl rfl [(78, some 38)] (by kernel_rfl) (fun af wf hbw hz hf Kf hKf => ?_)
                  obtain ⟨g78, _⟩ := hf
                  have h78 : af.tmps[78]?.getD undef = .int .i64 (k : Int) := g78
                  clear g78
                  have hwr : IntKind.i64.wrap ((k : Int) + 10) = (k : Int) + 10 := IntWalk.i64_in _ (by omega)
                  go_simp
                  exact hKf _ _ rfl rfl
                | 40, _ =>
                  refine StepQ.plain _ rfl rfl rfl [(75, some 35), (77, some 37), (79, some 39)] (by kernel_rfl) (fun af wf hbw hz hf Kf hKf => ?_)
                  obtain ⟨g75, g77, g79, _⟩ := hf
                  have h75 : af.tmps[75]?.getD undef = .slice (some ⟨ab, off, none⟩) n c := g75
                  have h77 : af.tmps[77]?.getD undef = .int .i64 ((k : Int) + 8) := g77
                  have h79 : af.tmps[79]?.getD undef = .int .i64 ((k : Int) + 10) := g79
                  clear g75 g77 g79
                  have sl1 : 0 ≤ (k : Int) + 10 ∧ (k : Int) + 10 ≤ c := by omega
                  have sl2 : 0 ≤ (k : Int) + 8 ∧ (k : Int) + 8 ≤ (k : Int) + 10 := by omega
                  have sl3 : ((k : Int) + 10).toNat = k + 10 := by omega
                  have sl4 : ((k : Int) + 8).toNat = k + 8 := by omega
                  have sl5 : k + 10 - (k + 8) = 2 := by omega
                  have sl6 : ¬ c = k + 8 := by omega
                  go_simp
                  exact hKf _ _ rfl rfl
                | 41, _ =>
                  refine StepQ.plain _ rfl rfl rfl [(80, some 40)] (by kernel_rfl) (fun af wf hbw hz hf Kf hKf => ?_)
                  obtain ⟨g80, _⟩ := hf
                  have h80 : af.tmps[80]?.getD undef = .slice (some ⟨ab, off + (k + 8), none⟩) 2 (c - (k + 8)) := g80
                  clear g80
                  go_simp
                  refine (rget_short (some ⟨ab, off + (k + 8), none⟩) 2 (c - (k + 8)) ((b.take (k + 10)).drop (k + 8)) _ (Rd.sub (RdN.kept (RdN.drew hRN) hbw (fun _ h_ => h_)).1 (k + 8) 2 (by omega)) (by omega)).mono ?_
                  rintro e wN ⟨rfl, rfl⟩
                  exact hKf _ _ (rfl) (int_eq X5.out)
                | 42, _ =>
                  refine StepQ.plain _ rfl rfl rfl [(81, some 41)] (by kernel_rfl) (fun af wf hbw hz hf Kf hKf => ?_)
                  obtain ⟨g81, _⟩ := hf
                  have h81 : af.tmps[81]?.getD undef = .int .u64 x5 := g81
                  clear g81
                  have hw_ : IntKind.i64.wrap x5 = x5 := IntWalk.i64_in _ (by omega)
                  go_simp
                  exact hKf _ _ rfl rfl
                | 43, _ =>
                  refine StepQ.plain _ rfl rfl rfl [(0, none)] (by kernel_rfl) (fun af wf hbw hz hf Kf hKf => ?_)
                  obtain ⟨g0, _⟩ := hf
                  have h0 : af.tmps[0]?.getD undef = .slice (some ⟨ab, off, none⟩) n c := g0
                  clear g0
                  go_simp
                  exact hKf _ _ rfl rfl
                | 44, _ =>
                  refine StepQ.plain _ rfl rfl rfl [(5, none)] (by kernel_rfl) (fun af wf hbw hz hf Kf hKf => ?_)
                  obtain ⟨g5, _⟩ := hf
                  have h5 : af.tmps[5]?.getD undef = .int .i64 (k : Int) := g5
                  clear g5
                  go_simp
                  exact hKf _ _ rfl rfl
                | 45, _ =>
                  refine StepQ.plain _ rfl rfl rfl [(84, some 44)] (by kernel_rfl) (fun af wf hbw hz hf Kf hKf => ?_)
                  obtain ⟨g84, _⟩ := hf
                  have h84 : af.tmps[84]?.getD undef = .int .i64 (k : Int) := g84
                  clear g84
                  have hwr : IntKind.i64.wrap ((k : Int) + 12) = (k : Int) + 12 := IntWalk.i64_in _ (by omega)
                  go_simp
                  exact hKf _ _ rfl rfl
                | 46, _ =>
                  refine StepQ.plain _ rfl rfl rfl [(5, none)] (by kernel_rfl) (fun af wf hbw hz hf Kf hKf => ?_)
                  obtain ⟨g5, _⟩ := hf
                  have h5 : af.tmps[5]?.getD undef = .int .i64 (k : Int) := g5
                  clear g5
                  go_simp
                  exact hKf _ _ rfl rfl
                | 47, _ =>
                  refine StepQ.plain _ rfl rfl rfl [(86, some 46)] (by kernel_rfl) (fun af wf hbw hz hf Kf hKf => ?_)
                  obtain ⟨g86, _⟩ := hf
                  have h86 : af.tmps[86]?.getD undef = .int .i64 (k : Int) := g86
                  clear g86
                  have hwr : IntKind.i64.wrap ((k : Int) + 12) = (k : Int) + 12 := IntWalk.i64_in _ (by omega)
                  go_simp
                  exact hKf _ _ rfl rfl
                | 48, _ =>
                  refine StepQ.plain _ rfl rfl rfl [(6, none)] (by kernel_rfl) (fun af wf hbw hz hf Kf hKf => ?_)
                  obtain ⟨g6, _⟩ := hf
                  have h6 : af.tmps[6]?.getD undef = .int .i64 (nn : Int) := g6
                  clear g6
                  go_simp
                  exact hKf _ _ rfl rfl
                | 49, _ =>
                  refine StepQ.plain _ rfl rfl rfl [(87, some 47), (88, some 48)] (by kernel_rfl) (fun af wf hbw hz hf Kf hKf => ?_)
                  obtain ⟨g87, g88, _⟩ := hf
                  have h87 : af.tmps[87]?.getD undef = .int .i64 ((k : Int) + 12) := g87
                  have h88 : af.tmps[88]?.getD undef = .int .i64 (nn : Int) := g88
                  clear g87 g88
                  have hwr : IntKind.i64.wrap ((((k : Int) + 12)) + (nn : Int)) = (((k : Int) + 12)) + (nn : Int) := IntWalk.i64_in _ (by omega)
                  go_simp
                  exact hKf _ _ rfl rfl
                | 50, _ =>
                  refine StepQ.plain _ rfl rfl rfl [(83, some 43), (85, some 45), (89, some 49)] (by kernel_rfl) (fun af wf hbw hz hf Kf hKf => ?_)
                  obtain ⟨g83, g85, g89, _⟩ := hf
                  have h83 : af.tmps[83]?.getD undef = .slice (some ⟨ab, off, none⟩) n c := g83
                  have h85 : af.tmps[85]?.getD undef = .int .i64 ((k : Int) + 12) := g85
                  have h89 : af.tmps[89]?.getD undef = .int .i64 ((((k : Int) + 12)) + (nn : Int)) := g89
                  clear g83 g85 g89
                  have sl1 : 0 ≤ (k : Int) + 12 + (nn : Int) ∧ (k : Int) + 12 + (nn : Int) ≤ c := by omega
                  have sl2 : 0 ≤ (k : Int) + 12 ∧ (k : Int) + 12 ≤ (k : Int) + 12 + (nn : Int) := by omega
                  have sl3 : ((k : Int) + 12 + (nn : Int)).toNat = k + 12 + nn := by omega
                  have sl4 : ((k : Int) + 12).toNat = k + 12 := by omega
                  have sl5 : k + 12 + nn - (k + 12) = nn := by omega
                  have hck := HCK.out
                  have sl7 : (k : Int) + 12 + nn ≤ k + 12 := by omega
                  go_simp
                  exact hKf _ _ rfl rfl
                | 51, _ =>
                  refine StepQ.plain _ rfl rfl rfl [(44, some 4), (50, some 10), (58, some 18), (66, some 26), (74, some 34), (82, some 42), (90, some 50)] (by kernel_rfl) (fun af wf hbw hz hf Kf hKf => ?_)
                  obtain ⟨g44, g50, g58, g66, g74, g82, g90, _⟩ := hf
                  have h44 : af.tmps[44]?.getD undef = .int .i64 (x0.toNat : Int) := g44
                  have h50 : af.tmps[50]?.getD undef = .bool y := g50
                  have h58 : af.tmps[58]?.getD undef = .int .i64 x2 := g58
                  have h66 : af.tmps[66]?.getD undef = .int .i64 x3 := g66
                  have h74 : af.tmps[74]?.getD undef = .int .i64 x4 := g74
                  have h82 : af.tmps[82]?.getD undef = .int .i64 x5 := g82
                  have h90 : af.tmps[90]?.getD undef = .slice (some ⟨ab, off, none⟩) nn 0 := g90
                  clear g44 g50 g58 g66 g74 g82 g90
                  go_simp
                  exact hKf _ _ rfl rfl
                | 52, _ =>
                  refine StepQ.chain 0 _ rfl rfl rfl (by decide) [] (by kernel_rfl) (fun af wf hbw hiv hf Kf hKf => ?_)
                  obtain ⟨uv, hiv, hlast⟩ := hiv
                  have hs9 : wf.heap.size = wr.heap.size := hiv
                  go_simp
                  exact hKf _ _ (((Kept.refl _ _).alloc _)) (⟨rfl, by rw [← hs9]; exact Blk.new _ _ _⟩) (rfl)
                | 53, _ =>
                  refine StepQ.chain 1 _ rfl rfl rfl (by decide) [(7, some 52), (91, some 51)] (by kernel_rfl) (fun af wf hbw hiv hf Kf hKf => ?_)
                  obtain ⟨uv, hiv, hlast⟩ := hiv
                  have h7 : af.tmps[7]?.getD undef = uv := hlast 0 52 7 rfl rfl rfl
                  obtain ⟨g7, g91, _⟩ := hf
                  have h7 : af.tmps[7]?.getD undef = .pointer (some ⟨wr.heap.size, 0, none⟩) := g7
                  have h91 : af.tmps[91]?.getD undef = .agg #[.int .i64 (x0.toNat : Int), .bool y, .int .i64 x2, .int .i64 x3, .int .i64 x4, .int .i64 x5, .slice (some ⟨ab, off, none⟩) nn 0] := g91
                  clear g7 g91
                  obtain ⟨rfl, hB9⟩ := hiv
                  have cB9 := hB9.cell
                  have fB9 := hB9.frozen
                  go_simp
                  exact hKf undef _ ((Kept.fill7 _ _ _ _ _ _ _)) ((hB9.fill7 (.int .i64 (x0.toNat : Int)) (.bool y) (.int .i64 x2) (.int .i64 x3) (.int .i64 x4) (.int .i64 x5) (.slice (some ⟨ab, off, none⟩) nn 0))) (trivial)
                | i + 54, h => exact absurd h (by show ¬ (i + 54 < 54); omega)
              · intro af wF hbF hiF hdF hsF hbaseF hfactF
                obtain ⟨T, dsF⟩ := af
                obtain rfl : dsF = _ := hdF
                have e0 := hbaseF 0 (not_dst (by kernel_rfl))
                simp only [List.getElem?_toArray, List.getElem?_cons_zero, Option.getD_some] at e0
                have e1 := hbaseF 1 (not_dst (by kernel_rfl))
                simp only [List.getElem?_toArray, List.getElem?_cons_zero, List.getElem?_cons_succ, Option.getD_some] at e1
                have e2 := hbaseF 2 (not_dst (by kernel_rfl))
                simp only [List.getElem?_toArray, List.getElem?_cons_zero, List.getElem?_cons_succ, Option.getD_some] at e2
                have e3 := hbaseF 3 (not_dst (by kernel_rfl))
                simp only [List.getElem?_toArray, List.getElem?_cons_zero, List.getElem?_cons_succ, Option.getD_some] at e3
                have e4 := hbaseF 4 (not_dst (by kernel_rfl))
                simp only [List.getElem?_toArray, List.getElem?_cons_zero, List.getElem?_cons_succ, Option.getD_some] at e4
                have e5 := hbaseF 5 (not_dst (by kernel_rfl))
                simp only [List.getElem?_toArray, List.getElem?_cons_zero, List.getElem?_cons_succ, Option.getD_some] at e5
                have e6 := hbaseF 6 (not_dst (by kernel_rfl))
                simp only [List.getElem?_toArray, List.getElem?_cons_zero, List.getElem?_cons_succ, Option.getD_some] at e6
                have e8 := hbaseF 8 (not_dst (by kernel_rfl))
                simp only [List.getElem?_toArray, List.getElem?_cons_zero, List.getElem?_cons_succ, Option.getD_some] at e8
                have e9 := hbaseF 9 (not_dst (by kernel_rfl))
                simp only [List.getElem?_toArray, List.getElem?_cons_zero, List.getElem?_cons_succ, Option.getD_some] at e9
                have e10 := hbaseF 10 (not_dst (by kernel_rfl))
                simp only [List.getElem?_toArray, List.getElem?_cons_zero, List.getElem?_cons_succ, Option.getD_some] at e10
                have e11 := hbaseF 11 (not_dst (by kernel_rfl))
                simp only [List.getElem?_toArray, List.getElem?_cons_zero, List.getElem?_cons_succ, Option.getD_some] at e11
                have e12 := hbaseF 12 (not_dst (by kernel_rfl))
                simp only [List.getElem?_toArray, List.getElem?_cons_zero, List.getElem?_cons_succ, Option.getD_some] at e12
                have e13 := hbaseF 13 (not_dst (by kernel_rfl))
                simp only [List.getElem?_toArray, List.getElem?_cons_zero, List.getElem?_cons_succ, Option.getD_some] at e13
                have e14 := hbaseF 14 (not_dst (by kernel_rfl))
                simp only [List.getElem?_toArray, List.getElem?_cons_zero, List.getElem?_cons_succ, Option.getD_some] at e14
                have e15 := hbaseF 15 (not_dst (by kernel_rfl))
                simp only [List.getElem?_toArray, List.getElem?_cons_zero, List.getElem?_cons_succ, Option.getD_some] at e15
                have e16 := hbaseF 16 (not_dst (by kernel_rfl))
                simp only [List.getElem?_toArray, List.getElem?_cons_zero, List.getElem?_cons_succ, Option.getD_some] at e16
                have e17 := hbaseF 17 (not_dst (by kernel_rfl))
                simp only [List.getElem?_toArray, List.getElem?_cons_zero, List.getElem?_cons_succ, Option.getD_some] at e17
                have e18 := hbaseF 18 (not_dst (by kernel_rfl))
                simp only [List.getElem?_toArray, List.getElem?_cons_zero, List.getElem?_cons_succ, Option.getD_some] at e18
                have e19 := hbaseF 19 (not_dst (by kernel_rfl))
                simp only [List.getElem?_toArray, List.getElem?_cons_zero, List.getElem?_cons_succ, Option.getD_some] at e19
                have e20 := hbaseF 20 (not_dst (by kernel_rfl))
                simp only [List.getElem?_toArray, List.getElem?_cons_zero, List.getElem?_cons_succ, Option.getD_some] at e20
                have e21 := hbaseF 21 (not_dst (by kernel_rfl))
                simp only [List.getElem?_toArray, List.getElem?_cons_zero, List.getElem?_cons_succ, Option.getD_some] at e21
                have e22 := hbaseF 22 (not_dst (by kernel_rfl))
                simp only [List.getElem?_toArray, List.getElem?_cons_zero, List.getElem?_cons_succ, Option.getD_some] at e22
                have e23 := hbaseF 23 (not_dst (by kernel_rfl))
                simp only [List.getElem?_toArray, List.getElem?_cons_zero, List.getElem?_cons_succ, Option.getD_some] at e23
                have e24 := hbaseF 24 (not_dst (by kernel_rfl))
                simp only [List.getElem?_toArray, List.getElem?_cons_zero, List.getElem?_cons_succ, Option.getD_some] at e24
                have e25 := hbaseF 25 (not_dst (by kernel_rfl))
                simp only [List.getElem?_toArray, List.getElem?_cons_zero, List.getElem?_cons_succ, Option.getD_some] at e25
                have e26 := hbaseF 26 (not_dst (by kernel_rfl))
                simp only [List.getElem?_toArray, List.getElem?_cons_zero, List.getElem?_cons_succ, Option.getD_some] at e26
                have e27 := hbaseF 27 (not_dst (by kernel_rfl))
                simp only [List.getElem?_toArray, List.getElem?_cons_zero, List.getElem?_cons_succ, Option.getD_some] at e27
                have e28 := hbaseF 28 (not_dst (by kernel_rfl))
                simp only [List.getElem?_toArray, List.getElem?_cons_zero, List.getElem?_cons_succ, Option.getD_some] at e28
                have e29 := hbaseF 29 (not_dst (by kernel_rfl))
                simp only [List.getElem?_toArray, List.getElem?_cons_zero, List.getElem?_cons_succ, Option.getD_some] at e29
                have e30 := hbaseF 30 (not_dst (by kernel_rfl))
                simp only [List.getElem?_toArray, List.getElem?_cons_zero, List.getElem?_cons_succ, Option.getD_some] at e30
                have e31 := hbaseF 31 (not_dst (by kernel_rfl))
                simp only [List.getElem?_toArray, List.getElem?_cons_zero, List.getElem?_cons_succ, Option.getD_some] at e31
                have e32 := hbaseF 32 (not_dst (by kernel_rfl))
                simp only [List.getElem?_toArray, List.getElem?_cons_zero, List.getElem?_cons_succ, Option.getD_some] at e32
                have e33 := hbaseF 33 (not_dst (by kernel_rfl))
                simp only [List.getElem?_toArray, List.getElem?_cons_zero, List.getElem?_cons_succ, Option.getD_some] at e33
                have e34 := hbaseF 34 (not_dst (by kernel_rfl))
                simp only [List.getElem?_toArray, List.getElem?_cons_zero, List.getElem?_cons_succ, Option.getD_some] at e34
                have e35 := hbaseF 35 (not_dst (by kernel_rfl))
                simp only [List.getElem?_toArray, List.getElem?_cons_zero, List.getElem?_cons_succ, Option.getD_some] at e35
                have e36 := hbaseF 36 (not_dst (by kernel_rfl))
                simp only [List.getElem?_toArray, List.getElem?_cons_zero, List.getElem?_cons_succ, Option.getD_some] at e36
                have e37 := hbaseF 37 (not_dst (by kernel_rfl))
                simp only [List.getElem?_toArray, List.getElem?_cons_zero, List.getElem?_cons_succ, Option.getD_some] at e37
                have e38 := hbaseF 38 (not_dst (by kernel_rfl))
                simp only [List.getElem?_toArray, List.getElem?_cons_zero, List.getElem?_cons_succ, Option.getD_some] at e38
                have e39 := hbaseF 39 (not_dst (by kernel_rfl))
                simp only [List.getElem?_toArray, List.getElem?_cons_zero, List.getElem?_cons_succ, Option.getD_some] at e39
                have e92 := hbaseF 92 (not_dst (by kernel_rfl))
                simp only [List.getElem?_toArray, List.getElem?_cons_zero, List.getElem?_cons_succ, Option.getD_some] at e92
                have e93 := hbaseF 93 (not_dst (by kernel_rfl))
                simp only [List.getElem?_toArray, List.getElem?_cons_zero, List.getElem?_cons_succ, Option.getD_some] at e93
                have e94 := hbaseF 94 (not_dst (by kernel_rfl))
                simp only [List.getElem?_toArray, List.getElem?_cons_zero, List.getElem?_cons_succ, Option.getD_some] at e94
                have e95 := hbaseF 95 (not_dst (by kernel_rfl))
                simp only [List.getElem?_toArray, List.getElem?_cons_zero, List.getElem?_cons_succ, Option.getD_some] at e95
                have e96 := hbaseF 96 (not_dst (by kernel_rfl))
                simp only [List.getElem?_toArray, List.getElem?_cons_zero, List.getElem?_cons_succ, Option.getD_some] at e96
                have e97 := hbaseF 97 (not_dst (by kernel_rfl))
                simp only [List.getElem?_toArray, List.getElem?_cons_zero, List.getElem?_cons_succ, Option.getD_some] at e97
                have e98 := hbaseF 98 (not_dst (by kernel_rfl))
                simp only [List.getElem?_toArray, List.getElem?_cons_zero, List.getElem?_cons_succ, Option.getD_some] at e98
                have e99 := hbaseF 99 (not_dst (by kernel_rfl))
                simp only [List.getElem?_toArray, List.getElem?_cons_zero, List.getElem?_cons_succ, Option.getD_some] at e99
                have e100 := hbaseF 100 (not_dst (by kernel_rfl))
                simp only [List.getElem?_toArray, List.getElem?_cons_zero, List.getElem?_cons_succ, Option.getD_some] at e100
                have e101 := hbaseF 101 (not_dst (by kernel_rfl))
                simp only [List.getElem?_toArray, List.getElem?_cons_zero, List.getElem?_cons_succ, Option.getD_some] at e101
                have e102 := hbaseF 102 (not_dst (by kernel_rfl))
                simp only [List.getElem?_toArray, List.getElem?_cons_zero, List.getElem?_cons_succ, Option.getD_some] at e102
                have e103 := hbaseF 103 (not_dst (by kernel_rfl))
                simp only [List.getElem?_toArray, List.getElem?_cons_zero, List.getElem?_cons_succ, Option.getD_some] at e103
                have e7 := hfactF 52 7 (by decide) rfl
                replace e7 : T[7]?.getD undef = .pointer (some ⟨wr.heap.size, 0, none⟩) := e7
                clear hbaseF hfactF
                have hT : T = #[T[0]?.getD undef, T[1]?.getD undef, T[2]?.getD undef, T[3]?.getD undef, T[4]?.getD undef, T[5]?.getD undef, T[6]?.getD undef, T[7]?.getD undef, T[8]?.getD undef, T[9]?.getD undef, T[10]?.getD undef, T[11]?.getD undef, T[12]?.getD undef, T[13]?.getD undef, T[14]?.getD undef, T[15]?.getD undef, T[16]?.getD undef, T[17]?.getD undef, T[18]?.getD undef, T[19]?.getD undef, T[20]?.getD undef, T[21]?.getD undef, T[22]?.getD undef, T[23]?.getD undef, T[24]?.getD undef, T[25]?.getD undef, T[26]?.getD undef, T[27]?.getD undef, T[28]?.getD undef, T[29]?.getD undef, T[30]?.getD undef, T[31]?.getD undef, T[32]?.getD undef, T[33]?.getD undef, T[34]?.getD undef, T[35]?.getD undef, T[36]?.getD undef, T[37]?.getD undef, T[38]?.getD undef, T[39]?.getD undef, T[40]?.getD undef, T[41]?.getD undef, T[42]?.getD undef, T[43]?.getD undef, T[44]?.getD undef, T[45]?.getD undef, T[46]?.getD undef, T[47]?.getD undef, T[48]?.getD undef, T[49]?.getD undef, T[50]?.getD undef, T[51]?.getD undef, T[52]?.getD undef, T[53]?.getD undef, T[54]?.getD undef, T[55]?.getD undef, T[56]?.getD undef, T[57]?.getD undef, T[58]?.getD undef, T[59]?.getD undef, T[60]?.getD undef, T[61]?.getD undef, T[62]?.getD undef, T[63]?.getD undef, T[64]?.getD undef, T[65]?.getD undef, T[66]?.getD undef, T[67]?.getD undef, T[68]?.getD undef, T[69]?.getD undef, T[70]?.getD undef, T[71]?.getD undef, T[72]?.getD undef, T[73]?.getD undef, T[74]?.getD undef, T[75]?.getD undef, T[76]?.getD undef, T[77]?.getD undef, T[78]?.getD undef, T[79]?.getD undef, T[80]?.getD undef, T[81]?.getD undef, T[82]?.getD undef, T[83]?.getD undef, T[84]?.getD undef, T[85]?.getD undef, T[86]?.getD undef, T[87]?.getD undef, T[88]?.getD undef, T[89]?.getD undef, T[90]?.getD undef, T[91]?.getD undef, T[92]?.getD undef, T[93]?.getD undef, T[94]?.getD undef, T[95]?.getD undef, T[96]?.getD undef, T[97]?.getD undef, T[98]?.getD undef, T[99]?.getD undef, T[100]?.getD undef, T[101]?.getD undef, T[102]?.getD undef, T[103]?.getD undef] := arr_eq T 104 hsF
                clear hsF
                rw [e0] at hT; clear e0
                rw [e1] at hT; clear e1
                rw [e2] at hT; clear e2
                rw [e3] at hT; clear e3
                rw [e4] at hT; clear e4
                rw [e5] at hT; clear e5
                rw [e6] at hT; clear e6
                rw [e7] at hT; clear e7
                rw [e8] at hT; clear e8
                rw [e9] at hT; clear e9
                rw [e10] at hT; clear e10
                rw [e11] at hT; clear e11
                rw [e12] at hT; clear e12
                rw [e13] at hT; clear e13
                rw [e14] at hT; clear e14
                rw [e15] at hT; clear e15
                rw [e16] at hT; clear e16
                rw [e17] at hT; clear e17
                rw [e18] at hT; clear e18
                rw [e19] at hT; clear e19
                rw [e20] at hT; clear e20
                rw [e21] at hT; clear e21
                rw [e22] at hT; clear e22
                rw [e23] at hT; clear e23
                rw [e24] at hT; clear e24
                rw [e25] at hT; clear e25
                rw [e26] at hT; clear e26
                rw [e27] at hT; clear e27
                rw [e28] at hT; clear e28
                rw [e29] at hT; clear e29
                rw [e30] at hT; clear e30
                rw [e31] at hT; clear e31
                rw [e32] at hT; clear e32
                rw [e33] at hT; clear e33
                rw [e34] at hT; clear e34
                rw [e35] at hT; clear e35
                rw [e36] at hT; clear e36
                rw [e37] at hT; clear e37
                rw [e38] at hT; clear e38
                rw [e39] at hT; clear e39
                generalize T[40]?.getD undef = u40 at hT
                generalize T[41]?.getD undef = u41 at hT
                generalize T[42]?.getD undef = u42 at hT
                generalize T[43]?.getD undef = u43 at hT
                generalize T[44]?.getD undef = u44 at hT
                generalize T[45]?.getD undef = u45 at hT
                generalize T[46]?.getD undef = u46 at hT
                generalize T[47]?.getD undef = u47 at hT
                generalize T[48]?.getD undef = u48 at hT
                generalize T[49]?.getD undef = u49 at hT
                generalize T[50]?.getD undef = u50 at hT
                generalize T[51]?.getD undef = u51 at hT
                generalize T[52]?.getD undef = u52 at hT
                generalize T[53]?.getD undef = u53 at hT
                generalize T[54]?.getD undef = u54 at hT
                generalize T[55]?.getD undef = u55 at hT
                generalize T[56]?.getD undef = u56 at hT
                generalize T[57]?.getD undef = u57 at hT
                generalize T[58]?.getD undef = u58 at hT
                generalize T[59]?.getD undef = u59 at hT
                generalize T[60]?.getD undef = u60 at hT
                generalize T[61]?.getD undef = u61 at hT
                generalize T[62]?.getD undef = u62 at hT
                generalize T[63]?.getD undef = u63 at hT
                generalize T[64]?.getD undef = u64 at hT
                generalize T[65]?.getD undef = u65 at hT
                generalize T[66]?.getD undef = u66 at hT
                generalize T[67]?.getD undef = u67 at hT
                generalize T[68]?.getD undef = u68 at hT
                generalize T[69]?.getD undef = u69 at hT
                generalize T[70]?.getD undef = u70 at hT
                generalize T[71]?.getD undef = u71 at hT
                generalize T[72]?.getD undef = u72 at hT
                generalize T[73]?.getD undef = u73 at hT
                generalize T[74]?.getD undef = u74 at hT
                generalize T[75]?.getD undef = u75 at hT
                generalize T[76]?.getD undef = u76 at hT
                generalize T[77]?.getD undef = u77 at hT
                generalize T[78]?.getD undef = u78 at hT
                generalize T[79]?.getD undef = u79 at hT
                generalize T[80]?.getD undef = u80 at hT
                generalize T[81]?.getD undef = u81 at hT
                generalize T[82]?.getD undef = u82 at hT
                generalize T[83]?.getD undef = u83 at hT
                generalize T[84]?.getD undef = u84 at hT
                generalize T[85]?.getD undef = u85 at hT
                generalize T[86]?.getD undef = u86 at hT
                generalize T[87]?.getD undef = u87 at hT
                generalize T[88]?.getD undef = u88 at hT
                generalize T[89]?.getD undef = u89 at hT
                generalize T[90]?.getD undef = u90 at hT
                generalize T[91]?.getD undef = u91 at hT
                rw [e92] at hT; clear e92
                rw [e93] at hT; clear e93
                rw [e94] at hT; clear e94
                rw [e95] at hT; clear e95
                rw [e96] at hT; clear e96
                rw [e97] at hT; clear e97
                rw [e98] at hT; clear e98
                rw [e99] at hT; clear e99
                rw [e100] at hT; clear e100
                rw [e101] at hT; clear e101
                rw [e102] at hT; clear e102
                rw [e103] at hT; clear e103
                subst hT
                obtain ⟨_, hBF0⟩ := hiF
                have hBF : Blk wF wr.heap.size 32 #[.int .i64 (x0.toNat : Int), .bool y, .int .i64 x2, .int .i64 x3, .int .i64 x4, .int .i64 x5, .slice (some ⟨ab, off, none⟩) nn 0] := hBF0
                have bF : Below wr.heap.size wr wF := hbF.below (Nat.le_refl _) (by simp)
                have cBF := hBF.cell
                have hzF := bF.size
                clear hBF0 hbF hRN HY X2 X3 X4 X5 HCK
                go_wp2_with fail
                refine (rmay_any (x0.toNat : Int) y x2 x3 x4 x5 (some ⟨ab, off, none⟩) nn 0 L _ hLn).mono ?_
                rintro e w5 ⟨rfl, hb5⟩
                have b5 : Below wr.heap.size wr w5 := (by (have q_hb5 := Below.size hb5; (try simp at q_hb5); have q_bF := Below.size bF; (try simp at q_bF); repeat (first | exact Below.refl _ _ | (refine Below.trans ?_ (Below.mono hb5 (by first | omega | (simp; omega) | simp))) | (refine Below.trans ?_ (Below.mono bF (by first | omega | (simp; omega) | simp))) | (refine Below.setCell ?_ (by first | omega | (simp; omega) | simp) _) | (refine Below.alloc ?_ (by first | omega | (simp; omega) | simp) _) | apply Below.drew | apply below_drewN)))
                have hz5 := b5.size
                have hB5 := hBF.on hb5
                have cB5 := hB5.cell
                clear cBF hBF hb5 bF
                obtain ⟨M, hM⟩ : ∃ M, mayA (((x0.toNat : Int), y, x2, x3, x4, x5), L) = M := ⟨_, rfl⟩
                rw [hM]
                cases M with
                | false =>
                  have hS := Lib.hid (show stepOK (b.drop k) = false by rw [HSTEP.out, HREAD.out]; exact hM)
                  clear hM
                  go_wp2_with fail
                  go_ret2
                  exact ⟨.inr ⟨es, _, HPA.out, hne.out, hS.out, rfl⟩, (by (have q_b5 := Below.size b5; (try simp at q_b5); have q_hbel := Below.size hbel; (try simp at q_hbel); repeat (first | exact Below.refl _ _ | (refine Below.trans ?_ (Below.mono b5 (by first | omega | (simp; omega) | simp))) | (refine Below.trans ?_ (Below.mono hbel (by first | omega | (simp; omega) | simp))) | (refine Below.setCell ?_ (by first | omega | (simp; omega) | simp) _) | (refine Below.alloc ?_ (by first | omega | (simp; omega) | simp) _) | apply Below.drew | apply below_drewN)))⟩
                | true =>
                  have HPA2 := Lib.hid (show PA b (es ++ [(((x0.toNat : Int), y, x2, x3, x4, x5), L)]) (b.drop (k + 12 + nn)) by
                    have h_ := PA.more HPA.out (show stepOK (b.drop k) = true by rw [HSTEP.out, HREAD.out]; exact hM)
                    rw [HREAD.out, HREST.out] at h_
                    exact h_)
                  obtain ⟨hs, hFr, hAll⟩ := hO.below b5
                  have hsl : hs.length = es.length := hAll.1
                  have hA2 := hAll.below ((Below.refl _ w5).alloc (Nat.le_refl _) (.cells #[.int .i64 (x0.toNat : Int), .bool y, .int .i64 x2, .int .i64 x3, .int .i64 x4, .int .i64 x5, .slice (some ⟨ab, off, none⟩) nn 0] 32))
                  have hF2 := hFr.alloc (.cells #[.int .i64 (x0.toNat : Int), .bool y, .int .i64 x2, .int .i64 x3, .int .i64 x4, .int .i64 x5, .slice (some ⟨ab, off, none⟩) nn 0] 32)
                  have HI2 := Lib.hid (show RItem actK w.heap.size 5 (w5.alloc (.cells #[.int .i64 (x0.toNat : Int), .bool y, .int .i64 x2, .int .i64 x3, .int .i64 x4, .int .i64 x5, .slice (some ⟨ab, off, none⟩) nn 0] 32)) (((x0.toNat : Int), y, x2, x3, x4, x5), (some ⟨ab, off, none⟩, nn, 0)) (((x0.toNat : Int), y, x2, x3, x4, x5), L) from ⟨rfl, ((hX9.below hbel).below b5).below ((Below.refl _ w5).alloc (Nat.le_refl _) _), hn9, hm9⟩)
                  have hRb : RdG actE (w5.alloc (.cells #[.int .i64 (x0.toNat : Int), .bool y, .int .i64 x2, .int .i64 x3, .int .i64 x4, .int .i64 x5, .slice (some ⟨ab, off, none⟩) nn 0] 32)) (some ⟨w5.heap.size, 0, none⟩) 1 [(((x0.toNat : Int), y, x2, x3, x4, x5), (some ⟨ab, off, none⟩, nn, 0))] := RdG.boxed _ _ _ _ rfl
                  clear hM HPA HREAD HSTEP HREST hX9 HL
                  go_wp2_with (at_builtin; refine wpList_append_G (E := actE) _ rfl (.tmp 95) (.tmp 97) _ rfl w.heap.size 32 Try.underlying22 infoRA rfl u4 hs rfl hF2 (some ⟨w5.heap.size, 0, none⟩) 1 1 [(((x0.toNat : Int), y, x2, x3, x4, x5), (some ⟨ab, off, none⟩, nn, 0))] rfl hRb (by omega) (by omega) (by simp; omega) ?_; intro b' w6 hF3 hg3 hb3)
                  have hO3 : OwnR actK 32 w.heap.size w.heap.size 5 w6 b' (es ++ [(((x0.toNat : Int), y, x2, x3, x4, x5), L)]) := by
                    obtain ⟨A4, c4', e4, hown4⟩ := id hF2
                    exact ⟨_, hF3, hA2.more HI2.out hown4 (Nat.le_refl _) (by decide) hg3⟩
                  have b6 : Below w.heap.size w w6 := (show Below w.heap.size w (w5.alloc (.cells #[.int .i64 (x0.toNat : Int), .bool y, .int .i64 x2, .int .i64 x3, .int .i64 x4, .int .i64 x5, .slice (some ⟨ab, off, none⟩) nn 0] 32)) from (by (have q_b5 := Below.size b5; (try simp at q_b5); have q_hbel := Below.size hbel; (try simp at q_hbel); repeat (first | exact Below.refl _ _ | (refine Below.trans ?_ (Below.mono b5 (by first | omega | (simp; omega) | simp))) | (refine Below.trans ?_ (Below.mono hbel (by first | omega | (simp; omega) | simp))) | (refine Below.setCell ?_ (by first | omega | (simp; omega) | simp) _) | (refine Below.alloc ?_ (by first | omega | (simp; omega) | simp) _) | apply Below.drew | apply below_drewN)))).trans hb3
                  go_roundw
                  case rel => exact ⟨es ++ [(((x0.toNat : Int), y, x2, x3, x4, x5), L)], k + 12 + nn, by go_num, by omega, by simp; omega, HPA2.out, hO3, b6⟩
                  case measure => simp [intOf]; omega
            · have HCK := Lib.hid hck
              have hX9 : RdX w.heap.size 5 w (some ⟨ab, off + (k + 12), none⟩) nn L := by
                rw [HL.out]
                exact RdX.old (hr.sub (k + 12) nn hnl) (Nat.le_refl _)
              have hn9 : nn ≤ c - (k + 12) := by omega
              have hm9 : c - (k + 12) ≤ maxLen := by unfold maxLen; omega
              clear hck
              go_wp2_with fail
              have hRN : RdN wr [wr.heap.size] (some ⟨ab, off, none⟩) n b := RdN.old hrr (by simp)
              refine wp_flq [(fun y_ _ => y_ = .slice (some ⟨ab, off, none⟩) n c), (fun y_ _ => y_ = .int .i64 (k : Int)), (fun y_ _ => y_ = .pointer (some ⟨ab, off + k, none⟩)), (fun y_ _ => y_ = .int .u8 (x0.toNat : Int)), (fun y_ _ => y_ = .int .i64 (x0.toNat : Int)), (fun y_ _ => y_ = .slice (some ⟨ab, off, none⟩) n c), (fun y_ _ => y_ = .int .i64 (k : Int)), (fun y_ _ => y_ = .int .i64 ((k : Int) + 1)), (fun y_ _ => y_ = .pointer (some ⟨ab, off + (k + 1), none⟩)), (fun y_ _ => y_ = .int .u8 (x1.toNat : Int)), (fun y_ _ => y_ = .bool y), (fun y_ _ => y_ = .slice (some ⟨ab, off, none⟩) n c), (fun y_ _ => y_ = .int .i64 (k : Int)), (fun y_ _ => y_ = .int .i64 ((k : Int) + 2)), (fun y_ _ => y_ = .int .i64 (k : Int)), (fun y_ _ => y_ = .int .i64 ((k : Int) + 4)), (fun y_ _ => y_ = .slice (some ⟨ab, off + (k + 2), none⟩) 2 (c - (k + 2))), (fun y_ _ => y_ = .int .u64 x2), (fun y_ _ => y_ = .int .i64 x2), (fun y_ _ => y_ = .slice (some ⟨ab, off, none⟩) n c), (fun y_ _ => y_ = .int .i64 (k : Int)), (fun y_ _ => y_ = .int .i64 ((k : Int) + 4)), (fun y_ _ => y_ = .int .i64 (k : Int)), (fun y_ _ => y_ = .int .i64 ((k : Int) + 6)), (fun y_ _ => y_ = .slice (some ⟨ab, off + (k + 4), none⟩) 2 (c - (k + 4))), (fun y_ _ => y_ = .int .u64 x3), (fun y_ _ => y_ = .int .i64 x3), (fun y_ _ => y_ = .slice (some ⟨ab, off, none⟩) n c), (fun y_ _ => y_ = .int .i64 (k : Int)), (fun y_ _ => y_ = .int .i64 ((k : Int) + 6)), (fun y_ _ => y_ = .int .i64 (k : Int)), (fun y_ _ => y_ = .int .i64 ((k : Int) + 8)), (fun y_ _ => y_ = .slice (some ⟨ab, off + (k + 6), none⟩) 2 (c - (k + 6))), (fun y_ _ => y_ = .int .u64 x4), (fun y_ _ => y_ = .int .i64 x4), (fun y_ _ => y_ = .slice (some ⟨ab, off, none⟩) n c), (fun y_ _ => y_ = .int .i64 (k : Int)), (fun y_ _ => y_ = .int .i64 ((k : Int) + 8)), (fun y_ _ => y_ = .int .i64 (k : Int)), (fun y_ _ => y_ = .int .i64 ((k : Int) + 10)), (fun y_ _ => y_ = .slice (some ⟨ab, off + (k + 8), none⟩) 2 (c - (k + 8))), (fun y_ _ => y_ = .int .u64 x5), (fun y_ _ => y_ = .int .i64 x5), (fun y_ _ => y_ = .slice (some ⟨ab, off, none⟩) n c), (fun y_ _ => y_ = .int .i64 (k : Int)), (fun y_ _ => y_ = .int .i64 ((k : Int) + 12)), (fun y_ _ => y_ = .int .i64 (k : Int)), (fun y_ _ => y_ = .int .i64 ((k : Int) + 12)), (fun y_ _ => y_ = .int .i64 (nn : Int)), (fun y_ _ => y_ = .int .i64 ((((k : Int) + 12)) + (nn : Int))), (fun y_ _ => y_ = .slice (some ⟨ab, off + (k + 12), none⟩) nn (c - (k + 12))), (fun y_ _ => y_ = .agg #[.int .i64 (x0.toNat : Int), .bool y, .int .i64 x2, .int .i64 x3, .int .i64 x4, .int .i64 x5, .slice (some ⟨ab, off + (k + 12), none⟩) nn (c - (k + 12))]), (fun y_ _ => y_ = .pointer (some ⟨wr.heap.size, 0, none⟩)), (fun _ _ => True)] [wr.heap.size] (BoxInv wr.heap.size 32 #[.int .i64 0, .bool false, .int .i64 0, .int .i64 0, .int .i64 0, .int .i64 0, .slice none 0 0] #[.int .i64 (x0.toNat : Int), .bool y, .int .i64 x2, .int .i64 x3, .int .i64 x4, .int .i64 x5, .slice (some ⟨ab, off + (k + 12), none⟩) nn (c - (k + 12))]) [52, 53] (by kernel_rfl) ⟨StabW.eq _ _, StabW.eq _ _, StabW.eq _ _, StabW.eq _ _, StabW.eq _ _, StabW.eq _ _, StabW.eq _ _, StabW.eq _ _, StabW.eq _ _, StabW.eq _ _, StabW.eq _ _, StabW.eq _ _, StabW.eq _ _, StabW.eq _ _, StabW.eq _ _, StabW.eq _ _, StabW.eq _ _, StabW.eq _ _, StabW.eq _ _, StabW.eq _ _, StabW.eq _ _, StabW.eq _ _, StabW.eq _ _, StabW.eq _ _, StabW.eq _ _, StabW.eq _ _, StabW.eq _ _, StabW.eq _ _, StabW.eq _ _, StabW.eq _ _, StabW.eq _ _, StabW.eq _ _, StabW.eq _ _, StabW.eq _ _, StabW.eq _ _, StabW.eq _ _, StabW.eq _ _, StabW.eq _ _, StabW.eq _ _, StabW.eq _ _, StabW.eq _ _, StabW.eq _ _, StabW.eq _ _, StabW.eq _ _, StabW.eq _ _, StabW.eq _ _, StabW.eq _ _, StabW.eq _ _, StabW.eq _ _, StabW.eq _ _, StabW.eq _ _, StabW.eq _ _, StabW.eq _ _, StabW.any _, trivial⟩ ((show wr.drew.heap.size = wr.heap.size from rfl)) (by kernel_rfl) (by kernel_rfl) (by kernel_rfl) (by rfl) ?_ ?_
              · intro kq hkq
                match kq, hkq with
                | 0, _ =>
                  refine StepQ.plain _ rfl rfl rfl [(0, none)] (by kernel_rfl) (fun af wf hbw hz hf Kf hKf => ?_)
                  obtain ⟨g0, _⟩ := hf
                  have h0 : af.tmps[0]?.getD undef = .slice (some ⟨ab, off, none⟩) n c := g0
                  clear g0
                  go_simp
                  exact hKf _ _ rfl rfl
                | 1, _ =>
                  refine StepQ.plain _ rfl rfl rfl [(5, none)] (by kernel_rfl) (fun af wf hbw hz hf Kf hKf => ?_)
                  obtain ⟨g5, _⟩ := hf
                  have h5 : af.tmps[5]?.getD undef = .int .i64 (k : Int) := g5
                  clear g5
                  go_simp
                  exact hKf _ _ rfl rfl
                | 2, _ =>
                  refine StepQ.plain _ rfl rfl rfl [(40, some 0), (41, some 1)] (by kernel_rfl) (fun af wf hbw hz hf Kf hKf => ?_)
                  obtain ⟨g40, g41, _⟩ := hf
                  have h40 : af.tmps[40]?.getD undef = .slice (some ⟨ab, off, none⟩) n c := g40
                  have h41 : af.tmps[41]?.getD undef = .int .i64 (k : Int) := g41
                  clear g40 g41
                  go_simp
                  exact hKf _ _ rfl rfl
                | 3, _ =>
                  refine StepQ.plain _ rfl rfl rfl [(42, some 2)] (by kernel_rfl) (fun af wf hbw hz hf Kf hKf => ?_)
                  obtain ⟨g42, _⟩ := hf
                  have h42 : af.tmps[42]?.getD undef = .pointer (some ⟨ab, off + k, none⟩) := g42
                  clear g42
                  have cx0 := Rd.cellAt (RdN.kept (RdN.drew hRN) hbw (fun _ h_ => h_)).1 G0.out
                  go_simp
                  exact hKf _ _ rfl rfl
                | 4, _ =>
                  refine StepQ.plain _ rfl rfl rfl [(43, some 3)] (by kernel_rfl) (fun af wf hbw hz hf Kf hKf => ?_)
                  obtain ⟨g43, _⟩ := hf
                  have h43 : af.tmps[43]?.getD undef = .int .u8 (x0.toNat : Int) := g43
                  clear g43
                  have hx0w : IntKind.i64.wrap (x0.toNat : Int) = (x0.toNat : Int) := IntWalk.i64_in _ (by have := x0.toNat_lt; omega)
                  go_simp
                  exact hKf _ _ rfl rfl
                | 5, _ =>
                  refine StepQ.plain _ rfl rfl rfl [(0, none)] (by kernel_rfl) (fun af wf hbw hz hf Kf hKf => ?_)
                  obtain ⟨g0, _⟩ := hf
                  have h0 : af.tmps[0]?.getD undef = .slice (some ⟨ab, off, none⟩) n c := g0
                  clear g0
                  go_simp
                  exact hKf _ _ rfl rfl
                | 6, _ =>
                  refine StepQ.plain _ rfl rfl rfl [(5, none)] (by kernel_rfl) (fun af wf hbw hz hf Kf hKf => ?_)
                  obtain ⟨g5, _⟩ := hf
                  have h5 : af.tmps[5]?.getD undef = .int .i64 (k : Int) := g5
                  clear g5
                  go_simp
                  exact hKf _ _ rfl rfl
                | 7, _ =>
                  refine StepQ.plain _ rfl rfl rfl [(46, some 6)] (by kernel_rfl) (fun af wf hbw hz hf Kf hKf => ?_)
                  obtain ⟨g46, _⟩ := hf
                  have h46 : af.tmps[46]?.getD undef = .int .i64 (k : Int) := g46
                  clear g46
                  have hwr : IntKind.i64.wrap ((k : Int) + 1) = (k : Int) + 1 := IntWalk.i64_in _ (by omega)
                  go_simp
                  exact hKf _ _ rfl rfl
                | 8, _ =>
                  refine StepQ.plain _ rfl rfl rfl [(45, some 5), (47, some 7)] (by kernel_rfl) (fun af wf hbw hz hf Kf hKf => ?_)
                  obtain ⟨g45, g47, _⟩ := hf
                  have h45 : af.tmps[45]?.getD undef = .slice (some ⟨ab, off, none⟩) n c := g45
                  have h47 : af.tmps[47]?.getD undef = .int .i64 ((k : Int) + 1) := g47
                  clear g45 g47
                  have hbd : 0 ≤ (k : Int) + 1 ∧ (k : Int) + 1 < n := by omega
                  go_simp
                  exact hKf _ _ rfl rfl
                | 9, _ =>
                  refine StepQ.plain _ rfl rfl rfl [(48, some 8)] (by kernel_rfl) (fun af wf hbw hz hf Kf hKf => ?_)
                  obtain ⟨g48, _⟩ := hf
                  have h48 : af.tmps[48]?.getD undef = .pointer (some ⟨ab, off + (k + 1), none⟩) := g48
                  clear g48
                  have cx1 := Rd.cellAt (RdN.kept (RdN.drew hRN) hbw (fun _ h_ => h_)).1 G1.out
                  go_simp
                  exact hKf _ _ rfl rfl
                | 10, _ =>
                  refine StepQ.plain _ rfl rfl rfl [(49, some 9)] (by kernel_rfl) (fun af wf hbw hz hf Kf hKf => ?_)
                  obtain ⟨g49, _⟩ := hf
                  have h49 : af.tmps[49]?.getD undef = .int .u8 (x1.toNat : Int) := g49
                  clear g49
                  have hyy := HY.out
                  go_simp
                  exact hKf _ _ rfl rfl
                | 11, _ =>
                  refine StepQ.plain _ rfl rfl rfl [(0, none)] (by kernel_rfl) (fun af wf hbw hz hf Kf hKf => ?_)
                  obtain ⟨g0, _⟩ := hf
                  have h0 : af.tmps[0]?.getD undef = .slice (some ⟨ab, off, none⟩) n c := g0
                  clear g0
                  go_simp
                  exact hKf _ _ rfl rfl
                | 12, _ =>
                  refine StepQ.plain _ rfl rfl rfl [(5, none)] (by kernel_rfl) (fun af wf hbw hz hf Kf hKf => ?_)
                  obtain ⟨g5, _⟩ := hf
                  have h5 : af.tmps[5]?.getD undef = .int .i64 (k : Int) := g5
                  clear g5
                  go_simp
                  exact hKf _ _ rfl rfl
                | 13, _ =>
                  refine StepQ.plain _ rfl rfl rfl [(52, some 12)] (by kernel_rfl) (fun af wf hbw hz hf Kf hKf => ?_)
                  obtain ⟨g52, _⟩ := hf
                  have h52 : af.tmps[52]?.getD undef = .int .i64 (k : Int) := g52
                  clear g52
                  have hwr : IntKind.i64.wrap ((k : Int) + 2) = (k : Int) + 2 := IntWalk.i64_in _ (by omega)
                  go_simp
                  exact hKf _ _ rfl rfl
                | 14, _ =>
                  refine StepQ.plain _ rfl rfl rfl [(5, none)] (by kernel_rfl) (fun af wf hbw hz hf Kf hKf => ?_)
                  obtain ⟨g5, _⟩ := hf
                  have h5 : af.tmps[5]?.getD undef = .int .i64 (k : Int) := g5
                  clear g5
                  go_simp
                  exact hKf _ _ rfl rfl
                | 15, _ =>
                  refine StepQ.plain _ rfl rfl rfl [(54, some 14)] (by kernel_rfl) (fun af wf hbw hz hf Kf hKf => ?_)
                  obtain ⟨g54, _⟩ := hf
                  have h54 : af.tmps[54]?.getD undef = .int .i64 (k : Int) := g54
                  clear g54
                  have hwr : IntKind.i64.wrap ((k : Int) + 4) = (k : Int) + 4 := IntWalk.i64_in _ (by omega)
                  go_simp
                  exact hKf _ _ rfl rfl
                | 16, _ =>
                  refine StepQ.plain _ rfl rfl rfl [(51, some 11), (53, some 13), (55, some 15)] (by kernel_rfl) (fun af wf hbw hz hf Kf hKf => ?_)
                  obtain ⟨g51, g53, g55, _⟩ := hf
                  have h51 : af.tmps[51]?.getD undef = .slice (some ⟨ab, off, none⟩) n c := g51
                  have h53 : af.tmps[53]?.getD undef = .int .i64 ((k : Int) + 2) := g53
                  have h55 : af.tmps[55]?.getD undef = .int .i64 ((k : Int) + 4) := g55
                  clear g51 g53 g55
                  have sl1 : 0 ≤ (k : Int) + 4 ∧ (k : Int) + 4 ≤ c := by omega
                  have sl2 : 0 ≤ (k : Int) + 2 ∧ (k : Int) + 2 ≤ (k : Int) + 4 := by omega
                  have sl3 : ((k : Int) + 4).toNat = k + 4 := by omega
                  have sl4 : ((k : Int) + 2).toNat = k + 2 := by omega
                  have sl5 : k + 4 - (k + 2) = 2 := by omega
                  have sl6 : ¬ c = k + 2 := by omega
                  go_simp
                  exact hKf _ _ rfl rfl
                | 17, _ =>
                  refine StepQ.plain _ rfl rfl rfl [(56, some 16)] (by kernel_rfl) (fun af wf hbw hz hf Kf hKf => ?_)
                  obtain ⟨g56, _⟩ := hf
                  have h56 : af.tmps[56]?.getD undef = .slice (some ⟨ab, off + (k + 2), none⟩) 2 (c - (k + 2)) := g56
                  clear g56
                  go_simp
                  refine (rget_short (some ⟨ab, off + (k + 2), none⟩) 2 (c - (k + 2)) ((b.take (k + 4)).drop (k + 2)) _ (Rd.sub (RdN.kept (RdN.drew hRN) hbw (fun _ h_ => h_)).1 (k + 2) 2 (by omega)) (by omega)).mono ?_
                  rintro e wN ⟨rfl, rfl⟩
                  exact hKf _ _ (rfl) (int_eq X2.out)
                | 18, _ =>
                  refine StepQ.plain _ rfl rfl rfl [(57, some 17)] (by kernel_rfl) (fun af wf hbw hz hf Kf hKf => ?_)
                  obtain ⟨g57, _⟩ := hf
                  have h57 : af.tmps[57]?.getD undef = .int .u64 x2 := g57
                  clear g57
                  have hw_ : IntKind.i64.wrap x2 = x2 := IntWalk.i64_in _ (by omega)
                  go_simp
                  exact hKf _ _ rfl rfl
                | 19, _ =>
                  refine StepQ.plain _ rfl rfl rfl [(0, none)] (by kernel_rfl) (fun af wf hbw hz hf Kf hKf => ?_)
                  obtain ⟨g0, _⟩ := hf
                  have h0 : af.tmps[0]?.getD undef = .slice (some ⟨ab, off, none⟩) n c := g0
                  clear g0
                  go_simp
                  exact hKf _ _ rfl rfl
                | 20, _ =>
                  refine StepQ.plain _ rfl rfl rfl [(5, none)] (by kernel_rfl) (fun af wf hbw hz hf Kf hKf => ?_)
                  obtain ⟨g5, _⟩ := hf
                  have h5 : af.tmps[5]?.getD undef = .int .i64 (k : Int) := g5
                  clear g5
                  go_simp
                  exact hKf _ _ rfl rfl
                | 21, _ =>
                  refine StepQ.plain _ rfl rfl rfl [(60, some 20)] (by kernel_rfl) (fun af wf hbw hz hf Kf hKf => ?_)
                  obtain ⟨g60, _⟩ := hf
                  have h60 : af.tmps[60]?.getD undef = .int .i64 (k : Int) := g60
                  clear g60
                  have hwr : IntKind.i64.wrap ((k : Int) + 4) = (k : Int) + 4 := IntWalk.i64_in _ (by omega)
                  go_simp
                  exact hKf _ _ rfl rfl
                | 22, _ =>
                  refine StepQ.plain _ rfl rfl rfl [(5, none)] (by kernel_rfl) (fun af wf hbw hz hf Kf hKf => ?_)
                  obtain ⟨g5, _⟩ := hf
                  have h5 : af.tmps[5]?.getD undef = .int .i64 (k : Int) := g5
                  clear g5
                  go_simp
                  exact hKf _ _ rfl rfl
                | 23, _ =>
                  refine StepQ.plain _ rfl rfl rfl [(62, some 22)] (by kernel_rfl) (fun af wf hbw hz hf Kf hKf => ?_)
                  obtain ⟨g62, _⟩ := hf
                  have h62 : af.tmps[62]?.getD undef = .int .i64 (k : Int) := g62
                  clear g62
                  have hwr : IntKind.i64.wrap ((k : Int) + 6) = (k : Int) + 6 := IntWalk.i64_in _ (by omega)
                  go_simp
                  exact hKf _ _ rfl rfl
                | 24, _ =>
                  refine StepQ.plain _ rfl rfl rfl [(59, some 19), (61, some 21), (63, some 23)] (by kernel_rfl) (fun af wf hbw hz hf Kf hKf => ?_)
                  obtain ⟨g59, g61, g63, _⟩ := hf
                  have h59 : af.tmps[59]?.getD undef = .slice (some ⟨ab, off, none⟩) n c := g59
                  have h61 : af.tmps[61]?.getD undef = .int .i64 ((k : Int) + 4) := g61
                  have h63 : af.tmps[63]?.getD undef = .int .i64 ((k : Int) + 6) := g63
                  clear g59 g61 g63
                  have sl1 : 0 ≤ (k : Int) + 6 ∧ (k : Int) + 6 ≤ c := by omega
                  have sl2 : 0 ≤ (k : Int) + 4 ∧ (k : Int) + 4 ≤ (k : Int) + 6 := by omega
                  have sl3 : ((k : Int) + 6).toNat = k + 6 := by omega
                  have sl4 : ((k : Int) + 4).toNat = k + 4 := by omega
                  have sl5 : k + 6 - (k + 4) = 2 := by omega
                  have sl6 : ¬ c = k + 4 := by omega
                  go_simp
                  exact hKf _ _ rfl rfl
                | 25, _ =>
                  refine StepQ.plain _ rfl rfl rfl [(64, some 24)] (by kernel_rfl) (fun af wf hbw hz hf Kf hKf => ?_)
                  obtain ⟨g64, _⟩ := hf
                  have h64 : af.tmps[64]?.getD undef = .slice (some ⟨ab, off + (k + 4), none⟩) 2 (c - (k + 4)) := g64
                  clear g64
                  go_simp
                  refine (rget_short (some ⟨ab, off + (k + 4), none⟩) 2 (c - (k + 4)) ((b.take (k + 6)).drop (k + 4)) _ (Rd.sub (RdN.kept (RdN.drew hRN) hbw (fun _ h_ => h_)).1 (k + 4) 2 (by omega)) (by omega)).mono ?_
                  rintro e wN ⟨rfl, rfl⟩
                  exact hKf _ _ (rfl) (int_eq X3.out)
                | 26, _ =>
                  refine StepQ.plain _ rfl rfl rfl [(65, some 25)] (by kernel_rfl) (fun af wf hbw hz hf Kf hKf => ?_)
                  obtain ⟨g65, _⟩ := hf
                  have h65 : af.tmps[65]?.getD undef = .int .u64 x3 := g65
                  clear g65
                  have hw_ : IntKind.i64.wrap x3 = x3 := IntWalk.i64_in _ (by omega)
                  go_simp
                  exact hKf _ _ rfl rfl
                | 27, _ =>
                  refine StepQ.plain _ rfl rfl rfl [(0, none)] (by kernel_rfl) (fun af wf hbw hz hf Kf hKf => ?_)
                  obtain ⟨g0, _⟩ := hf
                  have h0 : af.tmps[0]?.getD undef = .slice (some ⟨ab, off, none⟩) n c := g0
                  clear g0
                  go_simp
                  exact hKf _ _ rfl rfl
                | 28, _ =>
                  refine StepQ.plain _ rfl rfl rfl [(5, none)] (by kernel_rfl) (fun af wf hbw hz hf Kf hKf => ?_)
                  obtain ⟨g5, _⟩ := hf
                  have h5 : af.tmps[5]?.getD undef = .int .i64 (k : Int) := g5
                  clear g5
                  go_simp
                  exact hKf _ _ rfl rfl
                | 29, _ =>
                  refine StepQ.plain _ rfl rfl rfl [(68, some 28)] (by kernel_rfl) (fun af wf hbw hz hf Kf hKf => ?_)
                  obtain ⟨g68, _⟩ := hf
                  have h68 : af.tmps[68]?.getD undef = .int .i64 (k : Int) := g68
                  clear g68
                  have hwr : IntKind.i64.wrap ((k : Int) + 6) = (k : Int) + 6 := IntWalk.i64_in _ (by omega)
                  go_simp
                  exact hKf _ _ rfl rfl
                | 30, _ =>
                  refine StepQ.plain _ rfl rfl rfl [(5, none)] (by kernel_rfl) (fun af wf hbw hz hf Kf hKf => ?_)
                  obtain ⟨g5, _⟩ := hf
                  have h5 : af.tmps[5]?.getD undef = .int .i64 (k : Int) := g5
                  clear g5
                  go_simp
                  exact hKf _ _ rfl rfl
                | 31, _ =>
                  refine StepQ.plain _ rfl rfl rfl [(70, some 30)] (by kernel_rfl) (fun af wf hbw hz hf Kf hKf => ?_)
                  obtain ⟨g70, _⟩ := hf
                  have h70 : af.tmps[70]?.getD undef = .int .i64 (k : Int) := g70
                  clear g70
                  have hwr : IntKind.i64.wrap ((k : Int) + 8) = (k : Int) + 8 := IntWalk.i64_in _ (by omega)
                  go_simp
                  exact hKf _ _ rfl rfl
                | 32, _ =>
                  refine StepQ.plain _ rfl rfl rfl [(67, some 27), (69, some 29), (71, some 31)] (by kernel_rfl) (fun af wf hbw hz hf Kf hKf => ?_)
                  obtain ⟨g67, g69, g71, _⟩ := hf
                  have h67 : af.tmps[67]?.getD undef = .slice (some ⟨ab, off, none⟩) n c := g67
                  have h69 : af.tmps[69]?.getD undef = .int .i64 ((k : Int) + 6) := g69
                  have h71 : af.tmps[71]?.getD undef = .int .i64 ((k : Int) + 8) := g71
                  clear g67 g69 g71
                  have sl1 : 0 ≤ (k : Int) + 8 ∧ (k : Int) + 8 ≤ c := by omega
                  have sl2 : 0 ≤ (k : Int) + 6 ∧ (k : Int) + 6 ≤ (k : Int) + 8 := by omega
                  have sl3 : ((k : Int) + 8).toNat = k + 8 := by omega
                  have sl4 : ((k : Int) + 6).toNat = k + 6 := by omega
                  have sl5 : k + 8 - (k + 6) = 2 := by omega
                  have sl6 : ¬ c = k + 6 := by omega
                  go_simp
                  exact hKf _ _ rfl rfl
                | 33, _ =>
                  refine StepQ.plain _ rfl rfl rfl [(72, some 32)] (by kernel_rfl) (fun af wf hbw hz hf Kf hKf => ?_)
                  obtain ⟨g72, _⟩ := hf
                  have h72 : af.tmps[72]?.getD undef = .slice (some ⟨ab, off + (k + 6), none⟩) 2 (c - (k + 6)) := g72
                  clear g72
                  go_simp
                  refine (rget_short (some ⟨ab, off + (k + 6), none⟩) 2 (c - (k + 6)) ((b.take (k + 8)).drop (k + 6)) _ (Rd.sub (RdN.kept (RdN.drew hRN) hbw (fun _ h_ => h_)).1 (k + 6) 2 (by omega)) (by omega)).mono ?_
                  rintro e wN ⟨rfl, rfl⟩
                  exact hKf _ _ (rfl) (int_eq X4.out)
                | 34, _ =>
                  refine StepQ.plain _ rfl rfl rfl [(73, some 33)] (by kernel_rfl) (fun af wf hbw hz hf Kf hKf => ?_)
                  obtain ⟨g73, _⟩ := hf
                  have h73 : af.tmps[73]?.getD undef = .int .u64 x4 := g73
                  clear g73
                  have hw_ : IntKind.i64.wrap x4 = x4 := IntWalk.i64_in _ (by omega)
                  go_simp
                  exact hKf _ _ rfl rfl
                | 35, _ =>
                  refine StepQ.plain _ rfl rfl rfl [(0, none)] (by kernel_rfl) (fun af wf hbw hz hf Kf hKf => ?_)
                  obtain ⟨g0, _⟩ := hf
                  have h0 : af.tmps[0]?.getD undef = .slice (some ⟨ab, off, none⟩) n c := g0
                  clear g0
                  go_simp
                  exact hKf _ _ rfl rfl
                | 36, _ =>
                  refine StepQ.plain _ rfl rfl rfl [(5, none)] (by kernel_rfl) (fun af wf hbw hz hf Kf hKf => ?_)
                  obtain ⟨g5, _⟩ := hf
                  have h5 : af.tmps[5]?.getD undef = .int .i64 (k : Int) := g5
                  clear g5
                  go_simp
                  exact hKf _ _ rfl rfl
                | 37, _ =>
                  refine StepQ.plain _ rfl rfl rfl [(76, some 36)] (by kernel_rfl) (fun af wf hbw hz hf Kf hKf => ?_)
                  obtain ⟨g76, _⟩ := hf
                  have h76 : af.tmps[76]?.getD undef = .int .i64 (k : Int) := g76
                  clear g76
                  have hwr : IntKind.i64.wrap ((k : Int) + 8) = (k : Int) + 8 := IntWalk.i64_in _ (by omega)
                  go_simp
                  exact hKf _ _ rfl rfl
                | 38, _ =>
                  refine StepQ.plain _ rfl rfl rfl [(5, none)] (by kernel_rfl) (fun af wf hbw hz hf Kf hKf => ?_)
                  obtain ⟨g5, _⟩ := hf
                  have h5 : af.tmps[5]?.getD undef = .int .i64 (k : Int) := g5
                  clear g5
                  go_simp
                  exact hKf _ _ rfl rfl
                | 39, _ =>
                  refine StepQ.plain _ rfl rfl rfl [(78, some 38)] (by kernel_rfl) (fun af wf hbw hz hf Kf hKf => ?_)
                  obtain ⟨g78, _⟩ := hf
                  have h78 : af.tmps[78]?.getD undef = .int .i64 (k : Int) := g78
                  clear g78
                  have hwr : IntKind.i64.wrap ((k : Int) + 10) = (k : Int) + 10 := IntWalk.i64_in _ (by omega)
                  go_simp
                  exact hKf _ _ rfl rfl
                | 40, _ =>
                  refine StepQ.plain _ rfl rfl rfl [(75, some 35), (77, some 37), (79, some 39)] (by kernel_rfl) (fun af wf hbw hz hf Kf hKf => ?_)
                  obtain ⟨g75, g77, g79, _⟩ := hf
                  have h75 : af.tmps[75]?.getD undef = .slice (some ⟨ab, off, none⟩) n c := g75
                  have h77 : af.tmps[77]?.getD undef = .int .i64 ((k : Int) + 8) := g77
                  have h79 : af.tmps[79]?.getD undef = .int .i64 ((k : Int) + 10) := g79
                  clear g75 g77 g79
                  have sl1 : 0 ≤ (k : Int) + 10 ∧ (k : Int) + 10 ≤ c := by omega
                  have sl2 : 0 ≤ (k : Int) + 8 ∧ (k : Int) + 8 ≤ (k : Int) + 10 := by omega
                  have sl3 : ((k : Int) + 10).toNat = k + 10 := by omega
                  have sl4 : ((k : Int) + 8).toNat = k + 8 := by omega
                  have sl5 : k + 10 - (k + 8) = 2 := by omega
                  have sl6 : ¬ c = k + 8 := by omega
                  go_simp
                  exact hKf _ _ rfl rfl
                | 41, _ =>
                  refine StepQ.plain _ rfl rfl rfl [(80, some 40)] (by kernel_rfl) (fun af wf hbw hz hf Kf hKf => ?_)
                  obtain ⟨g80, _⟩ := hf
                  have h80 : af.tmps[80]?.getD undef = .slice (some ⟨ab, off + (k + 8), none⟩) 2 (c - (k + 8)) := g80
                  clear g80
                  go_simp
                  refine (rget_short (some ⟨ab, off + (k + 8), none⟩) 2 (c - (k + 8)) ((b.take (k + 10)).drop (k + 8)) _ (Rd.sub (RdN.kept (RdN.drew hRN) hbw (fun _ h_ => h_)).1 (k + 8) 2 (by omega)) (by omega)).mono ?_
                  rintro e wN ⟨rfl, rfl⟩
                  exact hKf _ _ (rfl) (int_eq X5.out)
                | 42, _ =>
                  refine StepQ.plain _ rfl rfl rfl [(81, some 41)] (by kernel_rfl) (fun af wf hbw hz hf Kf hKf => ?_)
                  obtain ⟨g81, _⟩ := hf
                  have h81 : af.tmps[81]?.getD undef = .int .u64 x5 := g81
                  clear g81
                  have hw_ : IntKind.i64.wrap x5 = x5 := IntWalk.i64_in _ (by omega)
                  go_simp
                  exact hKf _ _ rfl rfl
                | 43, _ =>
                  refine StepQ.plain _ rfl rfl rfl [(0, none)] (by kernel_rfl) (fun af wf hbw hz hf Kf hKf => ?_)
                  obtain ⟨g0, _⟩ := hf
                  have h0 : af.tmps[0]?.getD undef = .slice (some ⟨ab, off, none⟩) n c := g0
                  clear g0
                  go_simp
                  exact hKf _ _ rfl rfl
                | 44, _ =>
                  refine StepQ.plain _ rfl rfl rfl [(5, none)] (by kernel_rfl) (fun af wf hbw hz hf Kf hKf => ?_)
                  obtain ⟨g5, _⟩ := hf
                  have h5 : af.tmps[5]?.getD undef = .int .i64 (k : Int) := g5
                  clear g5
                  go_simp
                  exact hKf _ _ rfl rfl
                | 45, _ =>
                  refine StepQ.plain _ rfl rfl rfl [(84, some 44)] (by kernel_rfl) (fun af wf hbw hz hf Kf hKf => ?_)
                  obtain ⟨g84, _⟩ := hf
                  have h84 : af.tmps[84]?.getD undef = .int .i64 (k : Int) := g84
                  clear g84
                  have hwr : IntKind.i64.wrap ((k : Int) + 12) = (k : Int) + 12 := IntWalk.i64_in _ (by omega)
                  go_simp
                  exact hKf _ _ rfl rfl
                | 46, _ =>
                  refine StepQ.plain _ rfl rfl rfl [(5, none)] (by kernel_rfl) (fun af wf hbw hz hf Kf hKf => ?_)
                  obtain ⟨g5, _⟩ := hf
                  have h5 : af.tmps[5]?.getD undef = .int .i64 (k : Int) := g5
                  clear g5
                  go_simp
                  exact hKf _ _ rfl rfl
                | 47, _ =>
                  refine StepQ.plain _ rfl rfl rfl [(86, some 46)] (by kernel_rfl) (fun af wf hbw hz hf Kf hKf => ?_)
                  obtain ⟨g86, _⟩ := hf
                  have h86 : af.tmps[86]?.getD undef = .int .i64 (k : Int) := g86
                  clear g86
                  have hwr : IntKind.i64.wrap ((k : Int) + 12) = (k : Int) + 12 := IntWalk.i64_in _ (by omega)
                  go_simp
                  exact hKf _ _ rfl rfl
                | 48, _ =>
                  refine StepQ.plain _ rfl rfl rfl [(6, none)] (by kernel_rfl) (fun af wf hbw hz hf Kf hKf => ?_)
                  obtain ⟨g6, _⟩ := hf
                  have h6 : af.tmps[6]?.getD undef = .int .i64 (nn : Int) := g6
                  clear g6
                  go_simp
                  exact hKf _ _ rfl rfl
                | 49, _ =>
                  refine StepQ.plain _ rfl rfl rfl [(87, some 47), (88, some 48)] (by kernel_rfl) (fun af wf hbw hz hf Kf hKf => ?_)
                  obtain ⟨g87, g88, _⟩ := hf
                  have h87 : af.tmps[87]?.getD undef = .int .i64 ((k : Int) + 12) := g87
                  have h88 : af.tmps[88]?.getD undef = .int .i64 (nn : Int) := g88
                  clear g87 g88
                  have hwr : IntKind.i64.wrap ((((k : Int) + 12)) + (nn : Int)) = (((k : Int) + 12)) + (nn : Int) := IntWalk.i64_in _ (by omega)
                  go_simp
                  exact hKf _ _ rfl rfl
                | 50, _ =>
                  refine StepQ.plain _ rfl rfl rfl [(83, some 43), (85, some 45), (89, some 49)] (by kernel_rfl) (fun af wf hbw hz hf Kf hKf => ?_)
                  obtain ⟨g83, g85, g89, _⟩ := hf
                  have h83 : af.tmps[83]?.getD undef = .slice (some ⟨ab, off, none⟩) n c := g83
                  have h85 : af.tmps[85]?.getD undef = .int .i64 ((k : Int) + 12) := g85
                  have h89 : af.tmps[89]?.getD undef = .int .i64 ((((k : Int) + 12)) + (nn : Int)) := g89
                  clear g83 g85 g89
                  have sl1 : 0 ≤ (k : Int) + 12 + (nn : Int) ∧ (k : Int) + 12 + (nn : Int) ≤ c := by omega
                  have sl2 : 0 ≤ (k : Int) + 12 ∧ (k : Int) + 12 ≤ (k : Int) + 12 + (nn : Int) := by omega
                  have sl3 : ((k : Int) + 12 + (nn : Int)).toNat = k + 12 + nn := by omega
                  have sl4 : ((k : Int) + 12).toNat = k + 12 := by omega
                  have sl5 : k + 12 + nn - (k + 12) = nn := by omega
                  have hck := HCK.out
                  have sl7 : True := trivial
                  go_simp
                  exact hKf _ _ rfl rfl
                | 51, _ =>
                  refine StepQ.plain _ rfl rfl rfl [(44, some 4), (50, some 10), (58, some 18), (66, some 26), (74, some 34), (82, some 42), (90, some 50)] (by kernel_rfl) (fun af wf hbw hz hf Kf hKf => ?_)
                  obtain ⟨g44, g50, g58, g66, g74, g82, g90, _⟩ := hf
                  have h44 : af.tmps[44]?.getD undef = .int .i64 (x0.toNat : Int) := g44
                  have h50 : af.tmps[50]?.getD undef = .bool y := g50
                  have h58 : af.tmps[58]?.getD undef = .int .i64 x2 := g58
                  have h66 : af.tmps[66]?.getD undef = .int .i64 x3 := g66
                  have h74 : af.tmps[74]?.getD undef = .int .i64 x4 := g74
                  have h82 : af.tmps[82]?.getD undef = .int .i64 x5 := g82
                  have h90 : af.tmps[90]?.getD undef = .slice (some ⟨ab, off + (k + 12), none⟩) nn (c - (k + 12)) := g90
                  clear g44 g50 g58 g66 g74 g82 g90
                  go_simp
                  exact hKf _ _ rfl rfl
                | 52, _ =>
                  refine StepQ.chain 0 _ rfl rfl rfl (by decide) [] (by kernel_rfl) (fun af wf hbw hiv hf Kf hKf => ?_)
                  obtain ⟨uv, hiv, hlast⟩ := hiv
                  have hs9 : wf.heap.size = wr.heap.size := hiv
                  go_simp
                  exact hKf _ _ (((Kept.refl _ _).alloc _)) (⟨rfl, by rw [← hs9]; exact Blk.new _ _ _⟩) (rfl)
                | 53, _ =>
                  refine StepQ.chain 1 _ rfl rfl rfl (by decide) [(7, some 52), (91, some 51)] (by kernel_rfl) (fun af wf hbw hiv hf Kf hKf => ?_)
                  obtain ⟨uv, hiv, hlast⟩ := hiv
                  have h7 : af.tmps[7]?.getD undef = uv := hlast 0 52 7 rfl rfl rfl
                  obtain ⟨g7, g91, _⟩ := hf
                  have h7 : af.tmps[7]?.getD undef = .pointer (some ⟨wr.heap.size, 0, none⟩) := g7
                  have h91 : af.tmps[91]?.getD undef = .agg #[.int .i64 (x0.toNat : Int), .bool y, .int .i64 x2, .int .i64 x3, .int .i64 x4, .int .i64 x5, .slice (some ⟨ab, off + (k + 12), none⟩) nn (c - (k + 12))] := g91
                  clear g7 g91
                  obtain ⟨rfl, hB9⟩ := hiv
                  have cB9 := hB9.cell
                  have fB9 := hB9.frozen
                  go_simp
                  exact hKf undef _ ((Kept.fill7 _ _ _ _ _ _ _)) ((hB9.fill7 (.int .i64 (x0.toNat : Int)) (.bool y) (.int .i64 x2) (.int .i64 x3) (.int .i64 x4) (.int .i64 x5) (.slice (some ⟨ab, off + (k + 12), none⟩) nn (c - (k + 12))))) (trivial)
                | i + 54, h => exact absurd h (by show ¬ (i + 54 < 54); omega)
              · intro af wF hbF hiF hdF hsF hbaseF hfactF
                obtain ⟨T, dsF⟩ := af
                obtain rfl : dsF = _ := hdF
                have e0 := hbaseF 0 (not_dst (by kernel_rfl))
                simp only [List.getElem?_toArray, List.getElem?_cons_zero, Option.getD_some] at e0
                have e1 := hbaseF 1 (not_dst (by kernel_rfl))
                simp only [List.getElem?_toArray, List.getElem?_cons_zero, List.getElem?_cons_succ, Option.getD_some] at e1
                have e2 := hbaseF 2 (not_dst (by kernel_rfl))
                simp only [List.getElem?_toArray, List.getElem?_cons_zero, List.getElem?_cons_succ, Option.getD_some] at e2
                have e3 := hbaseF 3 (not_dst (by kernel_rfl))
                simp only [List.getElem?_toArray, List.getElem?_cons_zero, List.getElem?_cons_succ, Option.getD_some] at e3
                have e4 := hbaseF 4 (not_dst (by kernel_rfl))
                simp only [List.getElem?_toArray, List.getElem?_cons_zero, List.getElem?_cons_succ, Option.getD_some] at e4
                have e5 := hbaseF 5 (not_dst (by kernel_rfl))
                simp only [List.getElem?_toArray, List.getElem?_cons_zero, List.getElem?_cons_succ, Option.getD_some] at e5
                have e6 := hbaseF 6 (not_dst (by kernel_rfl))
                simp only [List.getElem?_toArray, List.getElem?_cons_zero, List.getElem?_cons_succ, Option.getD_some] at e6
                have e8 := hbaseF 8 (not_dst (by kernel_rfl))
                simp only [List.getElem?_toArray, List.getElem?_cons_zero, List.getElem?_cons_succ, Option.getD_some] at e8
                have e9 := hbaseF 9 (not_dst (by kernel_rfl))
                simp only [List.getElem?_toArray, List.getElem?_cons_zero, List.getElem?_cons_succ, Option.getD_some] at e9
                have e10 := hbaseF 10 (not_dst (by kernel_rfl))
                simp only [List.getElem?_toArray, List.getElem?_cons_zero, List.getElem?_cons_succ, Option.getD_some] at e10
                have e11 := hbaseF 11 (not_dst (by kernel_rfl))
                simp only [List.getElem?_toArray, List.getElem?_cons_zero, List.getElem?_cons_succ, Option.getD_some] at e11
                have e12 := hbaseF 12 (not_dst (by kernel_rfl))
                simp only [List.getElem?_toArray, List.getElem?_cons_zero, List.getElem?_cons_succ, Option.getD_some] at e12
                have e13 := hbaseF 13 (not_dst (by kernel_rfl))
                simp only [List.getElem?_toArray, List.getElem?_cons_zero, List.getElem?_cons_succ, Option.getD_some] at e13
                have e14 := hbaseF 14 (not_dst (by kernel_rfl))
                simp only [List.getElem?_toArray, List.getElem?_cons_zero, List.getElem?_cons_succ, Option.getD_some] at e14
                have e15 := hbaseF 15 (not_dst (by kernel_rfl))
                simp only [List.getElem?_toArray, List.getElem?_cons_zero, List.getElem?_cons_succ, Option.getD_some] at e15
                have e16 := hbaseF 16 (not_dst (by kernel_rfl))
                simp only [List.getElem?_toArray, List.getElem?_cons_zero, List.getElem?_cons_succ, Option.getD_some] at e16
                have e17 := hbaseF 17 (not_dst (by kernel_rfl))
                simp only [List.getElem?_toArray, List.getElem?_cons_zero, List.getElem?_cons_succ, Option.getD_some] at e17
                have e18 := hbaseF 18 (not_dst (by kernel_rfl))
                simp only [List.getElem?_toArray, List.getElem?_cons_zero, List.getElem?_cons_succ, Option.getD_some] at e18
                have e19 := hbaseF 19 (not_dst (by kernel_rfl))
                simp only [List.getElem?_toArray, List.getElem?_cons_zero, List.getElem?_cons_succ, Option.getD_some] at e19
                have e20 := hbaseF 20 (not_dst (by kernel_rfl))
                simp only [List.getElem?_toArray, List.getElem?_cons_zero, List.getElem?_cons_succ, Option.getD_some] at e20
                have e21 := hbaseF 21 (not_dst (by kernel_rfl))
                simp only [List.getElem?_toArray, List.getElem?_cons_zero, List.getElem?_cons_succ, Option.getD_some] at e21
                have e22 := hbaseF 22 (not_dst (by kernel_rfl))
                simp only [List.getElem?_toArray, List.getElem?_cons_zero, List.getElem?_cons_succ, Option.getD_some] at e22
                have e23 := hbaseF 23 (not_dst (by kernel_rfl))
                simp only [List.getElem?_toArray, List.getElem?_cons_zero, List.getElem?_cons_succ, Option.getD_some] at e23
                have e24 := hbaseF 24 (not_dst (by kernel_rfl))
                simp only [List.getElem?_toArray, List.getElem?_cons_zero, List.getElem?_cons_succ, Option.getD_some] at e24
                have e25 := hbaseF 25 (not_dst (by kernel_rfl))
                simp only [List.getElem?_toArray, List.getElem?_cons_zero, List.getElem?_cons_succ, Option.getD_some] at e25
                have e26 := hbaseF 26 (not_dst (by kernel_rfl))
                simp only [List.getElem?_toArray, List.getElem?_cons_zero, List.getElem?_cons_succ, Option.getD_some] at e26
                have e27 := hbaseF 27 (not_dst (by kernel_rfl))
                simp only [List.getElem?_toArray, List.getElem?_cons_zero, List.getElem?_cons_succ, Option.getD_some] at e27
                have e28 := hbaseF 28 (not_dst (by kernel_rfl))
                simp only [List.getElem?_toArray, List.getElem?_cons_zero, List.getElem?_cons_succ, Option.getD_some] at e28
                have e29 := hbaseF 29 (not_dst (by kernel_rfl))
                simp only [List.getElem?_toArray, List.getElem?_cons_zero, List.getElem?_cons_succ, Option.getD_some] at e29
                have e30 := hbaseF 30 (not_dst (by kernel_rfl))
                simp only [List.getElem?_toArray, List.getElem?_cons_zero, List.getElem?_cons_succ, Option.getD_some] at e30
                have e31 := hbaseF 31 (not_dst (by kernel_rfl))
                simp only [List.getElem?_toArray, List.getElem?_cons_zero, List.getElem?_cons_succ, Option.getD_some] at e31
                have e32 := hbaseF 32 (not_dst (by kernel_rfl))
                simp only [List.getElem?_toArray, List.getElem?_cons_zero, List.getElem?_cons_succ, Option.getD_some] at e32
                have e33 := hbaseF 33 (not_dst (by kernel_rfl))
                simp only [List.getElem?_toArray, List.getElem?_cons_zero, List.getElem?_cons_succ, Option.getD_some] at e33
                have e34 := hbaseF 34 (not_dst (by kernel_rfl))
                simp only [List.getElem?_toArray, List.getElem?_cons_zero, List.getElem?_cons_succ, Option.getD_some] at e34
                have e35 := hbaseF 35 (not_dst (by kernel_rfl))
                simp only [List.getElem?_toArray, List.getElem?_cons_zero, List.getElem?_cons_succ, Option.getD_some] at e35
                have e36 := hbaseF 36 (not_dst (by kernel_rfl))
                simp only [List.getElem?_toArray, List.getElem?_cons_zero, List.getElem?_cons_succ, Option.getD_some] at e36
                have e37 := hbaseF 37 (not_dst (by kernel_rfl))
                simp only [List.getElem?_toArray, List.getElem?_cons_zero, List.getElem?_cons_succ, Option.getD_some] at e37
                have e38 := hbaseF 38 (not_dst (by kernel_rfl))
                simp only [List.getElem?_toArray, List.getElem?_cons_zero, List.getElem?_cons_succ, Option.getD_some] at e38
                have e39 := hbaseF 39 (not_dst (by kernel_rfl))
                simp only [List.getElem?_toArray, List.getElem?_cons_zero, List.getElem?_cons_succ, Option.getD_some] at e39
                have e92 := hbaseF 92 (not_dst (by kernel_rfl))
                simp only [List.getElem?_toArray, List.getElem?_cons_zero, List.getElem?_cons_succ, Option.getD_some] at e92
                have e93 := hbaseF 93 (not_dst (by kernel_rfl))
                simp only [List.getElem?_toArray, List.getElem?_cons_zero, List.getElem?_cons_succ, Option.getD_some] at e93
                have e94 := hbaseF 94 (not_dst (by kernel_rfl))
                simp only [List.getElem?_toArray, List.getElem?_cons_zero, List.getElem?_cons_succ, Option.getD_some] at e94
                have e95 := hbaseF 95 (not_dst (by kernel_rfl))
                simp only [List.getElem?_toArray, List.getElem?_cons_zero, List.getElem?_cons_succ, Option.getD_some] at e95
                have e96 := hbaseF 96 (not_dst (by kernel_rfl))
                simp only [List.getElem?_toArray, List.getElem?_cons_zero, List.getElem?_cons_succ, Option.getD_some] at e96
                have e97 := hbaseF 97 (not_dst (by kernel_rfl))
                simp only [List.getElem?_toArray, List.getElem?_cons_zero, List.getElem?_cons_succ, Option.getD_some] at e97
                have e98 := hbaseF 98 (not_dst (by kernel_rfl))
                simp only [List.getElem?_toArray, List.getElem?_cons_zero, List.getElem?_cons_succ, Option.getD_some] at e98
                have e99 := hbaseF 99 (not_dst (by kernel_rfl))
                simp only [List.getElem?_toArray, List.getElem?_cons_zero, List.getElem?_cons_succ, Option.getD_some] at e99
                have e100 := hbaseF 100 (not_dst (by kernel_rfl))
                simp only [List.getElem?_toArray, List.getElem?_cons_zero, List.getElem?_cons_succ, Option.getD_some] at e100
                have e101 := hbaseF 101 (not_dst (by kernel_rfl))
                simp only [List.getElem?_toArray, List.getElem?_cons_zero, List.getElem?_cons_succ, Option.getD_some] at e101
                have e102 := hbaseF 102 (not_dst (by kernel_rfl))
                simp only [List.getElem?_toArray, List.getElem?_cons_zero, List.getElem?_cons_succ, Option.getD_some] at e102
                have e103 := hbaseF 103 (not_dst (by kernel_rfl))
                simp only [List.getElem?_toArray, List.getElem?_cons_zero, List.getElem?_cons_succ, Option.getD_some] at e103
                have e7 := hfactF 52 7 (by decide) rfl
                replace e7 : T[7]?.getD undef = .pointer (some ⟨wr.heap.size, 0, none⟩) := e7
                clear hbaseF hfactF
                have hT : T = #[T[0]?.getD undef, T[1]?.getD undef, T[2]?.getD undef, T[3]?.getD undef, T[4]?.getD undef, T[5]?.getD undef, T[6]?.getD undef, T[7]?.getD undef, T[8]?.getD undef, T[9]?.getD undef, T[10]?.getD undef, T[11]?.getD undef, T[12]?.getD undef, T[13]?.getD undef, T[14]?.getD undef, T[15]?.getD undef, T[16]?.getD undef, T[17]?.getD undef, T[18]?.getD undef, T[19]?.getD undef, T[20]?.getD undef, T[21]?.getD undef, T[22]?.getD undef, T[23]?.getD undef, T[24]?.getD undef, T[25]?.getD undef, T[26]?.getD undef, T[27]?.getD undef, T[28]?.getD undef, T[29]?.getD undef, T[30]?.getD undef, T[31]?.getD undef, T[32]?.getD undef, T[33]?.getD undef, T[34]?.getD undef, T[35]?.getD undef, T[36]?.getD undef, T[37]?.getD undef, T[38]?.getD undef, T[39]?.getD undef, T[40]?.getD undef, T[41]?.getD undef, T[42]?.getD undef, T[43]?.getD undef, T[44]?.getD undef, T[45]?.getD undef, T[46]?.getD undef, T[47]?.getD undef, T[48]?.getD undef, T[49]?.getD undef, T[50]?.getD undef, T[51]?.getD undef, T[52]?.getD undef, T[53]?.getD undef, T[54]?.getD undef, T[55]?.getD undef, T[56]?.getD undef, T[57]?.getD undef, T[58]?.getD undef, T[59]?.getD undef, T[60]?.getD undef, T[61]?.getD undef, T[62]?.getD undef, T[63]?.getD undef, T[64]?.getD undef, T[65]?.getD undef, T[66]?.getD undef, T[67]?.getD undef, T[68]?.getD undef, T[69]?.getD undef, T[70]?.getD undef, T[71]?.getD undef, T[72]?.getD undef, T[73]?.getD undef, T[74]?.getD undef, T[75]?.getD undef, T[76]?.getD undef, T[77]?.getD undef, T[78]?.getD undef, T[79]?.getD undef, T[80]?.getD undef, T[81]?.getD undef, T[82]?.getD undef, T[83]?.getD undef, T[84]?.getD undef, T[85]?.getD undef, T[86]?.getD undef, T[87]?.getD undef, T[88]?.getD undef, T[89]?.getD undef, T[90]?.getD undef, T[91]?.getD undef, T[92]?.getD undef, T[93]?.getD undef, T[94]?.getD undef, T[95]?.getD undef, T[96]?.getD undef, T[97]?.getD undef, T[98]?.getD undef, T[99]?.getD undef, T[100]?.getD undef, T[101]?.getD undef, T[102]?.getD undef, T[103]?.getD undef] := arr_eq T 104 hsF
                clear hsF
                rw [e0] at hT; clear e0
                rw [e1] at hT; clear e1
                rw [e2] at hT; clear e2
                rw [e3] at hT; clear e3
                rw [e4] at hT; clear e4
                rw [e5] at hT; clear e5
                rw [e6] at hT; clear e6
                rw [e7] at hT; clear e7
                rw [e8] at hT; clear e8
                rw [e9] at hT; clear e9
                rw [e10] at hT; clear e10
                rw [e11] at hT; clear e11
                rw [e12] at hT; clear e12
                rw [e13] at hT; clear e13
                rw [e14] at hT; clear e14
                rw [e15] at hT; clear e15
                rw [e16] at hT; clear e16
                rw [e17] at hT; clear e17
                rw [e18] at hT; clear e18
                rw [e19] at hT; clear e19
                rw [e20] at hT; clear e20
                rw [e21] at hT; clear e21
                rw [e22] at hT; clear e22
                rw [e23] at hT; clear e23
                rw [e24] at hT; clear e24
                rw [e25] at hT; clear e25
                rw [e26] at hT; clear e26
                rw [e27] at hT; clear e27
                rw [e28] at hT; clear e28
                rw [e29] at hT; clear e29
                rw [e30] at hT; clear e30
                rw [e31] at hT; clear e31
                rw [e32] at hT; clear e32
                rw [e33] at hT; clear e33
                rw [e34] at hT; clear e34
                rw [e35] at hT; clear e35
                rw [e36] at hT; clear e36
                rw [e37] at hT; clear e37
                rw [e38] at hT; clear e38
                rw [e39] at hT; clear e39
                generalize T[40]?.getD undef = u40 at hT
                generalize T[41]?.getD undef = u41 at hT
                generalize T[42]?.getD undef = u42 at hT
                generalize T[43]?.getD undef = u43 at hT
                generalize T[44]?.getD undef = u44 at hT
                generalize T[45]?.getD undef = u45 at hT
                generalize T[46]?.getD undef = u46 at hT
                generalize T[47]?.getD undef = u47 at hT
                generalize T[48]?.getD undef = u48 at hT
                generalize T[49]?.getD undef = u49 at hT
                generalize T[50]?.getD undef = u50 at hT
                generalize T[51]?.getD undef = u51 at hT
                generalize T[52]?.getD undef = u52 at hT
                generalize T[53]?.getD undef = u53 at hT
                generalize T[54]?.getD undef = u54 at hT
                generalize T[55]?.getD undef = u55 at hT
                generalize T[56]?.getD undef = u56 at hT
                generalize T[57]?.getD undef = u57 at hT
                generalize T[58]?.getD undef = u58 at hT
                generalize T[59]?.getD undef = u59 at hT
                generalize T[60]?.getD undef = u60 at hT
                generalize T[61]?.getD undef = u61 at hT
                generalize T[62]?.getD undef = u62 at hT
                generalize T[63]?.getD undef = u63 at hT
                generalize T[64]?.getD undef = u64 at hT
                generalize T[65]?.getD undef = u65 at hT
                generalize T[66]?.getD undef = u66 at hT
                generalize T[67]?.getD undef = u67 at hT
                generalize T[68]?.getD undef = u68 at hT
                generalize T[69]?.getD undef = u69 at hT
                generalize T[70]?.getD undef = u70 at hT
                generalize T[71]?.getD undef = u71 at hT
                generalize T[72]?.getD undef = u72 at hT
                generalize T[73]?.getD undef = u73 at hT
                generalize T[74]?.getD undef = u74 at hT
                generalize T[75]?.getD undef = u75 at hT
                generalize T[76]?.getD undef = u76 at hT
                generalize T[77]?.getD undef = u77 at hT
                generalize T[78]?.getD undef = u78 at hT
                generalize T[79]?.getD undef = u79 at hT
                generalize T[80]?.getD undef = u80 at hT
                generalize T[81]?.getD undef = u81 at hT
                generalize T[82]?.getD undef = u82 at hT
                generalize T[83]?.getD undef = u83 at hT
                generalize T[84]?.getD undef = u84 at hT
                generalize T[85]?.getD undef = u85 at hT
                generalize T[86]?.getD undef = u86 at hT
                generalize T[87]?.getD undef = u87 at hT
                generalize T[88]?.getD undef = u88 at hT
                generalize T[89]?.getD undef = u89 at hT
                generalize T[90]?.getD undef = u90 at hT
                generalize T[91]?.getD undef = u91 at hT
                rw [e92] at hT; clear e92
                rw [e93] at hT; clear e93
                rw [e94] at hT; clear e94
                rw [e95] at hT; clear e95
                rw [e96] at hT; clear e96
                rw [e97] at hT; clear e97
                rw [e98] at hT; clear e98
                rw [e99] at hT; clear e99
                rw [e100] at hT; clear e100
                rw [e101] at hT; clear e101
                rw [e102] at hT; clear e102
                rw [e103] at hT; clear e103
                subst hT
                obtain ⟨_, hBF0⟩ := hiF
                have hBF : Blk wF wr.heap.size 32 #[.int .i64 (x0.toNat : Int), .bool y, .int .i64 x2, .int .i64 x3, .int .i64 x4, .int .i64 x5, .slice (some ⟨ab, off + (k + 12), none⟩) nn (c - (k + 12))] := hBF0
                have bF : Below wr.heap.size wr wF := hbF.below (Nat.le_refl _) (by simp)
                have cBF := hBF.cell
                have hzF := bF.size
                clear hBF0 hbF hRN HY X2 X3 X4 X5 HCK
                go_wp2_with fail
                refine (rmay_any (x0.toNat : Int) y x2 x3 x4 x5 (some ⟨ab, off + (k + 12), none⟩) nn (c - (k + 12)) L _ hLn).mono ?_
                rintro e w5 ⟨rfl, hb5⟩
                have b5 : Below wr.heap.size wr w5 := (by (have q_hb5 := Below.size hb5; (try simp at q_hb5); have q_bF := Below.size bF; (try simp at q_bF); repeat (first | exact Below.refl _ _ | (refine Below.trans ?_ (Below.mono hb5 (by first | omega | (simp; omega) | simp))) | (refine Below.trans ?_ (Below.mono bF (by first | omega | (simp; omega) | simp))) | (refine Below.setCell ?_ (by first | omega | (simp; omega) | simp) _) | (refine Below.alloc ?_ (by first | omega | (simp; omega) | simp) _) | apply Below.drew | apply below_drewN)))
                have hz5 := b5.size
                have hB5 := hBF.on hb5
                have cB5 := hB5.cell
                clear cBF hBF hb5 bF
                obtain ⟨M, hM⟩ : ∃ M, mayA (((x0.toNat : Int), y, x2, x3, x4, x5), L) = M := ⟨_, rfl⟩
                rw [hM]
                cases M with
                | false =>
                  have hS := Lib.hid (show stepOK (b.drop k) = false by rw [HSTEP.out, HREAD.out]; exact hM)
                  clear hM
                  go_wp2_with fail
                  go_ret2
                  exact ⟨.inr ⟨es, _, HPA.out, hne.out, hS.out, rfl⟩, (by (have q_b5 := Below.size b5; (try simp at q_b5); have q_hbel := Below.size hbel; (try simp at q_hbel); repeat (first | exact Below.refl _ _ | (refine Below.trans ?_ (Below.mono b5 (by first | omega | (simp; omega) | simp))) | (refine Below.trans ?_ (Below.mono hbel (by first | omega | (simp; omega) | simp))) | (refine Below.setCell ?_ (by first | omega | (simp; omega) | simp) _) | (refine Below.alloc ?_ (by first | omega | (simp; omega) | simp) _) | apply Below.drew | apply below_drewN)))⟩
                | true =>
                  have HPA2 := Lib.hid (show PA b (es ++ [(((x0.toNat : Int), y, x2, x3, x4, x5), L)]) (b.drop (k + 12 + nn)) by
                    have h_ := PA.more HPA.out (show stepOK (b.drop k) = true by rw [HSTEP.out, HREAD.out]; exact hM)
                    rw [HREAD.out, HREST.out] at h_
                    exact h_)
                  obtain ⟨hs, hFr, hAll⟩ := hO.below b5
                  have hsl : hs.length = es.length := hAll.1
                  have hA2 := hAll.below ((Below.refl _ w5).alloc (Nat.le_refl _) (.cells #[.int .i64 (x0.toNat : Int), .bool y, .int .i64 x2, .int .i64 x3, .int .i64 x4, .int .i64 x5, .slice (some ⟨ab, off + (k + 12), none⟩) nn (c - (k + 12))] 32))
                  have hF2 := hFr.alloc (.cells #[.int .i64 (x0.toNat : Int), .bool y, .int .i64 x2, .int .i64 x3, .int .i64 x4, .int .i64 x5, .slice (some ⟨ab, off + (k + 12), none⟩) nn (c - (k + 12))] 32)
                  have HI2 := Lib.hid (show RItem actK w.heap.size 5 (w5.alloc (.cells #[.int .i64 (x0.toNat : Int), .bool y, .int .i64 x2, .int .i64 x3, .int .i64 x4, .int .i64 x5, .slice (some ⟨ab, off + (k + 12), none⟩) nn (c - (k + 12))] 32)) (((x0.toNat : Int), y, x2, x3, x4, x5), (some ⟨ab, off + (k + 12), none⟩, nn, (c - (k + 12)))) (((x0.toNat : Int), y, x2, x3, x4, x5), L) from ⟨rfl, ((hX9.below hbel).below b5).below ((Below.refl _ w5).alloc (Nat.le_refl _) _), hn9, hm9⟩)
                  have hRb : RdG actE (w5.alloc (.cells #[.int .i64 (x0.toNat : Int), .bool y, .int .i64 x2, .int .i64 x3, .int .i64 x4, .int .i64 x5, .slice (some ⟨ab, off + (k + 12), none⟩) nn (c - (k + 12))] 32)) (some ⟨w5.heap.size, 0, none⟩) 1 [(((x0.toNat : Int), y, x2, x3, x4, x5), (some ⟨ab, off + (k + 12), none⟩, nn, (c - (k + 12))))] := RdG.boxed _ _ _ _ rfl
                  clear hM HPA HREAD HSTEP HREST hX9 HL
                  go_wp2_with (at_builtin; refine wpList_append_G (E := actE) _ rfl (.tmp 95) (.tmp 97) _ rfl w.heap.size 32 Try.underlying22 infoRA rfl u4 hs rfl hF2 (some ⟨w5.heap.size, 0, none⟩) 1 1 [(((x0.toNat : Int), y, x2, x3, x4, x5), (some ⟨ab, off + (k + 12), none⟩, nn, (c - (k + 12))))] rfl hRb (by omega) (by omega) (by simp; omega) ?_; intro b' w6 hF3 hg3 hb3)
                  have hO3 : OwnR actK 32 w.heap.size w.heap.size 5 w6 b' (es ++ [(((x0.toNat : Int), y, x2, x3, x4, x5), L)]) := by
                    obtain ⟨A4, c4', e4, hown4⟩ := id hF2
                    exact ⟨_, hF3, hA2.more HI2.out hown4 (Nat.le_refl _) (by decide) hg3⟩
                  have b6 : Below w.heap.size w w6 := (show Below w.heap.size w (w5.alloc (.cells #[.int .i64 (x0.toNat : Int), .bool y, .int .i64 x2, .int .i64 x3, .int .i64 x4, .int .i64 x5, .slice (some ⟨ab, off + (k + 12), none⟩) nn (c - (k + 12))] 32)) from (by (have q_b5 := Below.size b5; (try simp at q_b5); have q_hbel := Below.size hbel; (try simp at q_hbel); repeat (first | exact Below.refl _ _ | (refine Below.trans ?_ (Below.mono b5 (by first | omega | (simp; omega) | simp))) | (refine Below.trans ?_ (Below.mono hbel (by first | omega | (simp; omega) | simp))) | (refine Below.setCell ?_ (by first | omega | (simp; omega) | simp) _) | (refine Below.alloc ?_ (by first | omega | (simp; omega) | simp) _) | apply Below.drew | apply below_drewN)))).trans hb3
                  go_roundw
                  case rel => exact ⟨es ++ [(((x0.toNat : Int), y, x2, x3, x4, x5), L)], k + 12 + nn, by go_num, by omega, by simp; omega, HPA2.out, hO3, b6⟩
                  case measure => simp [intOf]; omega
          · have q3 : ((nn : Int) > n - k - 12) := by omega
            have hS := Lib.hid (HBN.out (by omega))
            go_wp2_with fail
            go_ret2
            exact ⟨.inr ⟨es, _, HPA.out, hne.out, hS.out, rfl⟩, hbel⟩
        · have hS := Lib.hid (HB1.out (by omega))
          have q2 : ((x1.toNat : Int) > 1) := by omega
          go_wp2_with fail
          go_ret2
          exact ⟨.inr ⟨es, _, HPA.out, hne.out, hS.out, rfl⟩, hbel⟩
      · have hS := Lib.hid (doc_short (b := b) (k := k) (by omega))
        have q1 : ((n : Int) - k < 12) := by omega
        go_wp2_with fail
        go_ret2
        exact ⟨.inr ⟨es, _, HPA.out, hne.out, hS.out, rfl⟩, hbel⟩
    · obtain rfl : k = n := by omega
      have hT := HPA.out
      rw [List.drop_of_length_le (by omega)] at hT
      have HT := Lib.hid hT
      clear hT HPA
      go_wp2_with fail
      go_ret2
      exact ⟨.inl ⟨es, _, HT.out, rfl, hO⟩, hbel⟩
end Go.Proofs.Ythlgagjnlnakkaa
