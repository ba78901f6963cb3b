/- Pages as bytes: parsed by the document. -/
import Derived.Test.YtidlcplamgajpaaPgB2
import Derived.Test.YtidlcplamgajpaaPages10
import Derived.Test.YtidlcplamgajpaaFlq
import Derived.Test.YtidlcplamgajpaaKept
namespace Go.Proofs.Ytidlcplamgajpaa
open Go.RowKit

theorem Rd.sub {w : World} {ab off n : Nat} {l : List UInt8} (h : Rd w (some ⟨ab, off, none⟩) n l) (j m : Nat) (hj : j + m ≤ n) : Rd w (some ⟨ab, off + j, none⟩) m ((l.take (j + m)).drop j) := by
  have hl := h.1
  refine ⟨by simp; omega, fun hm => ?_⟩
  obtain ⟨b', o', hA, hlt, hc⟩ := h.2 (by omega)
  injection hA with hA
  injection hA with e1 e2
  subst e1 e2
  refine ⟨ab, off + j, rfl, hlt, fun i u hi => ?_⟩
  rw [List.getElem?_drop, List.getElem?_take] at hi
  split at hi
  · rw [Nat.add_assoc]
    exact hc (j + i) u hi
  · cases hi
theorem Rd.cellAt {w : World} {ab off n k : Nat} {l : List UInt8} {x : UInt8} (h : Rd w (some ⟨ab, off, none⟩) n l) (hx : l[k]? = some x) : w.cell? ⟨ab, off + k, none⟩ = some (.int .u8 (x.toNat : Int)) := by
  have hk : k < l.length := (List.getElem?_eq_some_iff.1 hx).1
  have hl := h.1
  obtain ⟨b', o', hA, hlt, hc⟩ := h.2 (by omega)
  injection hA with hA
  injection hA with e1 e2
  subst e1 e2
  exact hc k x hx
theorem Blk.fill5 {w : World} {g : Nat} {T : TypeId} {z0 z1 z2 z3 z4 : Value} (h : Blk w g T #[z0, z1, z2, z3, z4]) (a b c d e : Value) : Blk (((((w.setCell ⟨g, 0, none⟩ a).setCell ⟨g, 1, none⟩ b).setCell ⟨g, 2, none⟩ c).setCell ⟨g, 3, none⟩ d).setCell ⟨g, 4, none⟩ e) g T #[a, b, c, d, e] := by
  simpa using ((((h.set_ 0 a).set_ 1 b).set_ 2 c).set_ 3 d).set_ 4 e
theorem Kept.fill5 {w : World} {g : Nat} (a b c d e : Value) : Kept [g] w (((((w.setCell ⟨g, 0, none⟩ a).setCell ⟨g, 1, none⟩ b).setCell ⟨g, 2, none⟩ c).setCell ⟨g, 3, none⟩ d).setCell ⟨g, 4, none⟩ e) :=
  ((((((Kept.refl [g] w).setCell (p := ⟨g, 0, none⟩) (by simp) a).setCell (p := ⟨g, 1, none⟩) (by simp) b).setCell (p := ⟨g, 2, none⟩) (by simp) c).setCell (p := ⟨g, 3, none⟩) (by simp) d).setCell (p := ⟨g, 4, none⟩) (by simp) e)
def BoxInv (g : Nat) (T : TypeId) (zs cs : Array Value) : Nat → Value → World → Prop
  | 0, _, W => W.heap.size = g
  | 1, u, W => u = .pointer (some ⟨g, 0, none⟩) ∧ Blk W g T zs
  | _, _, W => Blk W g T cs

theorem sub_chunk (b : List UInt8) (k i j : Nat) (hj : j ≤ 16) : ((chunkB b k).take j).drop i = (b.take (k * 16 + j)).drop (k * 16 + i) := by
  unfold chunkB
  rw [List.take_take, Nat.min_eq_left hj, List.take_drop, List.drop_drop]
theorem chunk_get (b : List UInt8) (k i : Nat) (x : UInt8) (hi : i < 16) (h : b[k * 16 + i]? = some x) : (chunkB b k).getD i 0 = x := by
  unfold chunkB
  simp [List.getD, List.getElem?_take, hi, h]
/-- Are all pages of a block ones that may be? -/
def okB (b : List UInt8) : Bool := (parseP b 16).all mayB
theorem okB_no {b : List UInt8} {k : Nat} (hk : k < 16) (h : mayB (pgC (chunkB b k)) = false) : okB b = false := by
  unfold okB
  rw [List.all_eq_false]
  exact ⟨_, List.mem_map.2 ⟨k, List.mem_range.2 hk, rfl⟩, by rw [h]; simp⟩
/-- What the document's Parse says. -/
def RParsedP (T : TypeId) (w : World) (b : List UInt8) (e : Ending) (w' : World) : Prop :=
  (okB b = true ∧ ∃ v, e = .returned (.tuple #[v, .bool true]) ∧ FreshG pgE T w.heap.size w' v (parseP b 16) ∧ Below w.heap.size w w') ∨ (okB b = false ∧ e = .returned (.tuple #[.slice none 0 0, .bool false]) ∧ Below w.heap.size w w')
set_option maxRecDepth 100000 in
set_option maxHeartbeats 4000000 in
theorem rpgparse_any (ab off c : Nat) (b : List UInt8) (w : World) (hr : Rd w (some ⟨ab, off, none⟩) 256 b) (hc : 256 ≤ c) (hcm : c ≤ maxLen) :
    Calls Try.prog 26 #[.slice (some ⟨ab, off, none⟩) 256 c] w (RParsedP 33 w b) := by
  unfold maxLen at hcm
  have hbl := hr.len
  go_enter Try.func26, Try.ntmps26
  go_wp2_with fail
  go_loopw [4, 5] (fun ov kv wr => ∃ k : Nat, k ≤ 16 ∧ kv = .int .i64 ((k * 16 : Nat) : Int) ∧ FreshG pgE 33 w.heap.size wr ov (parseP b k) ∧ Hid (∀ j, j < k → mayB (pgC (chunkB b j)) = true) ∧ Below w.heap.size w wr) (fun _ kv _ => 256 - (intOf kv).toNat)
  case atStart => exact ⟨0, by omega, rfl, FreshG.nil _ _ _, Lib.hid (fun j hj => absurd hj (by omega)), Below.refl _ _⟩
  case round =>
    obtain ⟨k, hk, rfl, hF, hall, hbel⟩ := hrel
    have hbz := hbel.size
    by_cases hlt : k < 16
    · obtain ⟨x0, h0⟩ : ∃ x, b[k * 16 + 0]? = some x := ⟨_, List.getElem?_eq_getElem (by omega)⟩
      obtain ⟨x1, h1⟩ : ∃ x, b[k * 16 + 1]? = some x := ⟨_, List.getElem?_eq_getElem (by omega)⟩
      obtain ⟨x2, h2⟩ : ∃ x : Int, (getL ((b.take (k * 16 + 4)).drop (k * 16 + 2)) : Int) = x := ⟨_, rfl⟩
      obtain ⟨x3, h3⟩ : ∃ x : Int, (getL ((b.take (k * 16 + 8)).drop (k * 16 + 4)) : Int) = x := ⟨_, rfl⟩
      obtain ⟨x4, h4⟩ : ∃ x : Int, (getL ((b.take (k * 16 + 16)).drop (k * 16 + 8)) : Int) = x := ⟨_, rfl⟩
      have hpg : pgC (chunkB b k) = ((x0.toNat : Int), (x1.toNat : Int), x2, x3, x4) := by
        unfold pgC
        rw [chunk_get b k 0 x0 (by omega) h0, chunk_get b k 1 x1 (by omega) h1, sub_chunk b k 2 4 (by omega), sub_chunk b k 4 8 (by omega), sub_chunk b k 8 16 (by omega), h2, h3, h4]
      have hl2 := getL_lt ((b.take (k * 16 + 4)).drop (k * 16 + 2))
      have hl3 := getL_lt ((b.take (k * 16 + 8)).drop (k * 16 + 4))
      rw [show ((b.take (k * 16 + 4)).drop (k * 16 + 2)).length = 2 by simp; omega] at hl2
      rw [show ((b.take (k * 16 + 8)).drop (k * 16 + 4)).length = 4 by simp; omega] at hl3
      have r2 : 0 ≤ x2 ∧ x2 < 65536 := by omega
      have r3 : 0 ≤ x3 ∧ x3 < 4294967296 := by omega
      have hst := Lib.hid (parseP_step b k)
      rw [hpg] at hst
      have hrr := hr.below hbel
      have hkl := parseP_len b k
      obtain ⟨K, hK⟩ : ∃ K, K = k * 16 := ⟨_, rfl⟩
      rw [← hK] at h0 h1 h2 h3 h4 ⊢
      have hK16 : K + 16 ≤ 256 := by omega
      have HK := Lib.hid hK
      have G0 := Lib.hid h0
      have G1 := Lib.hid h1
      have X2 := Lib.hid h2
      have X3 := Lib.hid h3
      have X4 := Lib.hid h4
      have HPG := Lib.hid hpg
      rw [Nat.add_zero] at G0
      clear h0 h1 h2 h3 h4 hpg hl2 hl3 hK
      go_wp2_with fail
      have hRN : RdN wr [wr.heap.size] (some ⟨ab, off, none⟩) 256 b := RdN.old hrr (by simp)
      refine wp_flq [(fun y_ _ => y_ = .slice (some ⟨ab, off, none⟩) 256 c), (fun y_ _ => y_ = .int .i64 (K : Int)), (fun y_ _ => y_ = .pointer (some ⟨ab, off + K, none⟩)), (fun y_ _ => y_ = .int .u8 (x0.toNat : Int)), (fun y_ _ => y_ = .int .i64 (x0.toNat : Int)), (fun y_ _ => y_ = .slice (some ⟨ab, off, none⟩) 256 c), (fun y_ _ => y_ = .int .i64 (K : Int)), (fun y_ _ => y_ = .int .i64 ((K : Int) + 1)), (fun y_ _ => y_ = .pointer (some ⟨ab, off + (K + 1), none⟩)), (fun y_ _ => y_ = .int .u8 (x1.toNat : Int)), (fun y_ _ => y_ = .int .i64 (x1.toNat : Int)), (fun y_ _ => y_ = .slice (some ⟨ab, off, none⟩) 256 c), (fun y_ _ => y_ = .int .i64 (K : Int)), (fun y_ _ => y_ = .int .i64 ((K : Int) + 2)), (fun y_ _ => y_ = .int .i64 (K : Int)), (fun y_ _ => y_ = .int .i64 ((K : Int) + 4)), (fun y_ _ => y_ = .slice (some ⟨ab, off + (K + 2), none⟩) 2 (c - (K + 2))), (fun y_ _ => y_ = .int .u64 x2), (fun y_ _ => y_ = .int .i64 x2), (fun y_ _ => y_ = .slice (some ⟨ab, off, none⟩) 256 c), (fun y_ _ => y_ = .int .i64 (K : Int)), (fun y_ _ => y_ = .int .i64 ((K : Int) + 4)), (fun y_ _ => y_ = .int .i64 (K : Int)), (fun y_ _ => y_ = .int .i64 ((K : Int) + 8)), (fun y_ _ => y_ = .slice (some ⟨ab, off + (K + 4), none⟩) 4 (c - (K + 4))), (fun y_ _ => y_ = .int .u64 x3), (fun y_ _ => y_ = .int .i64 x3), (fun y_ _ => y_ = .slice (some ⟨ab, off, none⟩) 256 c), (fun y_ _ => y_ = .int .i64 (K : Int)), (fun y_ _ => y_ = .int .i64 ((K : Int) + 8)), (fun y_ _ => y_ = .int .i64 (K : Int)), (fun y_ _ => y_ = .int .i64 ((K : Int) + 16)), (fun y_ _ => y_ = .slice (some ⟨ab, off + (K + 8), none⟩) 8 (c - (K + 8))), (fun y_ _ => y_ = .int .u64 x4), (fun y_ _ => y_ = .agg #[.int .i64 (x0.toNat : Int), .int .i64 (x1.toNat : Int), .int .i64 x2, .int .i64 x3, .int .u64 x4]), (fun y_ _ => y_ = .pointer (some ⟨wr.heap.size, 0, none⟩)), (fun _ _ => True)] [wr.heap.size] (BoxInv wr.heap.size 33 #[.int .i64 0, .int .i64 0, .int .i64 0, .int .i64 0, .int .u64 0] #[.int .i64 (x0.toNat : Int), .int .i64 (x1.toNat : Int), .int .i64 x2, .int .i64 x3, .int .u64 x4]) [35, 36] (by kernel_rfl) ⟨StabW.eq _ _, StabW.eq _ _, StabW.eq _ _, StabW.eq _ _, StabW.eq _ _, StabW.eq _ _, StabW.eq _ _, StabW.eq _ _, StabW.eq _ _, StabW.eq _ _, StabW.eq _ _, StabW.eq _ _, StabW.eq _ _, StabW.eq _ _, StabW.eq _ _, StabW.eq _ _, StabW.eq _ _, StabW.eq _ _, StabW.eq _ _, StabW.eq _ _, StabW.eq _ _, StabW.eq _ _, StabW.eq _ _, StabW.eq _ _, StabW.eq _ _, StabW.eq _ _, StabW.eq _ _, StabW.eq _ _, StabW.eq _ _, StabW.eq _ _, StabW.eq _ _, StabW.eq _ _, StabW.eq _ _, StabW.eq _ _, StabW.eq _ _, StabW.eq _ _, StabW.any _, trivial⟩ ((show wr.drew.heap.size = wr.heap.size from rfl)) (by kernel_rfl) (by kernel_rfl) (by kernel_rfl) (by rfl) ?_ ?_
      · intro kq hkq
        match kq, hkq with
        | 0, _ =>
          refine StepQ.plain _ rfl rfl rfl [(0, none)] (by kernel_rfl) (fun af wf hbw hz hf Kf hKf => ?_)
          obtain ⟨g0, _⟩ := hf
          have h0 : af.tmps[0]?.getD undef = .slice (some ⟨ab, off, none⟩) 256 c := g0
          clear g0
          go_simp
          exact hKf _ _ rfl rfl
        | 1, _ =>
          refine StepQ.plain _ rfl rfl rfl [(5, none)] (by kernel_rfl) (fun af wf hbw hz hf Kf hKf => ?_)
          obtain ⟨g5, _⟩ := hf
          have h5 : af.tmps[5]?.getD undef = .int .i64 (K : Int) := g5
          clear g5
          go_simp
          exact hKf _ _ rfl rfl
        | 2, _ =>
          refine StepQ.plain _ rfl rfl rfl [(11, some 0), (12, some 1)] (by kernel_rfl) (fun af wf hbw hz hf Kf hKf => ?_)
          obtain ⟨g11, g12, _⟩ := hf
          have h11 : af.tmps[11]?.getD undef = .slice (some ⟨ab, off, none⟩) 256 c := g11
          have h12 : af.tmps[12]?.getD undef = .int .i64 (K : Int) := g12
          clear g11 g12
          go_simp
          exact hKf _ _ rfl rfl
        | 3, _ =>
          refine StepQ.plain _ rfl rfl rfl [(13, some 2)] (by kernel_rfl) (fun af wf hbw hz hf Kf hKf => ?_)
          obtain ⟨g13, _⟩ := hf
          have h13 : af.tmps[13]?.getD undef = .pointer (some ⟨ab, off + K, none⟩) := g13
          clear g13
          have cx0 := Rd.cellAt (RdN.kept (RdN.drew hRN) hbw (fun _ h_ => h_)).1 G0.out
          go_simp
          exact hKf _ _ rfl rfl
        | 4, _ =>
          refine StepQ.plain _ rfl rfl rfl [(14, some 3)] (by kernel_rfl) (fun af wf hbw hz hf Kf hKf => ?_)
          obtain ⟨g14, _⟩ := hf
          have h14 : af.tmps[14]?.getD undef = .int .u8 (x0.toNat : Int) := g14
          clear g14
          have hx0w : IntKind.i64.wrap (x0.toNat : Int) = (x0.toNat : Int) := IntWalk.i64_in _ (by have := x0.toNat_lt; omega)
          go_simp
          exact hKf _ _ rfl rfl
        | 5, _ =>
          refine StepQ.plain _ rfl rfl rfl [(0, none)] (by kernel_rfl) (fun af wf hbw hz hf Kf hKf => ?_)
          obtain ⟨g0, _⟩ := hf
          have h0 : af.tmps[0]?.getD undef = .slice (some ⟨ab, off, none⟩) 256 c := g0
          clear g0
          go_simp
          exact hKf _ _ rfl rfl
        | 6, _ =>
          refine StepQ.plain _ rfl rfl rfl [(5, none)] (by kernel_rfl) (fun af wf hbw hz hf Kf hKf => ?_)
          obtain ⟨g5, _⟩ := hf
          have h5 : af.tmps[5]?.getD undef = .int .i64 (K : Int) := g5
          clear g5
          go_simp
          exact hKf _ _ rfl rfl
        | 7, _ =>
          refine StepQ.plain _ rfl rfl rfl [(17, some 6)] (by kernel_rfl) (fun af wf hbw hz hf Kf hKf => ?_)
          obtain ⟨g17, _⟩ := hf
          have h17 : af.tmps[17]?.getD undef = .int .i64 (K : Int) := g17
          clear g17
          have hwr : IntKind.i64.wrap ((K : Int) + 1) = (K : Int) + 1 := IntWalk.i64_in _ (by omega)
          go_simp
          exact hKf _ _ rfl rfl
        | 8, _ =>
          refine StepQ.plain _ rfl rfl rfl [(16, some 5), (18, some 7)] (by kernel_rfl) (fun af wf hbw hz hf Kf hKf => ?_)
          obtain ⟨g16, g18, _⟩ := hf
          have h16 : af.tmps[16]?.getD undef = .slice (some ⟨ab, off, none⟩) 256 c := g16
          have h18 : af.tmps[18]?.getD undef = .int .i64 ((K : Int) + 1) := g18
          clear g16 g18
          have hbd : 0 ≤ (K : Int) + 1 ∧ (K : Int) + 1 < 256 := by omega
          go_simp
          exact hKf _ _ rfl rfl
        | 9, _ =>
          refine StepQ.plain _ rfl rfl rfl [(19, some 8)] (by kernel_rfl) (fun af wf hbw hz hf Kf hKf => ?_)
          obtain ⟨g19, _⟩ := hf
          have h19 : af.tmps[19]?.getD undef = .pointer (some ⟨ab, off + (K + 1), none⟩) := g19
          clear g19
          have cx1 := Rd.cellAt (RdN.kept (RdN.drew hRN) hbw (fun _ h_ => h_)).1 G1.out
          go_simp
          exact hKf _ _ rfl rfl
        | 10, _ =>
          refine StepQ.plain _ rfl rfl rfl [(20, some 9)] (by kernel_rfl) (fun af wf hbw hz hf Kf hKf => ?_)
          obtain ⟨g20, _⟩ := hf
          have h20 : af.tmps[20]?.getD undef = .int .u8 (x1.toNat : Int) := g20
          clear g20
          have hx1w : IntKind.i64.wrap (x1.toNat : Int) = (x1.toNat : Int) := IntWalk.i64_in _ (by have := x1.toNat_lt; omega)
          go_simp
          exact hKf _ _ rfl rfl
        | 11, _ =>
          refine StepQ.plain _ rfl rfl rfl [(0, none)] (by kernel_rfl) (fun af wf hbw hz hf Kf hKf => ?_)
          obtain ⟨g0, _⟩ := hf
          have h0 : af.tmps[0]?.getD undef = .slice (some ⟨ab, off, none⟩) 256 c := g0
          clear g0
          go_simp
          exact hKf _ _ rfl rfl
        | 12, _ =>
          refine StepQ.plain _ rfl rfl rfl [(5, none)] (by kernel_rfl) (fun af wf hbw hz hf Kf hKf => ?_)
          obtain ⟨g5, _⟩ := hf
          have h5 : af.tmps[5]?.getD undef = .int .i64 (K : Int) := g5
          clear g5
          go_simp
          exact hKf _ _ rfl rfl
        | 13, _ =>
          refine StepQ.plain _ rfl rfl rfl [(23, some 12)] (by kernel_rfl) (fun af wf hbw hz hf Kf hKf => ?_)
          obtain ⟨g23, _⟩ := hf
          have h23 : af.tmps[23]?.getD undef = .int .i64 (K : Int) := g23
          clear g23
          have hwr : IntKind.i64.wrap ((K : Int) + 2) = (K : Int) + 2 := IntWalk.i64_in _ (by omega)
          go_simp
          exact hKf _ _ rfl rfl
        | 14, _ =>
          refine StepQ.plain _ rfl rfl rfl [(5, none)] (by kernel_rfl) (fun af wf hbw hz hf Kf hKf => ?_)
          obtain ⟨g5, _⟩ := hf
          have h5 : af.tmps[5]?.getD undef = .int .i64 (K : Int) := g5
          clear g5
          go_simp
          exact hKf _ _ rfl rfl
        | 15, _ =>
          refine StepQ.plain _ rfl rfl rfl [(25, some 14)] (by kernel_rfl) (fun af wf hbw hz hf Kf hKf => ?_)
          obtain ⟨g25, _⟩ := hf
          have h25 : af.tmps[25]?.getD undef = .int .i64 (K : Int) := g25
          clear g25
          have hwr : IntKind.i64.wrap ((K : Int) + 4) = (K : Int) + 4 := IntWalk.i64_in _ (by omega)
          go_simp
          exact hKf _ _ rfl rfl
        | 16, _ =>
          refine StepQ.plain _ rfl rfl rfl [(22, some 11), (24, some 13), (26, some 15)] (by kernel_rfl) (fun af wf hbw hz hf Kf hKf => ?_)
          obtain ⟨g22, g24, g26, _⟩ := hf
          have h22 : af.tmps[22]?.getD undef = .slice (some ⟨ab, off, none⟩) 256 c := g22
          have h24 : af.tmps[24]?.getD undef = .int .i64 ((K : Int) + 2) := g24
          have h26 : af.tmps[26]?.getD undef = .int .i64 ((K : Int) + 4) := g26
          clear g22 g24 g26
          have sl1 : 0 ≤ (K : Int) + 4 ∧ (K : Int) + 4 ≤ c := by omega
          have sl2 : 0 ≤ (K : Int) + 2 ∧ (K : Int) + 2 ≤ (K : Int) + 4 := by omega
          have sl3 : ((K : Int) + 4).toNat = K + 4 := by omega
          have sl4 : ((K : Int) + 2).toNat = K + 2 := by omega
          have sl5 : K + 4 - (K + 2) = 2 := by omega
          have sl6 : ¬ c = K + 2 := by omega
          go_simp
          exact hKf _ _ rfl rfl
        | 17, _ =>
          refine StepQ.plain _ rfl rfl rfl [(27, some 16)] (by kernel_rfl) (fun af wf hbw hz hf Kf hKf => ?_)
          obtain ⟨g27, _⟩ := hf
          have h27 : af.tmps[27]?.getD undef = .slice (some ⟨ab, off + (K + 2), none⟩) 2 (c - (K + 2)) := g27
          clear g27
          go_simp
          refine (rget_short (some ⟨ab, off + (K + 2), none⟩) 2 (c - (K + 2)) ((b.take (K + 4)).drop (K + 2)) _ (Rd.sub (RdN.kept (RdN.drew hRN) hbw (fun _ h_ => h_)).1 (K + 2) 2 (by omega)) (by omega)).mono ?_
          rintro e wN ⟨rfl, rfl⟩
          exact hKf _ _ (rfl) (int_eq X2.out)
        | 18, _ =>
          refine StepQ.plain _ rfl rfl rfl [(28, some 17)] (by kernel_rfl) (fun af wf hbw hz hf Kf hKf => ?_)
          obtain ⟨g28, _⟩ := hf
          have h28 : af.tmps[28]?.getD undef = .int .u64 x2 := g28
          clear g28
          have hw_ : IntKind.i64.wrap x2 = x2 := IntWalk.i64_in _ (by omega)
          go_simp
          exact hKf _ _ rfl rfl
        | 19, _ =>
          refine StepQ.plain _ rfl rfl rfl [(0, none)] (by kernel_rfl) (fun af wf hbw hz hf Kf hKf => ?_)
          obtain ⟨g0, _⟩ := hf
          have h0 : af.tmps[0]?.getD undef = .slice (some ⟨ab, off, none⟩) 256 c := g0
          clear g0
          go_simp
          exact hKf _ _ rfl rfl
        | 20, _ =>
          refine StepQ.plain _ rfl rfl rfl [(5, none)] (by kernel_rfl) (fun af wf hbw hz hf Kf hKf => ?_)
          obtain ⟨g5, _⟩ := hf
          have h5 : af.tmps[5]?.getD undef = .int .i64 (K : Int) := g5
          clear g5
          go_simp
          exact hKf _ _ rfl rfl
        | 21, _ =>
          refine StepQ.plain _ rfl rfl rfl [(31, some 20)] (by kernel_rfl) (fun af wf hbw hz hf Kf hKf => ?_)
          obtain ⟨g31, _⟩ := hf
          have h31 : af.tmps[31]?.getD undef = .int .i64 (K : Int) := g31
          clear g31
          have hwr : IntKind.i64.wrap ((K : Int) + 4) = (K : Int) + 4 := IntWalk.i64_in _ (by omega)
          go_simp
          exact hKf _ _ rfl rfl
        | 22, _ =>
          refine StepQ.plain _ rfl rfl rfl [(5, none)] (by kernel_rfl) (fun af wf hbw hz hf Kf hKf => ?_)
          obtain ⟨g5, _⟩ := hf
          have h5 : af.tmps[5]?.getD undef = .int .i64 (K : Int) := g5
          clear g5
          go_simp
          exact hKf _ _ rfl rfl
        | 23, _ =>
          refine StepQ.plain _ rfl rfl rfl [(33, some 22)] (by kernel_rfl) (fun af wf hbw hz hf Kf hKf => ?_)
          obtain ⟨g33, _⟩ := hf
          have h33 : af.tmps[33]?.getD undef = .int .i64 (K : Int) := g33
          clear g33
          have hwr : IntKind.i64.wrap ((K : Int) + 8) = (K : Int) + 8 := IntWalk.i64_in _ (by omega)
          go_simp
          exact hKf _ _ rfl rfl
        | 24, _ =>
          refine StepQ.plain _ rfl rfl rfl [(30, some 19), (32, some 21), (34, some 23)] (by kernel_rfl) (fun af wf hbw hz hf Kf hKf => ?_)
          obtain ⟨g30, g32, g34, _⟩ := hf
          have h30 : af.tmps[30]?.getD undef = .slice (some ⟨ab, off, none⟩) 256 c := g30
          have h32 : af.tmps[32]?.getD undef = .int .i64 ((K : Int) + 4) := g32
          have h34 : af.tmps[34]?.getD undef = .int .i64 ((K : Int) + 8) := g34
          clear g30 g32 g34
          have sl1 : 0 ≤ (K : Int) + 8 ∧ (K : Int) + 8 ≤ c := by omega
          have sl2 : 0 ≤ (K : Int) + 4 ∧ (K : Int) + 4 ≤ (K : Int) + 8 := by omega
          have sl3 : ((K : Int) + 8).toNat = K + 8 := by omega
          have sl4 : ((K : Int) + 4).toNat = K + 4 := by omega
          have sl5 : K + 8 - (K + 4) = 4 := by omega
          have sl6 : ¬ c = K + 4 := by omega
          go_simp
          exact hKf _ _ rfl rfl
        | 25, _ =>
          refine StepQ.plain _ rfl rfl rfl [(35, some 24)] (by kernel_rfl) (fun af wf hbw hz hf Kf hKf => ?_)
          obtain ⟨g35, _⟩ := hf
          have h35 : af.tmps[35]?.getD undef = .slice (some ⟨ab, off + (K + 4), none⟩) 4 (c - (K + 4)) := g35
          clear g35
          go_simp
          refine (rget_short (some ⟨ab, off + (K + 4), none⟩) 4 (c - (K + 4)) ((b.take (K + 8)).drop (K + 4)) _ (Rd.sub (RdN.kept (RdN.drew hRN) hbw (fun _ h_ => h_)).1 (K + 4) 4 (by omega)) (by omega)).mono ?_
          rintro e wN ⟨rfl, rfl⟩
          exact hKf _ _ (rfl) (int_eq X3.out)
        | 26, _ =>
          refine StepQ.plain _ rfl rfl rfl [(36, some 25)] (by kernel_rfl) (fun af wf hbw hz hf Kf hKf => ?_)
          obtain ⟨g36, _⟩ := hf
          have h36 : af.tmps[36]?.getD undef = .int .u64 x3 := g36
          clear g36
          have hw_ : IntKind.i64.wrap x3 = x3 := IntWalk.i64_in _ (by omega)
          go_simp
          exact hKf _ _ rfl rfl
        | 27, _ =>
          refine StepQ.plain _ rfl rfl rfl [(0, none)] (by kernel_rfl) (fun af wf hbw hz hf Kf hKf => ?_)
          obtain ⟨g0, _⟩ := hf
          have h0 : af.tmps[0]?.getD undef = .slice (some ⟨ab, off, none⟩) 256 c := g0
          clear g0
          go_simp
          exact hKf _ _ rfl rfl
        | 28, _ =>
          refine StepQ.plain _ rfl rfl rfl [(5, none)] (by kernel_rfl) (fun af wf hbw hz hf Kf hKf => ?_)
          obtain ⟨g5, _⟩ := hf
          have h5 : af.tmps[5]?.getD undef = .int .i64 (K : Int) := g5
          clear g5
          go_simp
          exact hKf _ _ rfl rfl
        | 29, _ =>
          refine StepQ.plain _ rfl rfl rfl [(39, some 28)] (by kernel_rfl) (fun af wf hbw hz hf Kf hKf => ?_)
          obtain ⟨g39, _⟩ := hf
          have h39 : af.tmps[39]?.getD undef = .int .i64 (K : Int) := g39
          clear g39
          have hwr : IntKind.i64.wrap ((K : Int) + 8) = (K : Int) + 8 := IntWalk.i64_in _ (by omega)
          go_simp
          exact hKf _ _ rfl rfl
        | 30, _ =>
          refine StepQ.plain _ rfl rfl rfl [(5, none)] (by kernel_rfl) (fun af wf hbw hz hf Kf hKf => ?_)
          obtain ⟨g5, _⟩ := hf
          have h5 : af.tmps[5]?.getD undef = .int .i64 (K : Int) := g5
          clear g5
          go_simp
          exact hKf _ _ rfl rfl
        | 31, _ =>
          refine StepQ.plain _ rfl rfl rfl [(41, some 30)] (by kernel_rfl) (fun af wf hbw hz hf Kf hKf => ?_)
          obtain ⟨g41, _⟩ := hf
          have h41 : af.tmps[41]?.getD undef = .int .i64 (K : Int) := g41
          clear g41
          have hwr : IntKind.i64.wrap ((K : Int) + 16) = (K : Int) + 16 := IntWalk.i64_in _ (by omega)
          go_simp
          exact hKf _ _ rfl rfl
        | 32, _ =>
          refine StepQ.plain _ rfl rfl rfl [(38, some 27), (40, some 29), (42, some 31)] (by kernel_rfl) (fun af wf hbw hz hf Kf hKf => ?_)
          obtain ⟨g38, g40, g42, _⟩ := hf
          have h38 : af.tmps[38]?.getD undef = .slice (some ⟨ab, off, none⟩) 256 c := g38
          have h40 : af.tmps[40]?.getD undef = .int .i64 ((K : Int) + 8) := g40
          have h42 : af.tmps[42]?.getD undef = .int .i64 ((K : Int) + 16) := g42
          clear g38 g40 g42
          have sl1 : 0 ≤ (K : Int) + 16 ∧ (K : Int) + 16 ≤ c := by omega
          have sl2 : 0 ≤ (K : Int) + 8 ∧ (K : Int) + 8 ≤ (K : Int) + 16 := by omega
          have sl3 : ((K : Int) + 16).toNat = K + 16 := by omega
          have sl4 : ((K : Int) + 8).toNat = K + 8 := by omega
          have sl5 : K + 16 - (K + 8) = 8 := by omega
          have sl6 : ¬ c = K + 8 := by omega
          go_simp
          exact hKf _ _ rfl rfl
        | 33, _ =>
          refine StepQ.plain _ rfl rfl rfl [(43, some 32)] (by kernel_rfl) (fun af wf hbw hz hf Kf hKf => ?_)
          obtain ⟨g43, _⟩ := hf
          have h43 : af.tmps[43]?.getD undef = .slice (some ⟨ab, off + (K + 8), none⟩) 8 (c - (K + 8)) := g43
          clear g43
          go_simp
          refine (rget_short (some ⟨ab, off + (K + 8), none⟩) 8 (c - (K + 8)) ((b.take (K + 16)).drop (K + 8)) _ (Rd.sub (RdN.kept (RdN.drew hRN) hbw (fun _ h_ => h_)).1 (K + 8) 8 (by omega)) (by omega)).mono ?_
          rintro e wN ⟨rfl, rfl⟩
          exact hKf _ _ (rfl) (int_eq X4.out)
        | 34, _ =>
          refine StepQ.plain _ rfl rfl rfl [(15, some 4), (21, some 10), (29, some 18), (37, some 26), (44, some 33)] (by kernel_rfl) (fun af wf hbw hz hf Kf hKf => ?_)
          obtain ⟨g15, g21, g29, g37, g44, _⟩ := hf
          have h15 : af.tmps[15]?.getD undef = .int .i64 (x0.toNat : Int) := g15
          have h21 : af.tmps[21]?.getD undef = .int .i64 (x1.toNat : Int) := g21
          have h29 : af.tmps[29]?.getD undef = .int .i64 x2 := g29
          have h37 : af.tmps[37]?.getD undef = .int .i64 x3 := g37
          have h44 : af.tmps[44]?.getD undef = .int .u64 x4 := g44
          clear g15 g21 g29 g37 g44
          go_simp
          exact hKf _ _ rfl rfl
        | 35, _ =>
          refine StepQ.chain 0 _ rfl rfl rfl (by decide) [] (by kernel_rfl) (fun af wf hbw hiv hf Kf hKf => ?_)
          obtain ⟨uv, hiv, hlast⟩ := hiv
          have hs9 : wf.heap.size = wr.heap.size := hiv
          go_simp
          exact hKf _ _ (((Kept.refl _ _).alloc _)) (⟨rfl, by rw [← hs9]; exact Blk.new _ _ _⟩) (rfl)
        | 36, _ =>
          refine StepQ.chain 1 _ rfl rfl rfl (by decide) [(6, some 35), (45, some 34)] (by kernel_rfl) (fun af wf hbw hiv hf Kf hKf => ?_)
          obtain ⟨uv, hiv, hlast⟩ := hiv
          have h6 : af.tmps[6]?.getD undef = uv := hlast 0 35 6 rfl rfl rfl
          obtain ⟨g6, g45, _⟩ := hf
          have h6 : af.tmps[6]?.getD undef = .pointer (some ⟨wr.heap.size, 0, none⟩) := g6
          have h45 : af.tmps[45]?.getD undef = .agg #[.int .i64 (x0.toNat : Int), .int .i64 (x1.toNat : Int), .int .i64 x2, .int .i64 x3, .int .u64 x4] := g45
          clear g6 g45
          obtain ⟨rfl, hB9⟩ := hiv
          have cB9 := hB9.cell
          have fB9 := hB9.frozen
          go_simp
          exact hKf undef _ ((Kept.fill5 _ _ _ _ _)) ((hB9.fill5 (.int .i64 (x0.toNat : Int)) (.int .i64 (x1.toNat : Int)) (.int .i64 x2) (.int .i64 x3) (.int .u64 x4))) (trivial)
        | i + 37, h => exact absurd h (by show ¬ (i + 37 < 37); omega)
      · intro af wF hbF hiF hdF hsF hbaseF hfactF
        obtain ⟨T, dsF⟩ := af
        obtain rfl : dsF = _ := hdF
        have e6 := hfactF 35 6 (by decide) rfl
        replace e6 : T[6]?.getD undef = .pointer (some ⟨wr.heap.size, 0, none⟩) := e6
        have hT := frame_back T [6, 11, 12, 13, 14, 15, 16, 17, 18, 19, 20, 21, 22, 23, 24, 25, 26, 27, 28, 29, 30, 31, 32, 33, 34, 35, 36, 37, 38, 39, 40, 41, 42, 43, 44, 45] hbaseF hsF (by kernel_rfl)
        simp only [List.foldl_cons, List.foldl_nil, List.setIfInBounds_toArray, List.set_cons_zero, List.set_cons_succ] at hT
        clear hbaseF hfactF hsF
        rw [e6] at hT; clear e6
        generalize T[11]?.getD undef = u11 at hT
        generalize T[12]?.getD undef = u12 at hT
        generalize T[13]?.getD undef = u13 at hT
        generalize T[14]?.getD undef = u14 at hT
        generalize T[15]?.getD undef = u15 at hT
        generalize T[16]?.getD undef = u16 at hT
        generalize T[17]?.getD undef = u17 at hT
        generalize T[18]?.getD undef = u18 at hT
        generalize T[19]?.getD undef = u19 at hT
        generalize T[20]?.getD undef = u20 at hT
        generalize T[21]?.getD undef = u21 at hT
        generalize T[22]?.getD undef = u22 at hT
        generalize T[23]?.getD undef = u23 at hT
        generalize T[24]?.getD undef = u24 at hT
        generalize T[25]?.getD undef = u25 at hT
        generalize T[26]?.getD undef = u26 at hT
        generalize T[27]?.getD undef = u27 at hT
        generalize T[28]?.getD undef = u28 at hT
        generalize T[29]?.getD undef = u29 at hT
        generalize T[30]?.getD undef = u30 at hT
        generalize T[31]?.getD undef = u31 at hT
        generalize T[32]?.getD undef = u32 at hT
        generalize T[33]?.getD undef = u33 at hT
        generalize T[34]?.getD undef = u34 at hT
        generalize T[35]?.getD undef = u35 at hT
        generalize T[36]?.getD undef = u36 at hT
        generalize T[37]?.getD undef = u37 at hT
        generalize T[38]?.getD undef = u38 at hT
        generalize T[39]?.getD undef = u39 at hT
        generalize T[40]?.getD undef = u40 at hT
        generalize T[41]?.getD undef = u41 at hT
        generalize T[42]?.getD undef = u42 at hT
        generalize T[43]?.getD undef = u43 at hT
        generalize T[44]?.getD undef = u44 at hT
        generalize T[45]?.getD undef = u45 at hT
        subst hT
        obtain ⟨_, hBF0⟩ := hiF
        have hBF : Blk wF wr.heap.size 33 #[.int .i64 (x0.toNat : Int), .int .i64 (x1.toNat : Int), .int .i64 x2, .int .i64 x3, .int .u64 x4] := hBF0
        have bF : Below wr.heap.size wr wF := hbF.below (Nat.le_refl _) (by simp)
        have cBF := hBF.cell
        clear hBF0 hbF hRN X2 X3 X4
        go_wp2_with fail
        refine (rone_any (x0.toNat : Int) (x1.toNat : Int) x2 x3 x4 _).mono ?_
        rintro e w5 ⟨rfl, hb5⟩
        have b5 : Below wr.heap.size wr w5 := bF.trans (hb5.mono bF.size)
        have hz5 := b5.size
        have hB5 := hBF.on hb5
        have cB5 := hB5.cell
        have hFr := hF.below b5
        clear cBF hBF hb5 bF hF
        obtain ⟨M, hM⟩ : ∃ M, mayB ((x0.toNat : Int), (x1.toNat : Int), x2, x3, x4) = M := ⟨_, rfl⟩
        rw [hM]
        have HM := Lib.hid (show mayB (pgC (chunkB b k)) = M by rw [HPG.out]; exact hM)
        clear hM
        cases M with
        | false =>
          have hno := Lib.hid (okB_no hlt HM.out)
          go_wp2_with fail
          go_ret2
          exact .inr ⟨hno.out, rfl, (by (have q_b5 := Below.size b5; (try simp at q_b5); have q_hbel := Below.size hbel; (try simp at q_hbel); repeat (first | exact Below.refl _ _ | (refine Below.trans ?_ (Below.mono b5 (by first | omega | (simp; omega) | simp))) | (refine Below.trans ?_ (Below.mono hbel (by first | omega | (simp; omega) | simp))) | (refine Below.setCell ?_ (by first | omega | (simp; omega) | simp) _) | (refine Below.alloc ?_ (by first | omega | (simp; omega) | simp) _) | apply Below.drew | apply below_drewN)))⟩
        | true =>
          have HALL := Lib.hid (show ∀ j, j < k + 1 → mayB (pgC (chunkB b j)) = true from fun j hj => by
            rcases Nat.lt_or_ge j k with h | h
            · exact hall.out j h
            · obtain rfl : j = k := by omega
              exact HM.out)
          have hF2 := hFr.alloc (.cells #[.int .i64 (x0.toNat : Int), .int .i64 (x1.toNat : Int), .int .i64 x2, .int .i64 x3, .int .u64 x4] 33)
          have hRb : RdG pgE (w5.alloc (.cells #[.int .i64 (x0.toNat : Int), .int .i64 (x1.toNat : Int), .int .i64 x2, .int .i64 x3, .int .u64 x4] 33)) (some ⟨w5.heap.size, 0, none⟩) 1 [((x0.toNat : Int), (x1.toNat : Int), x2, x3, x4)] := RdG.boxed _ _ _ _ rfl
          clear hall hFr
          go_wp2_with (at_builtin; refine wpList_append_G (E := pgE) _ rfl (.tmp 49) (.tmp 51) _ rfl w.heap.size 33 Try.underlying22 infoRP rfl u4 (parseP b k) rfl hF2 (some ⟨w5.heap.size, 0, none⟩) 1 1 [((x0.toNat : Int), (x1.toNat : Int), x2, x3, x4)] rfl hRb (by omega) (by omega) (by simp; omega) ?_; intro b' w6 hF3 hg3 hb3)
          have b6 : Below w.heap.size w w6 := (show Below w.heap.size w (w5.alloc (.cells #[.int .i64 (x0.toNat : Int), .int .i64 (x1.toNat : Int), .int .i64 x2, .int .i64 x3, .int .u64 x4] 33)) from (by (have q_b5 := Below.size b5; (try simp at q_b5); have q_hbel := Below.size hbel; (try simp at q_hbel); repeat (first | exact Below.refl _ _ | (refine Below.trans ?_ (Below.mono b5 (by first | omega | (simp; omega) | simp))) | (refine Below.trans ?_ (Below.mono hbel (by first | omega | (simp; omega) | simp))) | (refine Below.setCell ?_ (by first | omega | (simp; omega) | simp) _) | (refine Below.alloc ?_ (by first | omega | (simp; omega) | simp) _) | apply Below.drew | apply below_drewN)))).trans hb3
          go_roundw
          case rel => exact ⟨k + 1, by omega, int_eq (by rw [HK.out]; omega), by rw [hst.out]; exact hF3, HALL, b6⟩
          case measure => simp [intOf] <;> omega
    · obtain rfl : k = 16 := by omega
      have hok : okB b = true := by
        unfold okB
        rw [List.all_eq_true]
        intro x hx
        obtain ⟨j, hj, rfl⟩ := List.mem_map.1 hx
        exact hall.out j (List.mem_range.1 hj)
      have HOK := Lib.hid hok
      clear hok hall
      go_wp2_with fail
      go_ret2
      exact .inl ⟨HOK.out, _, rfl, hF, hbel⟩
end Go.Proofs.Ytidlcplamgajpaa
