/- Logs: the program's and the document's; the one as the other. -/
import Derived.Test.YthepgnankelmeaaRec
import Derived.Test.YthepgnankelmeaaSuper7
namespace Go.Proofs.Ythepgnankelmeaa
open Go.RowKit

/-- An entry's head: its block's number, where its bytes lie. -/
abbrev EntH := Int × (Option Addr × Nat × Nat)
abbrev Ent := Int × List UInt8
def entE : Enc EntH where
  sz := 2
  f x := [.int .i64 x.1, .slice x.2.1 x.2.2.1 x.2.2.2]
  len _ := rfl
  pos := by decide
  one x u hu := by simp at hu; rcases hu with rfl | rfl <;> rfl
def entK : RKind EntH Ent := ⟨entE, fun h => h.2, fun e => e.2, fun h e => h.1 = e.1⟩
theorem infoRE : (Try.prog.info? 99).map (fun i => (i.zero, i.size, i.bytes)) = some (some (.agg #[.int .i64 0, .slice none 0 0]), 2, 32) := by kernel_rfl
theorem infoLE : (Try.prog.info? 102).map (fun i => (i.zero, i.size, i.bytes)) = some (some (.agg #[.int .i64 0, .slice none 0 0]), 2, 32) := by kernel_rfl
theorem infoB8 : (Try.prog.info? 5).map (fun i => (i.zero, i.size, i.bytes)) = some (some (.int .u8 0), 1, 1) := by kernel_rfl

/-- What an entry's place tells. -/
theorem RdR.ent {B : Nat} {T : TypeId} {w : World} {A : Option Addr} {n k : Nat} {es : List Ent} (hr : RdR entK B T w A n es) (hk : k < n) : ∃ b off K Ad nd cd L, A = some ⟨b, off, none⟩ ∧ b < w.heap.size ∧ es[k]? = some (K, L) ∧ w.cell? ⟨b, off + k * 2, none⟩ = some (.int .i64 K) ∧ w.cell? ⟨b, off + k * 2 + 1, none⟩ = some (.slice Ad nd cd) ∧ RdX B T w Ad nd L ∧ nd ≤ cd ∧ cd ≤ maxLen := by
  obtain ⟨b, off, ⟨hK, Ad, nd, cd⟩, ⟨K, L⟩, hA, hb, he, hc, hi⟩ := hr.at_ hk
  obtain ⟨e1, e2, e3, e4⟩ := hi
  have e1' : hK = K := e1
  subst e1'
  have h0 : w.cell? ⟨b, off + k * 2 + 0, none⟩ = _ := hc 0 _ rfl
  have h1 : w.cell? ⟨b, off + k * 2 + 1, none⟩ = _ := hc 1 _ rfl
  exact ⟨b, off, hK, Ad, nd, cd, L, hA, hb, he, h0, h1, e2, e3, e4⟩

set_option maxRecDepth 100000 in
set_option maxHeartbeats 4000000 in
theorem lours_any (cnt : Int) (A : Option Addr) (n c B : Nat) (es : List Ent) (w : World) (hr : RdR entK B 5 w A n es) (hBw : B ≤ w.heap.size) (hn : n ≤ 1000000) (hL : ∀ e ∈ es, e.2.length ≤ 1000000) :
    Calls Try.prog 38 #[.agg #[.int .u64 cnt, .slice A n c]] w fun e w' => ∃ v, e = .returned (.agg #[.int .u64 cnt, v]) ∧ OwnR entK 102 w.heap.size w.heap.size 5 w' v es ∧ Below w.heap.size w w' := by
  have hlen := hr.len
  have B0 : Blk (((w.alloc (.cells #[.int .u64 cnt, .slice A n c] 49)).alloc (.cells #[.int .u64 0, .slice none 0 0] 56)).alloc (.cells #[.int .u64 cnt, .slice none 0 0] 56)) (w.heap.size + 1) 56 #[.int .u64 0, .slice none 0 0] := by
    have h := (Blk.new (w.alloc (.cells #[.int .u64 cnt, .slice A n c] 49)) 56 #[.int .u64 0, .slice none 0 0]).alloc (.cells #[.int .u64 cnt, .slice none 0 0] 56)
    simpa using h
  have B1 : Blk (((w.alloc (.cells #[.int .u64 cnt, .slice A n c] 49)).alloc (.cells #[.int .u64 0, .slice none 0 0] 56)).alloc (.cells #[.int .u64 cnt, .slice none 0 0] 56)) (w.heap.size + 1 + 1) 56 #[.int .u64 cnt, .slice none 0 0] := by
    have h := Blk.new ((w.alloc (.cells #[.int .u64 cnt, .slice A n c] 49)).alloc (.cells #[.int .u64 0, .slice none 0 0] 56)) 56 #[.int .u64 cnt, .slice none 0 0]
    simpa using h
  go_enter Try.func38, Try.ntmps38
  go_wp2_with fail
  go_loopw [12] (fun i wr => ∃ k : Nat, k ≤ n ∧ i = .int .i64 k ∧ (∃ v, Blk wr (w.heap.size + 1 + 1) 56 #[.int .u64 cnt, v] ∧ OwnR entK 102 (w.heap.size + 1 + 1 + 1) w.heap.size 5 wr v (es.take k)) ∧ Blk wr (w.heap.size + 1) 56 #[.int .u64 0, .slice none 0 0] ∧ Below w.heap.size w wr) (fun i _ => n - (intOf i).toNat)
  case atStart => exact ⟨0, by omega, rfl, ⟨_, B1, OwnR.nil _⟩, B0, (by (repeat (first | exact Below.refl _ _ | (refine Below.setCell ?_ (by first | omega | (simp; omega) | simp) _) | (refine Below.alloc ?_ (by first | omega | (simp; omega) | simp) _) | apply Below.drew | apply below_drewN)))⟩
  case round =>
    clear B0 B1
    obtain ⟨k, hk, rfl, ⟨v, hB1, hO⟩, hB0, hbel⟩ := hrel
    have hbz := hbel.size
    have z1 := hB1.lt
    by_cases hlt : k < n
    · obtain ⟨b, off, K, Ad, nd, cd, L, rfl, hb, he, c0, c1, hX, hnd, hcd⟩ := (hr.below hbel).ent hlt
      have hst := Lib.hid (take_step he)
      have hLl : L.length = nd := hX.1.len
      have hL1 := hL _ (List.mem_of_getElem? he)
      simp only at hL1
      have hkl : (es.take k).length = k := by simp; omega
      have z0 := hB1.lt
      have z2 := hO.block
      obtain ⟨gs, hg1, hg2, hg3, hg4, hg5, hg6⟩ := hO.blocks (B0 := w.heap.size) hB1 (by decide) (by decide) (by omega) (by omega)
      have Bx := Blk.new wr 99 #[.int .i64 K, .slice Ad nd cd]
      have hBa := hB1.alloc (.cells #[.int .i64 K, .slice Ad nd cd] 99)
      have hB0a := hB0.alloc (.cells #[.int .i64 K, .slice Ad nd cd] 99)
      have hOa := hO.alloc (.cells #[.int .i64 K, .slice Ad nd cd] 99)
      have hRa := hX.1.alloc (.cells #[.int .i64 K, .slice Ad nd cd] 99)
      have hgx : wr.heap.size ∉ gs := fun h => by have := hg3 _ h; omega
      have hRx : RdN (wr.alloc (.cells #[.int .i64 K, .slice Ad nd cd] 99)) gs Ad nd L := RdN.below (hX.rdn (fun x h => by have := hg4 x h; omega) hg6) (by (repeat (first | exact Below.refl _ _ | (refine Below.setCell ?_ (by first | omega | (simp; omega) | simp) _) | (refine Below.alloc ?_ (by first | omega | (simp; omega) | simp) _) | apply Below.drew | apply below_drewN)))
      have hg0 : w.heap.size + 1 ∉ gs := fun h => by have := hg5 _ h; omega
      clear he hX
      go_wp2_with fail
      refine wp_flv [(fun y_ _ => y_ = .pointer (some ⟨w.heap.size + 1 + 1, 1, none⟩)), (fun y_ _ => y_ = v), (fun y_ _ => y_ = .pointer (some ⟨wr.heap.size, 0, none⟩)), (fun y_ _ => y_ = .int .i64 K), IsLit gs wr.heap.size 5, (fun y_ _ => y_ = .pointer (some ⟨wr.heap.size, 1, none⟩)), (fun y_ _ => y_ = .slice Ad nd cd), IsRow gs wr.heap.size 5 nd L, IsAg gs wr.heap.size 5 nd L (fun s => .agg #[.int .i64 K, s]), IsBox entE gs wr.heap.size 5 nd L (fun s => (K, s)), (fun _ _ => True), (fun y_ _ => y_ = .pointer (some ⟨w.heap.size + 1 + 1, 1, none⟩)), (fun _ _ => True)] gs (RecInv entK 102 56 (w.heap.size + 1 + 1 + 1) w.heap.size 5 (w.heap.size + 1 + 1) (fun u => #[.int .u64 cnt, u]) v (es.take k) (es.take k ++ [(K, L)])) [10, 12] (by kernel_rfl) ⟨StabW.eq _ _, StabW.eq _ _, StabW.eq _ _, StabW.eq _ _, IsLit.stab _ _ _, StabW.eq _ _, StabW.eq _ _, IsRow.stab _ _ _ _ _, IsAg.stab _ _ _ _ _ _, IsBox.stab _ _ _ _ _ _ _, StabW.any _, StabW.eq _ _, StabW.any _, trivial⟩ (RecInv.stab) (⟨hBa, hOa⟩) (by kernel_rfl) (by kernel_rfl) (by kernel_rfl) (by rfl) ?_ ?_
      · intro kq hkq
        match kq, hkq with
        | 0, _ =>
          refine StepV.plain _ rfl rfl rfl [(3, none)] (by kernel_rfl) (fun af wf hbw hz hf Kf hKf => ?_)
          obtain ⟨g3, _⟩ := hf
          have h3 : af.tmps[3]?.getD undef = .pointer (some ⟨w.heap.size + 1 + 1, 0, none⟩) := g3
          clear g3
          go_simp
          exact hKf _ _ (Below.refl _ _) rfl
        | 1, _ =>
          refine StepV.plain _ rfl rfl rfl [(16, some 0)] (by kernel_rfl) (fun af wf hbw hz hf Kf hKf => ?_)
          obtain ⟨g16, _⟩ := hf
          have h16 : af.tmps[16]?.getD undef = .pointer (some ⟨w.heap.size + 1 + 1, 1, none⟩) := g16
          clear g16
          have cB0 := (Blk.kept (Blk.drew (Bx)) hbw (hgx)).cell
          obtain ⟨_, hz0, _⟩ := hz 10 rfl (by kernel_rfl)
          have cB9 := hz0.cell
          go_simp
          exact hKf _ _ (Below.refl _ _) rfl
        | 2, _ =>
          refine StepV.plain _ rfl rfl rfl [(5, none)] (by kernel_rfl) (fun af wf hbw hz hf Kf hKf => ?_)
          obtain ⟨g5, _⟩ := hf
          have h5 : af.tmps[5]?.getD undef = .pointer (some ⟨wr.heap.size, 0, none⟩) := g5
          clear g5
          go_simp
          exact hKf _ _ (Below.refl _ _) rfl
        | 3, _ =>
          refine StepV.plain _ rfl rfl rfl [(18, some 2)] (by kernel_rfl) (fun af wf hbw hz hf Kf hKf => ?_)
          obtain ⟨g18, _⟩ := hf
          have h18 : af.tmps[18]?.getD undef = .pointer (some ⟨wr.heap.size, 0, none⟩) := g18
          clear g18
          have cB0 := (Blk.kept (Blk.drew (Bx)) hbw (hgx)).cell
          go_simp
          exact hKf _ _ (Below.refl _ _) rfl
        | 4, _ =>
          refine StepV.plain _ rfl rfl rfl [] (by kernel_rfl) (fun af wf hbw hz hf Kf hKf => ?_)
          go_simp
          exact hKf _ _ (((Below.refl _ _).alloc (Nat.le_refl _) _)) (⟨hg3, _, rfl, Blk.new _ _ _, by have := hbw.size; simp at this; omega⟩)
        | 5, _ =>
          refine StepV.plain _ rfl rfl rfl [(5, none)] (by kernel_rfl) (fun af wf hbw hz hf Kf hKf => ?_)
          obtain ⟨g5, _⟩ := hf
          have h5 : af.tmps[5]?.getD undef = .pointer (some ⟨wr.heap.size, 0, none⟩) := g5
          clear g5
          go_simp
          exact hKf _ _ (Below.refl _ _) rfl
        | 6, _ =>
          refine StepV.plain _ rfl rfl rfl [(21, some 5)] (by kernel_rfl) (fun af wf hbw hz hf Kf hKf => ?_)
          obtain ⟨g21, _⟩ := hf
          have h21 : af.tmps[21]?.getD undef = .pointer (some ⟨wr.heap.size, 1, none⟩) := g21
          clear g21
          have cB0 := (Blk.kept (Blk.drew (Bx)) hbw (hgx)).cell
          go_simp
          exact hKf _ _ (Below.refl _ _) rfl
        | 7, _ =>
          refine StepV.plain _ rfl rfl rfl [(20, some 4), (22, some 6)] (by kernel_rfl) (fun af wf hbw hz hf Kf hKf => ?_)
          obtain ⟨g20, g22, _⟩ := hf
          have g20 : IsLit gs wr.heap.size 5 (af.tmps[20]?.getD undef) wf := g20
          obtain ⟨hz20, b20, h20, hB20, hb20⟩ := g20
          have h22 : af.tmps[22]?.getD undef = .slice Ad nd cd := g22
          clear g22
          have hRf := RdN.kept (RdN.drew hRx) hbw (fun _ h_ => h_)
          refine wp_append_lit wf (.tmp 20) (.tmp 22) _ rfl b20 wr.heap.size 5 Try.underlying39 infoB8 hB20 hb20 (by simp [Act.eval, h20]) Ad nd cd L (by simp [Act.eval, h22]) hRf.1 (by omega) ?_; intro v7 w7 hF7 hb7
          exact hKf _ _ (hb7) (IsRow.of hF7 hg3 hLl)
        | 8, _ =>
          refine StepV.plain _ rfl rfl rfl [(19, some 3), (23, some 7)] (by kernel_rfl) (fun af wf hbw hz hf Kf hKf => ?_)
          obtain ⟨g19, g23, _⟩ := hf
          have h19 : af.tmps[19]?.getD undef = .int .i64 K := g19
          have g23 : IsRow gs wr.heap.size 5 nd L (af.tmps[23]?.getD undef) wf := g23
          obtain ⟨hz23, A23, c23, h23, hF23, hn23, hm23⟩ := g23
          clear g19
          go_simp
          exact hKf _ _ (Below.refl _ _) (⟨hz23, A23, c23, rfl, hF23, hn23, hm23⟩)
        | 9, _ =>
          refine StepV.plain _ rfl rfl rfl [(24, some 8)] (by kernel_rfl) (fun af wf hbw hz hf Kf hKf => ?_)
          obtain ⟨g24, _⟩ := hf
          have g24 : IsAg gs wr.heap.size 5 nd L (fun s => .agg #[.int .i64 K, s]) (af.tmps[24]?.getD undef) wf := g24
          obtain ⟨hz24, A24, c24, h24, hF24, hn24, hm24⟩ := g24
          go_simp
          exact hKf _ _ (((Below.refl _ _).alloc (Nat.le_refl _) _)) (⟨hz24, A24, c24, _, rfl, (fun h_ => by have := hz24 _ h_; have := hbw.size; simp at this; omega), RdG.boxed _ _ _ _ rfl, hF24.alloc _, hn24, hm24⟩)
        | 10, _ =>
          refine StepV.chain 0 _ rfl rfl rfl (by decide) [(17, some 1), (25, some 9)] (by kernel_rfl) (fun af wf hbw hiv hf Kf hKf => ?_)
          obtain ⟨uv, hiv, hlast⟩ := hiv
          obtain ⟨g17, g25, _⟩ := hf
          have h17 : af.tmps[17]?.getD undef = v := g17
          have g25 : IsBox entE gs wr.heap.size 5 nd L (fun s => (K, s)) (af.tmps[25]?.getD undef) wf := g25
          obtain ⟨hz25, A25, c25, b25, h25, hb25, hR25, hF25, hn25, hm25⟩ := g25
          clear g17
          obtain ⟨hiB, hs, hFr, hAll⟩ := hiv
          have hsl : hs.length = k := by rw [hAll.1, hkl]
          refine wp_append_G wf (.tmp 17) (.tmp 25) _ rfl (w.heap.size + 1 + 1 + 1) 102 Try.underlying54 infoLE rfl v hs (by simp [Act.eval, h17]) hFr _ 1 1 [(K, A25, nd, c25)] (by simp [Act.eval, h25]) hR25 (by omega) (by omega) (by have := hbw.size; simp at this; omega) ?_; intro v10 w10 hF10 hg10 hb10
          exact hKf _ _ ((Kept.of_grown hg10 hg2)) (RecInv.app (by decide) (by decide) (by omega) hiB hFr hAll (show RItem entK _ _ wf (K, A25, nd, c25) (K, L) from ⟨rfl, RdX.fresh hF25 hLl, hn25, hm25⟩) hF10 hg10) (trivial)
        | 11, _ =>
          refine StepV.plain _ rfl rfl rfl [(3, none)] (by kernel_rfl) (fun af wf hbw hz hf Kf hKf => ?_)
          obtain ⟨g3, _⟩ := hf
          have h3 : af.tmps[3]?.getD undef = .pointer (some ⟨w.heap.size + 1 + 1, 0, none⟩) := g3
          clear g3
          go_simp
          exact hKf _ _ (Below.refl _ _) rfl
        | 12, _ =>
          refine StepV.chain 1 _ rfl rfl rfl (by decide) [(27, some 11), (26, some 10)] (by kernel_rfl) (fun af wf hbw hiv hf Kf hKf => ?_)
          obtain ⟨uv, hiv, hlast⟩ := hiv
          have h26 : af.tmps[26]?.getD undef = uv := hlast 0 10 26 rfl rfl rfl
          obtain ⟨g27, g26, _⟩ := hf
          have h27 : af.tmps[27]?.getD undef = .pointer (some ⟨w.heap.size + 1 + 1, 1, none⟩) := g27
          clear g27
          obtain ⟨Au, nu, cu, rfl⟩ := OwnR.shape hiv.2
          have cB9 := hiv.1.cell
          have fB9 := hiv.1.frozen
          go_simp
          exact hKf undef _ ((Kept.setCell (p := ⟨w.heap.size + 1 + 1, 1, none⟩) (.refl _ _) hg1 _)) (RecInv.store hiv (by decide) (by omega) (by omega) 1 rfl) (trivial)
        | i + 13, h => exact absurd h (by show ¬ (i + 13 < 13); omega)
      · intro af wF hbF hiF hdF hsF hbaseF hfactF
        obtain ⟨T, dsF⟩ := af
        obtain rfl : dsF = _ := hdF
        have e0 := hbaseF 0 (not_dst (by kernel_rfl))
        simp only [List.getElem?_toArray, List.getElem?_cons_zero, Option.getD_some] at e0
        have e1 := hbaseF 1 (not_dst (by kernel_rfl))
        simp only [List.getElem?_toArray, List.getElem?_cons_zero, List.getElem?_cons_succ, Option.getD_some] at e1
        have e2 := hbaseF 2 (not_dst (by kernel_rfl))
        simp only [List.getElem?_toArray, List.getElem?_cons_zero, List.getElem?_cons_succ, Option.getD_some] at e2
        have e3 := hbaseF 3 (not_dst (by kernel_rfl))
        simp only [List.getElem?_toArray, List.getElem?_cons_zero, List.getElem?_cons_succ, Option.getD_some] at e3
        have e4 := hbaseF 4 (not_dst (by kernel_rfl))
        simp only [List.getElem?_toArray, List.getElem?_cons_zero, List.getElem?_cons_succ, Option.getD_some] at e4
        have e5 := hbaseF 5 (not_dst (by kernel_rfl))
        simp only [List.getElem?_toArray, List.getElem?_cons_zero, List.getElem?_cons_succ, Option.getD_some] at e5
        have e6 := hbaseF 6 (not_dst (by kernel_rfl))
        simp only [List.getElem?_toArray, List.getElem?_cons_zero, List.getElem?_cons_succ, Option.getD_some] at e6
        have e7 := hbaseF 7 (not_dst (by kernel_rfl))
        simp only [List.getElem?_toArray, List.getElem?_cons_zero, List.getElem?_cons_succ, Option.getD_some] at e7
        have e8 := hbaseF 8 (not_dst (by kernel_rfl))
        simp only [List.getElem?_toArray, List.getElem?_cons_zero, List.getElem?_cons_succ, Option.getD_some] at e8
        have e9 := hbaseF 9 (not_dst (by kernel_rfl))
        simp only [List.getElem?_toArray, List.getElem?_cons_zero, List.getElem?_cons_succ, Option.getD_some] at e9
        have e10 := hbaseF 10 (not_dst (by kernel_rfl))
        simp only [List.getElem?_toArray, List.getElem?_cons_zero, List.getElem?_cons_succ, Option.getD_some] at e10
        have e11 := hbaseF 11 (not_dst (by kernel_rfl))
        simp only [List.getElem?_toArray, List.getElem?_cons_zero, List.getElem?_cons_succ, Option.getD_some] at e11
        have e12 := hbaseF 12 (not_dst (by kernel_rfl))
        simp only [List.getElem?_toArray, List.getElem?_cons_zero, List.getElem?_cons_succ, Option.getD_some] at e12
        have e13 := hbaseF 13 (not_dst (by kernel_rfl))
        simp only [List.getElem?_toArray, List.getElem?_cons_zero, List.getElem?_cons_succ, Option.getD_some] at e13
        have e14 := hbaseF 14 (not_dst (by kernel_rfl))
        simp only [List.getElem?_toArray, List.getElem?_cons_zero, List.getElem?_cons_succ, Option.getD_some] at e14
        have e15 := hbaseF 15 (not_dst (by kernel_rfl))
        simp only [List.getElem?_toArray, List.getElem?_cons_zero, List.getElem?_cons_succ, Option.getD_some] at e15
        have e28 := hbaseF 28 (not_dst (by kernel_rfl))
        simp only [List.getElem?_toArray, List.getElem?_cons_zero, List.getElem?_cons_succ, Option.getD_some] at e28
        have e29 := hbaseF 29 (not_dst (by kernel_rfl))
        simp only [List.getElem?_toArray, List.getElem?_cons_zero, List.getElem?_cons_succ, Option.getD_some] at e29
        clear hbaseF hfactF
        have hT : T = #[T[0]?.getD undef, T[1]?.getD undef, T[2]?.getD undef, T[3]?.getD undef, T[4]?.getD undef, T[5]?.getD undef, T[6]?.getD undef, T[7]?.getD undef, T[8]?.getD undef, T[9]?.getD undef, T[10]?.getD undef, T[11]?.getD undef, T[12]?.getD undef, T[13]?.getD undef, T[14]?.getD undef, T[15]?.getD undef, T[16]?.getD undef, T[17]?.getD undef, T[18]?.getD undef, T[19]?.getD undef, T[20]?.getD undef, T[21]?.getD undef, T[22]?.getD undef, T[23]?.getD undef, T[24]?.getD undef, T[25]?.getD undef, T[26]?.getD undef, T[27]?.getD undef, T[28]?.getD undef, T[29]?.getD undef] := arr_eq T 30 hsF
        clear hsF
        rw [e0] at hT; clear e0
        rw [e1] at hT; clear e1
        rw [e2] at hT; clear e2
        rw [e3] at hT; clear e3
        rw [e4] at hT; clear e4
        rw [e5] at hT; clear e5
        rw [e6] at hT; clear e6
        rw [e7] at hT; clear e7
        rw [e8] at hT; clear e8
        rw [e9] at hT; clear e9
        rw [e10] at hT; clear e10
        rw [e11] at hT; clear e11
        rw [e12] at hT; clear e12
        rw [e13] at hT; clear e13
        rw [e14] at hT; clear e14
        rw [e15] at hT; clear e15
        generalize T[16]?.getD undef = u16 at hT
        generalize T[17]?.getD undef = u17 at hT
        generalize T[18]?.getD undef = u18 at hT
        generalize T[19]?.getD undef = u19 at hT
        generalize T[20]?.getD undef = u20 at hT
        generalize T[21]?.getD undef = u21 at hT
        generalize T[22]?.getD undef = u22 at hT
        generalize T[23]?.getD undef = u23 at hT
        generalize T[24]?.getD undef = u24 at hT
        generalize T[25]?.getD undef = u25 at hT
        generalize T[26]?.getD undef = u26 at hT
        generalize T[27]?.getD undef = u27 at hT
        rw [e28] at hT; clear e28
        rw [e29] at hT; clear e29
        subst hT
        obtain ⟨_, u', hB', hO'⟩ := hiF
        have hB0' := hB0a.kept hbF hg0
        have hbel' : Below w.heap.size w wF := (show Below w.heap.size w (wr.alloc (.cells #[.int .i64 K, .slice Ad nd cd] 99)) from (by (have q_hbel := Below.size hbel; (try simp at q_hbel); repeat (first | exact Below.refl _ _ | (refine Below.trans ?_ (Below.mono hbel (by first | omega | (simp; omega) | simp))) | (refine Below.setCell ?_ (by first | omega | (simp; omega) | simp) _) | (refine Below.alloc ?_ (by first | omega | (simp; omega) | simp) _) | apply Below.drew | apply below_drewN)))).trans (hbF.below (by simp; omega) hg4)
        go_wp2_with fail
        go_roundw
        case rel => exact ⟨k + 1, by omega, by go_num, ⟨u', hB', by rw [hst.out]; exact hO'⟩, hB0', hbel'⟩
        case measure => simp [intOf] <;> omega
    · obtain rfl : k = n := by omega
      have hT := Lib.hid (show es.take k = es from List.take_of_length_le (by omega))
      obtain ⟨Av, nv, cv, rfl⟩ := hO.shape
      have c3 := hB1.cell
      have c2 := hB0.cell
      have f2 := hB0.frozen
      have R1 := (hB0.set_ 0 (.int .u64 cnt)).set_ 1 (.slice Av nv cv)
      have e0 : (wr.setCell ⟨w.heap.size + 1, 0, none⟩ (.int .u64 cnt)).cell? ⟨w.heap.size + 1, 0, none⟩ = some (.int .u64 cnt) := by simpa using (hB0.set_ 0 (.int .u64 cnt)).cell 0
      have e0' := R1.cell 0
      have e1' := R1.cell 1
      simp at e0' e1'
      have hO2 := (hO.set_ hB0 (by decide) (by omega) (by omega) 0 (.int .u64 cnt)).set_ (hB0.set_ 0 (.int .u64 cnt)) (by decide) (by omega) (by omega) 1 (.slice Av nv cv)
      go_wp2_with fail
      refine bodyPost_ret (v := .agg #[.int .u64 cnt, .slice Av nv cv]) (by simp [results, Try.results38, go_sem, e0', e1']) rfl ⟨_, rfl, by rw [← hT.out]; exact hO2.from_ (by omega), (by (have q_hbel := Below.size hbel; (try simp at q_hbel); repeat (first | exact Below.refl _ _ | (refine Below.trans ?_ (Below.mono hbel (by first | omega | (simp; omega) | simp))) | (refine Below.setCell ?_ (by first | omega | (simp; omega) | simp) _) | (refine Below.alloc ?_ (by first | omega | (simp; omega) | simp) _) | apply Below.drew | apply below_drewN)))⟩
end Go.Proofs.Ythepgnankelmeaa
namespace Go.Proofs.Ythepgnankelmeaa
open Go.RowKit

/-- Bytes filled up to 256 by the last one. -/
def lastB (l : List UInt8) : UInt8 := l.getLast?.getD 0
def fullL (l : List UInt8) : List UInt8 := l.take 256 ++ List.replicate (256 - (l.take 256).length) (lastB (l.take 256))
theorem fullL_len (l : List UInt8) : (fullL l).length = 256 := by simp [fullL]; omega
def lenV : Value → Nat | .slice _ n _ => n | _ => 0
theorem lenV_fresh {T : TypeId} {B : Nat} {w : World} {v : Value} {l : List UInt8} (h : Fresh T B w v l) : lenV v = l.length := by obtain ⟨A, c, rfl, _⟩ := h; rfl
theorem Rd.pre {w : World} {A : Option Addr} {n : Nat} {l : List UInt8} (h : Rd w A n l) (m : Nat) (hm : m ≤ n) : Rd w A m (l.take m) := by
  have hl := h.1
  refine ⟨by simp; omega, fun hp => ?_⟩
  obtain ⟨b, off, hA, hlt, hc⟩ := h.2 (by omega)
  refine ⟨b, off, hA, hlt, fun j u hj => ?_⟩
  rw [List.getElem?_take] at hj
  split at hj
  · exact hc j u hj
  · cases hj
theorem RdX.pre {B : Nat} {T : TypeId} {w : World} {A : Option Addr} {n : Nat} {l : List UInt8} (h : RdX B T w A n l) (m : Nat) (hm : m ≤ n) : RdX B T w A m (l.take m) :=
  ⟨h.1.pre m hm, fun ad hn hA => h.2 ad (by omega) hA⟩

set_option maxRecDepth 100000 in
set_option maxHeartbeats 4000000 in
theorem full0_any (A : Option Addr) (c : Nat) (m : List UInt8) (w : World) (hr : Rd w A 0 m) :
    Calls Try.prog 75 #[.slice A 0 c] w (Gives 5 w (m ++ List.replicate 256 (lastB m))) := by
  have hlen := hr.len
  go_enter Try.func75, Try.ntmps75
  go_wp2_with (at_builtin; refine wpList_append_bytes _ rfl (.tmp 10) (.tmp 11) _ rfl w.heap.size 5 Try.underlying39 infoB8 _ [] rfl (Fresh.of_blk (Blk.new w _ _) (Nat.le_refl _) (by unfold maxLen; omega) rfl rfl) _ _ _ m rfl (hr.alloc _) (by simp <;> omega) (by simp) ?_; intro b' w1 hF1 hg1 hb1)
  go_loopw [3] (fun v wr => ∃ j : Nat, 0 + j ≤ 256 ∧ Fresh 5 w.heap.size wr v (m ++ List.replicate j (lastB m)) ∧ Below w.heap.size w wr) (fun v _ => 256 - lenV v)
  case atStart => exact ⟨0, by omega, by simpa using hF1, (by (have q_hb1 := Below.size hb1; (try simp at q_hb1); repeat (first | exact Below.refl _ _ | (refine Below.trans ?_ (Below.mono hb1 (by first | omega | (simp; omega) | simp))) | (refine Below.setCell ?_ (by first | omega | (simp; omega) | simp) _) | (refine Below.alloc ?_ (by first | omega | (simp; omega) | simp) _) | apply Below.drew | apply below_drewN)))⟩
  case round =>
    clear hF1 hg1 hb1
    obtain ⟨j, hj, hF, hbel⟩ := hrel
    have hbz := hbel.size
    obtain ⟨Av, cv, rfl, _, _, hcv1, hcv2⟩ := hF.rdn (0 + j) (by simp [hlen])
    by_cases hlt : 0 + j < 256
    · have hltI : ((0 + j : Nat) : Int) < 256 := by omega
      obtain ⟨x, hx⟩ : ∃ x, x = lastB m := ⟨_, rfl⟩
      have HX := Lib.hid (show m ++ List.replicate j (lastB m) ++ [x] = m ++ List.replicate (j + 1) (lastB m) by rw [hx, List.append_assoc, ← List.replicate_succ'])
      have hll : (m ++ List.replicate j (lastB m)).length ≤ 256 := by simp; omega
      obtain rfl : x = 0 := (by rw [hx, List.eq_nil_of_length_eq_zero hlen]; rfl)
      go_wp2_with (at_builtin; refine wpList_append_bytes _ rfl (.tmp 25) (.tmp 27) _ rfl w.heap.size 5 Try.underlying39 infoB8 _ _ rfl (hF.alloc _) _ _ _ [0] rfl (Rd.byte _ _ _ 0 rfl) (by omega) (by simp; omega) ?_; intro b' w3 hF3 hg3 hb3)
      go_roundw
      case rel => exact ⟨j + 1, by omega, by rw [← HX.out]; exact hF3, (by (have q_hb3 := Below.size hb3; (try simp at q_hb3); have q_hbel := Below.size hbel; (try simp at q_hbel); repeat (first | exact Below.refl _ _ | (refine Below.trans ?_ (Below.mono hb3 (by first | omega | (simp; omega) | simp))) | (refine Below.trans ?_ (Below.mono hbel (by first | omega | (simp; omega) | simp))) | (refine Below.setCell ?_ (by first | omega | (simp; omega) | simp) _) | (refine Below.alloc ?_ (by first | omega | (simp; omega) | simp) _) | apply Below.drew | apply below_drewN)))⟩
      case measure =>
        have := lenV_fresh hF3
        simp only [List.length_append, List.length_replicate, List.length_singleton, hlen] at this
        simp [show ∀ A n c, lenV (.slice A n c) = n from fun _ _ _ => rfl]
        omega
    · obtain rfl : j = 256 - 0 := by omega
      have q : ((0 + (256 - 0) : Nat) : Int) = 256 := by omega
      have q2 : 0 + (256 - 0) = 256 := by omega
      go_wp2_with fail
      go_ret
      exact ⟨_, rfl, hF, hbel⟩
set_option maxRecDepth 100000 in
set_option maxHeartbeats 4000000 in
theorem full1_any (A : Option Addr) (n c : Nat) (m : List UInt8) (w : World) (hr : Rd w A n m) (h0 : 0 < n) (hn : n ≤ 256) (_hc : n ≤ c) :
    Calls Try.prog 75 #[.slice A n c] w (Gives 5 w (m ++ List.replicate (256 - n) (lastB m))) := by
  have hlen := hr.len
  go_enter Try.func75, Try.ntmps75
  go_wp2_with (at_builtin; refine wpList_append_bytes _ rfl (.tmp 10) (.tmp 11) _ rfl w.heap.size 5 Try.underlying39 infoB8 _ [] rfl (Fresh.of_blk (Blk.new w _ _) (Nat.le_refl _) (by unfold maxLen; omega) rfl rfl) _ _ _ m rfl (hr.alloc _) (by simp <;> omega) (by simp) ?_; intro b' w1 hF1 hg1 hb1)
  go_loopw [3] (fun v wr => ∃ j : Nat, n + j ≤ 256 ∧ Fresh 5 w.heap.size wr v (m ++ List.replicate j (lastB m)) ∧ Below w.heap.size w wr) (fun v _ => 256 - lenV v)
  case atStart => exact ⟨0, by omega, by simpa using hF1, (by (have q_hb1 := Below.size hb1; (try simp at q_hb1); repeat (first | exact Below.refl _ _ | (refine Below.trans ?_ (Below.mono hb1 (by first | omega | (simp; omega) | simp))) | (refine Below.setCell ?_ (by first | omega | (simp; omega) | simp) _) | (refine Below.alloc ?_ (by first | omega | (simp; omega) | simp) _) | apply Below.drew | apply below_drewN)))⟩
  case round =>
    clear hF1 hg1 hb1
    obtain ⟨j, hj, hF, hbel⟩ := hrel
    have hbz := hbel.size
    obtain ⟨Av, cv, rfl, _, _, hcv1, hcv2⟩ := hF.rdn (n + j) (by simp [hlen])
    by_cases hlt : n + j < 256
    · have hltI : ((n + j : Nat) : Int) < 256 := by omega
      obtain ⟨x, hx⟩ : ∃ x, x = lastB m := ⟨_, rfl⟩
      have HX := Lib.hid (show m ++ List.replicate j (lastB m) ++ [x] = m ++ List.replicate (j + 1) (lastB m) by rw [hx, List.append_assoc, ← List.replicate_succ'])
      have hll : (m ++ List.replicate j (lastB m)).length ≤ 256 := by simp; omega
      obtain ⟨b, off, y, rfl, hb, hy, hcell⟩ := (hr.on hbel (Nat.le_refl _)).at_ (show n - 1 < n by omega); have hxy : y = x := (by rw [hx]; unfold lastB; rw [List.getLast?_eq_getElem?, hlen, hy]; rfl); subst hxy; have q1 : (n : Int) - 1 = ((n - 1 : Nat) : Int) := (by omega); have q2 : ((n - 1 : Nat) : Int) < n := (by omega); have q3 : (0 : Int) < n := (by omega); clear hx hy
      go_wp2_with (at_builtin; refine wpList_append_bytes _ rfl (.tmp 25) (.tmp 27) _ rfl w.heap.size 5 Try.underlying39 infoB8 _ _ rfl (hF.alloc _) _ _ _ [y] rfl (Rd.byte _ _ _ y rfl) (by omega) (by simp; omega) ?_; intro b' w3 hF3 hg3 hb3)
      go_roundw
      case rel => exact ⟨j + 1, by omega, by rw [← HX.out]; exact hF3, (by (have q_hb3 := Below.size hb3; (try simp at q_hb3); have q_hbel := Below.size hbel; (try simp at q_hbel); repeat (first | exact Below.refl _ _ | (refine Below.trans ?_ (Below.mono hb3 (by first | omega | (simp; omega) | simp))) | (refine Below.trans ?_ (Below.mono hbel (by first | omega | (simp; omega) | simp))) | (refine Below.setCell ?_ (by first | omega | (simp; omega) | simp) _) | (refine Below.alloc ?_ (by first | omega | (simp; omega) | simp) _) | apply Below.drew | apply below_drewN)))⟩
      case measure =>
        have := lenV_fresh hF3
        simp only [List.length_append, List.length_replicate, List.length_singleton, hlen] at this
        simp [show ∀ A n c, lenV (.slice A n c) = n from fun _ _ _ => rfl]
        omega
    · obtain rfl : j = 256 - n := by omega
      have q : ((n + (256 - n) : Nat) : Int) = 256 := by omega
      have q2 : n + (256 - n) = 256 := by omega
      go_wp2_with fail
      go_ret
      exact ⟨_, rfl, hF, hbel⟩
set_option maxRecDepth 100000 in
set_option maxHeartbeats 4000000 in
theorem lfull_any (A : Option Addr) (n c : Nat) (l : List UInt8) (w : World) (hr : Rd w A n l) (hc : n ≤ c) :
    Calls Try.prog 75 #[.slice A n c] w (Gives 5 w (fullL l)) := by
  have hlen := hr.len
  rcases Nat.eq_zero_or_pos n with h0 | h0
  · subst h0
    have e : fullL l = l ++ List.replicate 256 (lastB l) := by unfold fullL; rw [List.take_of_length_le (by omega), hlen]
    rw [e]
    exact full0_any A c l w hr
  · rcases Nat.lt_or_ge 256 n with h1 | h1
    · have hr2 := hr.pre 256 (by omega)
      obtain ⟨m, hm⟩ : ∃ m, m = l.take 256 := ⟨_, rfl⟩
      have e : fullL l = m := by unfold fullL; rw [← hm, hm]; simp; omega
      rw [e]
      rw [← hm] at hr2
      have hlen2 := hr2.len
      have h1' : (256 : Int) < n := by omega
      have h2' : 256 ≤ c := by omega
      have h3' : (256 : Int) ≤ c := by omega
      clear hr hm e hlen
      go_enter Try.func75, Try.ntmps75
      go_wp2_with (at_builtin; refine wpList_append_bytes _ rfl (.tmp 10) (.tmp 11) _ rfl w.heap.size 5 Try.underlying39 infoB8 _ [] rfl (Fresh.of_blk (Blk.new w _ _) (Nat.le_refl _) (by unfold maxLen; omega) rfl rfl) _ _ _ m rfl (hr2.alloc _) (by simp <;> omega) (by simp) ?_; intro b' w1 hF1 hg1 hb1)
      go_loopw [3] (fun v wr => Fresh 5 w.heap.size wr v m ∧ Below w.heap.size w wr) (fun v _ => 256 - lenV v)
      case atStart => exact ⟨hF1, (by (have q_hb1 := Below.size hb1; (try simp at q_hb1); repeat (first | exact Below.refl _ _ | (refine Below.trans ?_ (Below.mono hb1 (by first | omega | (simp; omega) | simp))) | (refine Below.setCell ?_ (by first | omega | (simp; omega) | simp) _) | (refine Below.alloc ?_ (by first | omega | (simp; omega) | simp) _) | apply Below.drew | apply below_drewN)))⟩
      case round =>
        clear hF1 hg1 hb1
        obtain ⟨hF, hbel⟩ := hrel
        obtain ⟨Av, cv, rfl, _, _, hcv1, hcv2⟩ := hF.rdn 256 hlen2
        go_wp2_with fail
        go_ret
        exact ⟨_, rfl, hF, hbel⟩
    · have e : fullL l = l ++ List.replicate (256 - n) (lastB l) := by unfold fullL; rw [List.take_of_length_le (by omega), hlen]
      rw [e]
      exact full1_any A n c l w hr h0 h1 hc

/-- An entry cut: no more than 260 bytes, filled up if that is asked. -/
def cutE (full : Bool) (e : Ent) : Ent := (e.1, if full = true then fullL (e.2.take 260) else e.2.take 260)
def cutL (full : Bool) (es : List Ent) : List Ent := (es.take 30).map (cutE full)
theorem cutL_len (full : Bool) (es : List Ent) : (cutL full es).length = min 30 es.length := by simp [cutL]
theorem cutE_len (full : Bool) (e : Ent) : (cutE full e).2.length ≤ 260 := by
  unfold cutE
  simp only
  split
  · rw [fullL_len]; omega
  · simp; omega
theorem cutL_le {full : Bool} {es : List Ent} : ∀ e ∈ cutL full es, e.2.length ≤ 260 := by
  intro e he
  obtain ⟨x, _, rfl⟩ := List.mem_map.1 he
  exact cutE_len full x
theorem cut_step {full : Bool} {es : List Ent} {k : Nat} {e : Ent} (h : es[k]? = some e) : (es.take (k + 1)).map (cutE full) = (es.take k).map (cutE full) ++ [cutE full e] := by rw [take_step h, List.map_append]; rfl

set_option maxRecDepth 100000 in
set_option maxHeartbeats 8000000 in
theorem lcut_any (cnt : Int) (A : Option Addr) (n c B0 : Nat) (es : List Ent) (full : Bool) (w : World) (hr : RdR entK B0 5 w A n es) (hB00 : B0 ≤ w.heap.size) :
    Calls Try.prog 36 #[.agg #[.int .u64 cnt, .slice A n c], .bool full] w fun e w' => ∃ v, e = .returned (.agg #[.int .u64 cnt, v]) ∧ OwnR entK 99 w.heap.size B0 5 w' v (cutL full es) ∧ Below w.heap.size w w' := by
  have hlen := hr.len
  have B1 : Blk (((w.alloc (.cells #[.int .u64 cnt, .slice A n c] 49)).alloc (.cells #[.int .u64 0, .slice none 0 0] 49)).alloc (.cells #[.int .u64 cnt, .slice none 0 0] 49)) (w.heap.size + 1) 49 #[.int .u64 0, .slice none 0 0] := by
    have h := (Blk.new (w.alloc (.cells #[.int .u64 cnt, .slice A n c] 49)) 49 #[.int .u64 0, .slice none 0 0]).alloc (.cells #[.int .u64 cnt, .slice none 0 0] 49)
    simpa using h
  have B2 : Blk (((w.alloc (.cells #[.int .u64 cnt, .slice A n c] 49)).alloc (.cells #[.int .u64 0, .slice none 0 0] 49)).alloc (.cells #[.int .u64 cnt, .slice none 0 0] 49)) (w.heap.size + 1 + 1) 49 #[.int .u64 cnt, .slice none 0 0] := by
    have h := Blk.new ((w.alloc (.cells #[.int .u64 cnt, .slice A n c] 49)).alloc (.cells #[.int .u64 0, .slice none 0 0] 49)) 49 #[.int .u64 cnt, .slice none 0 0]
    simpa using h
  go_enter Try.func36, Try.ntmps36
  go_wp2_with fail
  go_loopw [14] (fun i wr => ∃ k : Nat, k ≤ n ∧ k ≤ 30 ∧ i = .int .i64 k ∧ (∃ v, Blk wr (w.heap.size + 1 + 1) 49 #[.int .u64 cnt, v] ∧ OwnR entK 99 (w.heap.size + 1 + 1 + 1) B0 5 wr v ((es.take k).map (cutE full))) ∧ Blk wr (w.heap.size + 1) 49 #[.int .u64 0, .slice none 0 0] ∧ Below w.heap.size w wr) (fun i _ => n - (intOf i).toNat)
  case atStart => exact ⟨0, by omega, by omega, rfl, ⟨_, B2, OwnR.nil _⟩, B1, (by (repeat (first | exact Below.refl _ _ | (refine Below.setCell ?_ (by first | omega | (simp; omega) | simp) _) | (refine Below.alloc ?_ (by first | omega | (simp; omega) | simp) _) | apply Below.drew | apply below_drewN)))⟩
  case round =>
    clear B1 B2
    obtain ⟨k, hk, hk30, rfl, ⟨v, hBg, hO⟩, hRv, hbel⟩ := hrel
    have hbz := hbel.size
    have z1 := hBg.lt
    have zO := hO.block
    by_cases hlt : k < n ∧ k < 30
    · obtain ⟨hlt, hk29⟩ := hlt
      obtain ⟨b, off, K, Ad, nd, cd, L, rfl, hb, he, c0, c1, hX, hnd, hcd⟩ := (hr.below hbel).ent hlt
      have hLl : L.length = nd := hX.1.len
      have hk30' : (k : Int) < 30 := by omega
      unfold maxLen at hcd
      have Bx := Blk.new wr 99 #[.int .i64 K, .slice Ad nd cd]
      have hXa := hX.below ((Below.refl _ wr).alloc (Nat.le_refl _) (.cells #[.int .i64 K, .slice Ad nd cd] 99))
      have hBa := hBg.alloc (.cells #[.int .i64 K, .slice Ad nd cd] 99)
      have hOa := hO.alloc (.cells #[.int .i64 K, .slice Ad nd cd] 99)
      have hRa := hRv.alloc (.cells #[.int .i64 K, .slice Ad nd cd] 99)
      have bXa : Below w.heap.size w (wr.alloc (.cells #[.int .i64 K, .slice Ad nd cd] 99)) := (by (have q_hbel := Below.size hbel; (try simp at q_hbel); repeat (first | exact Below.refl _ _ | (refine Below.trans ?_ (Below.mono hbel (by first | omega | (simp; omega) | simp))) | (refine Below.setCell ?_ (by first | omega | (simp; omega) | simp) _) | (refine Below.alloc ?_ (by first | omega | (simp; omega) | simp) _) | apply Below.drew | apply below_drewN)))
      cases full
      · by_cases h260 : nd ≤ 260
        · have h260' : (nd : Int) ≤ 260 := by omega
          have hXX0 : RdX B0 5 (wr.alloc (.cells #[.int .i64 K, .slice Ad nd cd] 99)) Ad nd (cutE false (K, L)).2 := by
            show RdX _ _ _ _ _ (L.take 260)
            rw [List.take_of_length_le (by omega)]
            exact hXa
          obtain ⟨A', n', c', hA'⟩ : ∃ A' n' c', Value.slice Ad nd cd = Value.slice A' n' c' := ⟨_, _, _, rfl⟩
          injection hA' with e1 e2 e3
          obtain ⟨wX, hwX⟩ : ∃ wX, wX = wr.alloc (.cells #[.int .i64 K, .slice Ad nd cd] 99) := ⟨_, rfl⟩
          have BX : Blk wX wr.heap.size 99 #[.int .i64 K, .slice A' n' c'] := by rw [hwX, ← e1, ← e2, ← e3]; exact Bx
          have hBX : Blk wX (w.heap.size + 1 + 1) 49 #[.int .u64 cnt, v] := by rw [hwX]; exact hBa
          have hOX : OwnR entK 99 (w.heap.size + 1 + 1 + 1) B0 5 wX v ((es.take k).map (cutE false)) := by rw [hwX]; exact hOa
          have hRX : Blk wX (w.heap.size + 1) 49 #[.int .u64 0, .slice none 0 0] := by rw [hwX]; exact hRa
          have hXX : RdX B0 5 wX A' n' (cutE false (K, L)).2 := by rw [hwX, ← e1, ← e2]; exact hXX0
          have h1' : n' ≤ c' := by omega
          have h2' : c' ≤ maxLen := by unfold maxLen at *; omega
          have bX : Below w.heap.size w wX := by rw [hwX]; first | exact bXa | exact bXa2
          clear hXa hBa hOa hRa hO hRv hBg hX e1 e2 e3 hXX0
          go_upto_region 10 with fail
          rw [← hwX]
          clear hwX
          have hst := Lib.hid (cut_step (full := false) he)
          have hkl : ((es.take k).map (cutE false)).length = k := by simp; omega
          obtain ⟨hs, hFr, hAll⟩ := hOX
          have hsl : hs.length = k := by rw [hAll.1, hkl]
          have hI : RItem entK B0 5 wX (K, A', n', c') (cutE false (K, L)) := ⟨rfl, hXX, h1', h2'⟩
          have hI2 := hI.below ((Below.refl _ wX).alloc (Nat.le_refl _) (.cells #[.int .i64 K, .slice A' n' c'] 99))
          have hA2 := hAll.below ((Below.refl _ wX).alloc (Nat.le_refl _) (.cells #[.int .i64 K, .slice A' n' c'] 99))
          have hB2 := hBX.alloc (.cells #[.int .i64 K, .slice A' n' c'] 99)
          have hR2 := hRX.alloc (.cells #[.int .i64 K, .slice A' n' c'] 99)
          have hF2 := hFr.alloc (.cells #[.int .i64 K, .slice A' n' c'] 99)
          have cX := BX.cell
          have cB := hBX.cell
          obtain ⟨Av, nv, cv, hve⟩ : ∃ A n c, v = .slice A n c := by obtain ⟨A, c, e, _⟩ := hFr; exact ⟨A, _, c, e⟩
          subst hve
          have zX := BX.lt
          have zB := hBX.lt
          have bXs := bX.size
          clear hI he hAll hBX hRX
          go_wp2_with (at_builtin; refine wpList_append_G (E := entE) _ rfl (.tmp 35) (.tmp 37) _ rfl (w.heap.size + 1 + 1 + 1) 99 Try.underlying47 infoRE rfl _ hs rfl hF2 _ _ _ [(K, A', n', c')] rfl (RdG.boxed _ _ _ _ rfl) (by omega) (by omega) (by simp; omega) ?_; intro b' w3 hF3 hg3 hb3; obtain ⟨A3, c3, e3, hown3⟩ := id hF3; subst e3; have hB3 := hB2.grown hg3 (own_ne hF2 hB2 (by decide)); have c9 := hB3.cell; have f9 := hB3.frozen)
          have hO3 : OwnR entK 99 (w.heap.size + 1 + 1 + 1) B0 5 w3 (.slice A3 (k + 1) c3) ((es.take k).map (cutE false) ++ [cutE false (K, L)]) := by
            obtain ⟨A4, c4, e4, hown4⟩ := id hF2
            have e5 : (hs ++ [(K, A', n', c')]).length = k + 1 := by simp [hsl]
            rw [← e5]
            exact ⟨_, hF3, hA2.more hI2 hown4 (by omega) (by decide) hg3⟩
          have hR3 := hR2.grown hg3 (own_ne hF2 hR2 (by decide))
          go_roundw
          case rel => exact ⟨k + 1, by omega, by omega, by go_num, ⟨_, hB3.set_ 1 _, by rw [hst.out]; exact hO3.set_ hB3 (by decide) (by omega) (by omega) 1 _⟩, hR3.far (by simp) _, (by (have q_hb3 := Below.size hb3; (try simp at q_hb3); have q_bX := Below.size bX; (try simp at q_bX); repeat (first | exact Below.refl _ _ | (refine Below.trans ?_ (Below.mono hb3 (by first | omega | (simp; omega) | simp))) | (refine Below.trans ?_ (Below.mono bX (by first | omega | (simp; omega) | simp))) | (refine Below.setCell ?_ (by first | omega | (simp; omega) | simp) _) | (refine Below.alloc ?_ (by first | omega | (simp; omega) | simp) _) | apply Below.drew | apply below_drewN)))⟩
          case measure => simp [intOf] <;> omega
        · have h260' : (260 : Int) < nd := by omega
          have q1 : (260 : Int) ≤ cd := by omega
          have q2 : 260 ≤ cd := by omega
          have hXX0 : RdX B0 5 (wr.alloc (.cells #[.int .i64 K, .slice Ad 260 cd] 99)) Ad 260 (cutE false (K, L)).2 := (hX.below ((Below.refl _ wr).alloc (Nat.le_refl _) _)).pre 260 (by omega)
          have bXa : Below w.heap.size w (wr.alloc (.cells #[.int .i64 K, .slice Ad 260 cd] 99)) := (by (have q_hbel := Below.size hbel; (try simp at q_hbel); repeat (first | exact Below.refl _ _ | (refine Below.trans ?_ (Below.mono hbel (by first | omega | (simp; omega) | simp))) | (refine Below.setCell ?_ (by first | omega | (simp; omega) | simp) _) | (refine Below.alloc ?_ (by first | omega | (simp; omega) | simp) _) | apply Below.drew | apply below_drewN)))
          obtain ⟨A', n', c', hA'⟩ : ∃ A' n' c', Value.slice Ad 260 cd = Value.slice A' n' c' := ⟨_, _, _, rfl⟩
          injection hA' with e1 e2 e3
          obtain ⟨wX, hwX⟩ : ∃ wX, wX = wr.alloc (.cells #[.int .i64 K, .slice Ad 260 cd] 99) := ⟨_, rfl⟩
          have BX : Blk wX wr.heap.size 99 #[.int .i64 K, .slice A' n' c'] := by rw [hwX, ← e1, ← e2, ← e3]; exact Blk.new _ _ _
          have hBX : Blk wX (w.heap.size + 1 + 1) 49 #[.int .u64 cnt, v] := by rw [hwX]; exact hBg.alloc _
          have hOX : OwnR entK 99 (w.heap.size + 1 + 1 + 1) B0 5 wX v ((es.take k).map (cutE false)) := by rw [hwX]; exact hO.alloc _
          have hRX : Blk wX (w.heap.size + 1) 49 #[.int .u64 0, .slice none 0 0] := by rw [hwX]; exact hRv.alloc _
          have hXX : RdX B0 5 wX A' n' (cutE false (K, L)).2 := by rw [hwX, ← e1, ← e2]; exact hXX0
          have h1' : n' ≤ c' := by omega
          have h2' : c' ≤ maxLen := by unfold maxLen at *; omega
          have bX : Below w.heap.size w wX := by rw [hwX]; first | exact bXa | exact bXa2
          clear hXa hBa hOa hRa hO hRv hBg hX e1 e2 e3 hXX0
          go_upto_region 10 with fail
          rw [← hwX]
          clear hwX
          have hst := Lib.hid (cut_step (full := false) he)
          have hkl : ((es.take k).map (cutE false)).length = k := by simp; omega
          obtain ⟨hs, hFr, hAll⟩ := hOX
          have hsl : hs.length = k := by rw [hAll.1, hkl]
          have hI : RItem entK B0 5 wX (K, A', n', c') (cutE false (K, L)) := ⟨rfl, hXX, h1', h2'⟩
          have hI2 := hI.below ((Below.refl _ wX).alloc (Nat.le_refl _) (.cells #[.int .i64 K, .slice A' n' c'] 99))
          have hA2 := hAll.below ((Below.refl _ wX).alloc (Nat.le_refl _) (.cells #[.int .i64 K, .slice A' n' c'] 99))
          have hB2 := hBX.alloc (.cells #[.int .i64 K, .slice A' n' c'] 99)
          have hR2 := hRX.alloc (.cells #[.int .i64 K, .slice A' n' c'] 99)
          have hF2 := hFr.alloc (.cells #[.int .i64 K, .slice A' n' c'] 99)
          have cX := BX.cell
          have cB := hBX.cell
          obtain ⟨Av, nv, cv, hve⟩ : ∃ A n c, v = .slice A n c := by obtain ⟨A, c, e, _⟩ := hFr; exact ⟨A, _, c, e⟩
          subst hve
          have zX := BX.lt
          have zB := hBX.lt
          have bXs := bX.size
          clear hI he hAll hBX hRX
          go_wp2_with (at_builtin; refine wpList_append_G (E := entE) _ rfl (.tmp 35) (.tmp 37) _ rfl (w.heap.size + 1 + 1 + 1) 99 Try.underlying47 infoRE rfl _ hs rfl hF2 _ _ _ [(K, A', n', c')] rfl (RdG.boxed _ _ _ _ rfl) (by omega) (by omega) (by simp; omega) ?_; intro b' w3 hF3 hg3 hb3; obtain ⟨A3, c3, e3, hown3⟩ := id hF3; subst e3; have hB3 := hB2.grown hg3 (own_ne hF2 hB2 (by decide)); have c9 := hB3.cell; have f9 := hB3.frozen)
          have hO3 : OwnR entK 99 (w.heap.size + 1 + 1 + 1) B0 5 w3 (.slice A3 (k + 1) c3) ((es.take k).map (cutE false) ++ [cutE false (K, L)]) := by
            obtain ⟨A4, c4, e4, hown4⟩ := id hF2
            have e5 : (hs ++ [(K, A', n', c')]).length = k + 1 := by simp [hsl]
            rw [← e5]
            exact ⟨_, hF3, hA2.more hI2 hown4 (by omega) (by decide) hg3⟩
          have hR3 := hR2.grown hg3 (own_ne hF2 hR2 (by decide))
          go_roundw
          case rel => exact ⟨k + 1, by omega, by omega, by go_num, ⟨_, hB3.set_ 1 _, by rw [hst.out]; exact hO3.set_ hB3 (by decide) (by omega) (by omega) 1 _⟩, hR3.far (by simp) _, (by (have q_hb3 := Below.size hb3; (try simp at q_hb3); have q_bX := Below.size bX; (try simp at q_bX); repeat (first | exact Below.refl _ _ | (refine Below.trans ?_ (Below.mono hb3 (by first | omega | (simp; omega) | simp))) | (refine Below.trans ?_ (Below.mono bX (by first | omega | (simp; omega) | simp))) | (refine Below.setCell ?_ (by first | omega | (simp; omega) | simp) _) | (refine Below.alloc ?_ (by first | omega | (simp; omega) | simp) _) | apply Below.drew | apply below_drewN)))⟩
          case measure => simp [intOf] <;> omega
      · by_cases h260 : nd ≤ 260
        · have h260' : (nd : Int) ≤ 260 := by omega
          go_wp2_with fail
          refine (lfull_any Ad nd cd L _ hXa.1 hnd).mono ?_
          rintro e w2 ⟨v2, rfl, hF2, hb2⟩
          obtain ⟨A2, c2, rfl, _, _, h1, h2⟩ := hF2.rdn 256 (fullL_len _)
          have hXX0 : RdX B0 5 (w2.setCell ⟨wr.heap.size, 1, none⟩ (.slice A2 256 c2)) A2 256 (cutE true (K, L)).2 := by
            show RdX _ _ _ _ _ (fullL (L.take 260))
            rw [List.take_of_length_le (by omega)]
            exact (RdX.fresh hF2 (fullL_len _)).set_ (Bx.on hb2) (by decide) (by omega) 1 _
          have cX2 := (Bx.on hb2).cell
          have fX2 := (Bx.on hb2).frozen
          have bXa2 : Below w.heap.size w (w2.setCell ⟨wr.heap.size, 1, none⟩ (.slice A2 256 c2)) := (by (have q_hb2 := Below.size hb2; (try simp at q_hb2); have q_hbel := Below.size hbel; (try simp at q_hbel); repeat (first | exact Below.refl _ _ | (refine Below.trans ?_ (Below.mono hb2 (by first | omega | (simp; omega) | simp))) | (refine Below.trans ?_ (Below.mono hbel (by first | omega | (simp; omega) | simp))) | (refine Below.setCell ?_ (by first | omega | (simp; omega) | simp) _) | (refine Below.alloc ?_ (by first | omega | (simp; omega) | simp) _) | apply Below.drew | apply below_drewN)))
          obtain ⟨A', n', c', hA'⟩ : ∃ A' n' c', Value.slice A2 256 c2 = Value.slice A' n' c' := ⟨_, _, _, rfl⟩
          injection hA' with e1 e2 e3
          obtain ⟨wX, hwX⟩ : ∃ wX, wX = w2.setCell ⟨wr.heap.size, 1, none⟩ (.slice A2 256 c2) := ⟨_, rfl⟩
          have BX : Blk wX wr.heap.size 99 #[.int .i64 K, .slice A' n' c'] := by rw [hwX, ← e1, ← e2, ← e3]; exact (Bx.on hb2).set_ 1 _
          have hBX : Blk wX (w.heap.size + 1 + 1) 49 #[.int .u64 cnt, v] := by rw [hwX]; exact ((hBa.on hb2).far (by simp; omega) _)
          have hOX : OwnR entK 99 (w.heap.size + 1 + 1 + 1) B0 5 wX v ((es.take k).map (cutE true)) := by rw [hwX]; exact (hOa.below hb2).setNe (Bx.on hb2) (by decide) (by omega) (fun y hy => by have := (zO y hy).2; omega) 1 _
          have hRX : Blk wX (w.heap.size + 1) 49 #[.int .u64 0, .slice none 0 0] := by rw [hwX]; exact ((hRa.on hb2).far (by simp; omega) _)
          have hXX : RdX B0 5 wX A' n' (cutE true (K, L)).2 := by rw [hwX, ← e1, ← e2]; exact hXX0
          have h1' : n' ≤ c' := by omega
          have h2' : c' ≤ maxLen := by unfold maxLen at *; omega
          have bX : Below w.heap.size w wX := by rw [hwX]; first | exact bXa | exact bXa2
          clear hXa hBa hOa hRa hO hRv hBg hX e1 e2 e3 hXX0
          go_upto_region 10 with fail
          rw [← hwX]
          clear hwX
          have hst := Lib.hid (cut_step (full := true) he)
          have hkl : ((es.take k).map (cutE true)).length = k := by simp; omega
          obtain ⟨hs, hFr, hAll⟩ := hOX
          have hsl : hs.length = k := by rw [hAll.1, hkl]
          have hI : RItem entK B0 5 wX (K, A', n', c') (cutE true (K, L)) := ⟨rfl, hXX, h1', h2'⟩
          have hI2 := hI.below ((Below.refl _ wX).alloc (Nat.le_refl _) (.cells #[.int .i64 K, .slice A' n' c'] 99))
          have hA2 := hAll.below ((Below.refl _ wX).alloc (Nat.le_refl _) (.cells #[.int .i64 K, .slice A' n' c'] 99))
          have hB2 := hBX.alloc (.cells #[.int .i64 K, .slice A' n' c'] 99)
          have hR2 := hRX.alloc (.cells #[.int .i64 K, .slice A' n' c'] 99)
          have hF2 := hFr.alloc (.cells #[.int .i64 K, .slice A' n' c'] 99)
          have cX := BX.cell
          have cB := hBX.cell
          obtain ⟨Av, nv, cv, hve⟩ : ∃ A n c, v = .slice A n c := by obtain ⟨A, c, e, _⟩ := hFr; exact ⟨A, _, c, e⟩
          subst hve
          have zX := BX.lt
          have zB := hBX.lt
          have bXs := bX.size
          clear hI he hAll hBX hRX
          go_wp2_with (at_builtin; refine wpList_append_G (E := entE) _ rfl (.tmp 35) (.tmp 37) _ rfl (w.heap.size + 1 + 1 + 1) 99 Try.underlying47 infoRE rfl _ hs rfl hF2 _ _ _ [(K, A', n', c')] rfl (RdG.boxed _ _ _ _ rfl) (by omega) (by omega) (by simp; omega) ?_; intro b' w3 hF3 hg3 hb3; obtain ⟨A3, c3, e3, hown3⟩ := id hF3; subst e3; have hB3 := hB2.grown hg3 (own_ne hF2 hB2 (by decide)); have c9 := hB3.cell; have f9 := hB3.frozen)
          have hO3 : OwnR entK 99 (w.heap.size + 1 + 1 + 1) B0 5 w3 (.slice A3 (k + 1) c3) ((es.take k).map (cutE true) ++ [cutE true (K, L)]) := by
            obtain ⟨A4, c4, e4, hown4⟩ := id hF2
            have e5 : (hs ++ [(K, A', n', c')]).length = k + 1 := by simp [hsl]
            rw [← e5]
            exact ⟨_, hF3, hA2.more hI2 hown4 (by omega) (by decide) hg3⟩
          have hR3 := hR2.grown hg3 (own_ne hF2 hR2 (by decide))
          go_roundw
          case rel => exact ⟨k + 1, by omega, by omega, by go_num, ⟨_, hB3.set_ 1 _, by rw [hst.out]; exact hO3.set_ hB3 (by decide) (by omega) (by omega) 1 _⟩, hR3.far (by simp) _, (by (have q_hb3 := Below.size hb3; (try simp at q_hb3); have q_bX := Below.size bX; (try simp at q_bX); repeat (first | exact Below.refl _ _ | (refine Below.trans ?_ (Below.mono hb3 (by first | omega | (simp; omega) | simp))) | (refine Below.trans ?_ (Below.mono bX (by first | omega | (simp; omega) | simp))) | (refine Below.setCell ?_ (by first | omega | (simp; omega) | simp) _) | (refine Below.alloc ?_ (by first | omega | (simp; omega) | simp) _) | apply Below.drew | apply below_drewN)))⟩
          case measure => simp [intOf] <;> omega
        · have h260' : (260 : Int) < nd := by omega
          have q1 : (260 : Int) ≤ cd := by omega
          have q2 : 260 ≤ cd := by omega
          have Bx3 := Blk.new wr 99 #[.int .i64 K, .slice Ad 260 cd]
          have hX3 := (hX.below ((Below.refl _ wr).alloc (Nat.le_refl _) (.cells #[.int .i64 K, .slice Ad 260 cd] 99))).pre 260 (by omega)
          have hB3 := hBg.alloc (.cells #[.int .i64 K, .slice Ad 260 cd] 99)
          have hO3 := hO.alloc (.cells #[.int .i64 K, .slice Ad 260 cd] 99)
          have hR3 := hRv.alloc (.cells #[.int .i64 K, .slice Ad 260 cd] 99)
          go_wp2_with fail
          refine (lfull_any Ad 260 cd (L.take 260) _ hX3.1 q2).mono ?_
          rintro e w2 ⟨v2, rfl, hF2, hb2⟩
          obtain ⟨A2, c2, rfl, _, _, h1, h2⟩ := hF2.rdn 256 (fullL_len _)
          have hXX0 : RdX B0 5 (w2.setCell ⟨wr.heap.size, 1, none⟩ (.slice A2 256 c2)) A2 256 (cutE true (K, L)).2 := by
            show RdX _ _ _ _ _ (fullL (L.take 260))
            exact (RdX.fresh hF2 (fullL_len _)).set_ (Bx3.on hb2) (by decide) (by omega) 1 _
          have cX2 := (Bx3.on hb2).cell
          have fX2 := (Bx3.on hb2).frozen
          have bXa2 : Below w.heap.size w (w2.setCell ⟨wr.heap.size, 1, none⟩ (.slice A2 256 c2)) := (by (have q_hb2 := Below.size hb2; (try simp at q_hb2); have q_hbel := Below.size hbel; (try simp at q_hbel); repeat (first | exact Below.refl _ _ | (refine Below.trans ?_ (Below.mono hb2 (by first | omega | (simp; omega) | simp))) | (refine Below.trans ?_ (Below.mono hbel (by first | omega | (simp; omega) | simp))) | (refine Below.setCell ?_ (by first | omega | (simp; omega) | simp) _) | (refine Below.alloc ?_ (by first | omega | (simp; omega) | simp) _) | apply Below.drew | apply below_drewN)))
          clear bXa
          obtain ⟨A', n', c', hA'⟩ : ∃ A' n' c', Value.slice A2 256 c2 = Value.slice A' n' c' := ⟨_, _, _, rfl⟩
          injection hA' with e1 e2 e3
          obtain ⟨wX, hwX⟩ : ∃ wX, wX = w2.setCell ⟨wr.heap.size, 1, none⟩ (.slice A2 256 c2) := ⟨_, rfl⟩
          have BX : Blk wX wr.heap.size 99 #[.int .i64 K, .slice A' n' c'] := by rw [hwX, ← e1, ← e2, ← e3]; exact (Bx3.on hb2).set_ 1 _
          have hBX : Blk wX (w.heap.size + 1 + 1) 49 #[.int .u64 cnt, v] := by rw [hwX]; exact ((hB3.on hb2).far (by simp; omega) _)
          have hOX : OwnR entK 99 (w.heap.size + 1 + 1 + 1) B0 5 wX v ((es.take k).map (cutE true)) := by rw [hwX]; exact (hO3.below hb2).setNe (Bx3.on hb2) (by decide) (by omega) (fun y hy => by have := (zO y hy).2; omega) 1 _
          have hRX : Blk wX (w.heap.size + 1) 49 #[.int .u64 0, .slice none 0 0] := by rw [hwX]; exact ((hR3.on hb2).far (by simp; omega) _)
          have hXX : RdX B0 5 wX A' n' (cutE true (K, L)).2 := by rw [hwX, ← e1, ← e2]; exact hXX0
          have h1' : n' ≤ c' := by omega
          have h2' : c' ≤ maxLen := by unfold maxLen at *; omega
          have bX : Below w.heap.size w wX := by rw [hwX]; first | exact bXa | exact bXa2
          clear hXa hBa hOa hRa hO hRv hBg hX e1 e2 e3 hXX0
          clear hX3 hB3 hO3 hR3 Bx3
          go_upto_region 10 with fail
          rw [← hwX]
          clear hwX
          have hst := Lib.hid (cut_step (full := true) he)
          have hkl : ((es.take k).map (cutE true)).length = k := by simp; omega
          obtain ⟨hs, hFr, hAll⟩ := hOX
          have hsl : hs.length = k := by rw [hAll.1, hkl]
          have hI : RItem entK B0 5 wX (K, A', n', c') (cutE true (K, L)) := ⟨rfl, hXX, h1', h2'⟩
          have hI2 := hI.below ((Below.refl _ wX).alloc (Nat.le_refl _) (.cells #[.int .i64 K, .slice A' n' c'] 99))
          have hA2 := hAll.below ((Below.refl _ wX).alloc (Nat.le_refl _) (.cells #[.int .i64 K, .slice A' n' c'] 99))
          have hB2 := hBX.alloc (.cells #[.int .i64 K, .slice A' n' c'] 99)
          have hR2 := hRX.alloc (.cells #[.int .i64 K, .slice A' n' c'] 99)
          have hF2 := hFr.alloc (.cells #[.int .i64 K, .slice A' n' c'] 99)
          have cX := BX.cell
          have cB := hBX.cell
          obtain ⟨Av, nv, cv, hve⟩ : ∃ A n c, v = .slice A n c := by obtain ⟨A, c, e, _⟩ := hFr; exact ⟨A, _, c, e⟩
          subst hve
          have zX := BX.lt
          have zB := hBX.lt
          have bXs := bX.size
          clear hI he hAll hBX hRX
          go_wp2_with (at_builtin; refine wpList_append_G (E := entE) _ rfl (.tmp 35) (.tmp 37) _ rfl (w.heap.size + 1 + 1 + 1) 99 Try.underlying47 infoRE rfl _ hs rfl hF2 _ _ _ [(K, A', n', c')] rfl (RdG.boxed _ _ _ _ rfl) (by omega) (by omega) (by simp; omega) ?_; intro b' w3 hF3 hg3 hb3; obtain ⟨A3, c3, e3, hown3⟩ := id hF3; subst e3; have hB3 := hB2.grown hg3 (own_ne hF2 hB2 (by decide)); have c9 := hB3.cell; have f9 := hB3.frozen)
          have hO3 : OwnR entK 99 (w.heap.size + 1 + 1 + 1) B0 5 w3 (.slice A3 (k + 1) c3) ((es.take k).map (cutE true) ++ [cutE true (K, L)]) := by
            obtain ⟨A4, c4, e4, hown4⟩ := id hF2
            have e5 : (hs ++ [(K, A', n', c')]).length = k + 1 := by simp [hsl]
            rw [← e5]
            exact ⟨_, hF3, hA2.more hI2 hown4 (by omega) (by decide) hg3⟩
          have hR3 := hR2.grown hg3 (own_ne hF2 hR2 (by decide))
          go_roundw
          case rel => exact ⟨k + 1, by omega, by omega, by go_num, ⟨_, hB3.set_ 1 _, by rw [hst.out]; exact hO3.set_ hB3 (by decide) (by omega) (by omega) 1 _⟩, hR3.far (by simp) _, (by (have q_hb3 := Below.size hb3; (try simp at q_hb3); have q_bX := Below.size bX; (try simp at q_bX); repeat (first | exact Below.refl _ _ | (refine Below.trans ?_ (Below.mono hb3 (by first | omega | (simp; omega) | simp))) | (refine Below.trans ?_ (Below.mono bX (by first | omega | (simp; omega) | simp))) | (refine Below.setCell ?_ (by first | omega | (simp; omega) | simp) _) | (refine Below.alloc ?_ (by first | omega | (simp; omega) | simp) _) | apply Below.drew | apply below_drewN)))⟩
          case measure => simp [intOf] <;> omega
    · have hT := Lib.hid (show (es.take k).map (cutE full) = cutL full es by
        unfold cutL
        congr 1
        by_cases h30 : k = 30
        · rw [h30]
        · rw [List.take_of_length_le (by omega), List.take_of_length_le (by omega)])
      obtain ⟨Av, nv, cv, rfl⟩ := hO.shape
      by_cases hkn : k < n
      · obtain rfl : k = 30 := by omega
        obtain ⟨b, off, K, Ad, nd, cd, L, rfl, hb, he, c0, c1, hX, hnd, hcd⟩ := (hr.below hbel).ent hkn
        have hkn' : (30 : Int) < n := by omega
        have hRv2 := hRv.alloc (.cells #[.int .i64 K, .slice Ad nd cd] 99)
        have hBg2 := hBg.alloc (.cells #[.int .i64 K, .slice Ad nd cd] 99)
        have hO2' := hO.alloc (.cells #[.int .i64 K, .slice Ad nd cd] 99)
        have b2 : Below w.heap.size w (wr.alloc (.cells #[.int .i64 K, .slice Ad nd cd] 99)) := (by (have q_hbel := Below.size hbel; (try simp at q_hbel); repeat (first | exact Below.refl _ _ | (refine Below.trans ?_ (Below.mono hbel (by first | omega | (simp; omega) | simp))) | (refine Below.setCell ?_ (by first | omega | (simp; omega) | simp) _) | (refine Below.alloc ?_ (by first | omega | (simp; omega) | simp) _) | apply Below.drew | apply below_drewN)))
        have c3 := hBg2.cell
        have c2 := hRv2.cell
        have f2 := hRv2.frozen
        have zR := hRv2.lt
        have R1 := (hRv2.set_ 0 (.int .u64 cnt)).set_ 1 (.slice Av nv cv)
        have e0' := R1.cell 0
        have e1' := R1.cell 1
        simp at e0' e1'
        have hO2 := ((hO2'.set_ hRv2 (by decide) (by omega) (by omega) 0 (.int .u64 cnt)).set_ (hRv2.set_ 0 (.int .u64 cnt)) (by decide) (by omega) (by omega) 1 (.slice Av nv cv)).from_ (Br' := w.heap.size) (by omega)
        rw [hT.out] at hO2
        clear he hX hO hRv hBg
        go_wp2_with fail
        refine bodyPost_ret (v := .agg #[.int .u64 cnt, .slice Av nv cv]) (by simp [results, Try.results36, go_sem, e0', e1']) rfl ⟨_, rfl, hO2, (by (have q_b2 := Below.size b2; (try simp at q_b2); repeat (first | exact Below.refl _ _ | (refine Below.trans ?_ (Below.mono b2 (by first | omega | (simp; omega) | simp))) | (refine Below.setCell ?_ (by first | omega | (simp; omega) | simp) _) | (refine Below.alloc ?_ (by first | omega | (simp; omega) | simp) _) | apply Below.drew | apply below_drewN)))⟩
      · obtain rfl : k = n := by omega
        have c3 := hBg.cell
        have c2 := hRv.cell
        have f2 := hRv.frozen
        have zR := hRv.lt
        have R1 := (hRv.set_ 0 (.int .u64 cnt)).set_ 1 (.slice Av nv cv)
        have e0' := R1.cell 0
        have e1' := R1.cell 1
        simp at e0' e1'
        have hO2 := ((hO.set_ hRv (by decide) (by omega) (by omega) 0 (.int .u64 cnt)).set_ (hRv.set_ 0 (.int .u64 cnt)) (by decide) (by omega) (by omega) 1 (.slice Av nv cv)).from_ (Br' := w.heap.size) (by omega)
        rw [hT.out] at hO2
        go_wp2_with fail
        refine bodyPost_ret (v := .agg #[.int .u64 cnt, .slice Av nv cv]) (by simp [results, Try.results36, go_sem, e0', e1']) rfl ⟨_, rfl, hO2, (by (have q_hbel := Below.size hbel; (try simp at q_hbel); repeat (first | exact Below.refl _ _ | (refine Below.trans ?_ (Below.mono hbel (by first | omega | (simp; omega) | simp))) | (refine Below.setCell ?_ (by first | omega | (simp; omega) | simp) _) | (refine Below.alloc ?_ (by first | omega | (simp; omega) | simp) _) | apply Below.drew | apply below_drewN)))⟩
end Go.Proofs.Ythepgnankelmeaa
