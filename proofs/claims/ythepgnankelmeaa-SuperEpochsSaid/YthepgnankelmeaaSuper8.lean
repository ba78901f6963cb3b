/- The walk of the statement SuperRead. -/
import Derived.Test.YthepgnankelmeaaSuper7
import Derived.Deep.DeepCutAuto
namespace Go.Proofs.Ythepgnankelmeaa
open Go.RowKit

/-- A block of the bytes R, from place 7k on, round and round; the first j bytes are laid. -/
def rawL (R : List UInt8) (k j : Nat) : List UInt8 := (List.range 256).map fun i => if i < j ∧ 0 < R.length then (R[(i + 7 * k) % R.length]?).getD 0 else 0
theorem rawL_len (R : List UInt8) (k j : Nat) : (rawL R k j).length = 256 := by simp [rawL]
theorem rawL_zero (R : List UInt8) (k : Nat) : rawL R k 0 = List.replicate 256 0 := by
  unfold rawL
  rw [List.eq_replicate_iff]
  refine ⟨by simp, fun x hx => ?_⟩
  obtain ⟨i, _, rfl⟩ := List.mem_map.1 hx
  rw [if_neg (by omega)]
theorem rawL_skip {R : List UInt8} (h : R.length = 0) (k j : Nat) : rawL R k (j + 1) = rawL R k j := by
  unfold rawL
  apply List.map_congr_left
  intro i _
  rw [if_neg (by omega), if_neg (by omega)]
theorem rawL_set {R : List UInt8} {k j : Nat} {x : UInt8} (hj : j < 256) (h : R[(j + 7 * k) % R.length]? = some x) : (rawL R k j).set j x = rawL R k (j + 1) := by
  have hpos : 0 < R.length := by have := (List.getElem?_eq_some_iff.1 h).1; omega
  unfold rawL
  apply List.ext_getElem?
  intro i
  rw [List.getElem?_set]
  by_cases hi : j = i
  · subst hi
    rw [if_pos rfl, if_pos (by simpa using hj), List.getElem?_map, List.getElem?_range hj]
    simp only [Option.map_some]
    rw [if_pos ⟨by omega, hpos⟩, h]
    rfl
  · rw [if_neg hi, List.getElem?_map, List.getElem?_map]
    by_cases h256 : i < 256
    · rw [List.getElem?_range h256]
      simp only [Option.map_some]
      congr 1
      by_cases hlt : i < j
      · rw [if_pos ⟨hlt, hpos⟩, if_pos ⟨by omega, hpos⟩]
      · rw [if_neg (by omega), if_neg (by omega)]
    · rw [List.getElem?_eq_none (by simp; omega)]; rfl
def rawsL (R : List UInt8) (k : Nat) : List (List UInt8) := (List.range k).map fun q => rawL R q 256
theorem rawsL_len (R : List UInt8) (k : Nat) : (rawsL R k).length = k := by simp [rawsL]
theorem rawsL_succ (R : List UInt8) (k : Nat) : rawsL R (k + 1) = rawsL R k ++ [rawL R k 256] := by simp [rawsL, List.range_succ]
theorem rawsL_ok (R : List UInt8) (k : Nat) : (rawsL R k).any shortB = false := by
  rw [List.any_eq_false]
  intro l hl
  obtain ⟨q, _, rfl⟩ := List.mem_map.1 hl
  simp [shortB, rawL_len]
theorem rawsL_cut (R : List UInt8) (k : Nat) (hk : 0 < k) : ∃ ls, rawsL R k = rawL R 0 256 :: ls ∧ ((rawL R 0 256).take 255 :: ls).any shortB = true := by
  obtain ⟨q, rfl⟩ : ∃ q, k = q + 1 := ⟨k - 1, by omega⟩
  refine ⟨(List.range q).map fun i => rawL R (i + 1) 256, ?_, ?_⟩
  · unfold rawsL
    rw [List.range_succ_eq_map]
    simp
  · rw [List.any_cons]
    simp [shortB, rawL_len]

set_option maxRecDepth 100000 in
set_option maxHeartbeats 8000000 in
theorem law_sread (p t : Int) (Ar : Option Addr) (nr cr : Nat) (R : List UInt8) (short : Bool) (w : World) (hr : Rd w Ar nr R) (hrc : nr ≤ cr) :
    Calls Try.prog 9 #[.agg #[.int .i64 p, .int .i64 t], .slice Ar nr cr, .bool short] w fun e w' => e = .returned (.bool true) ∧ Below w.heap.size w w' := by
  have B0 : Blk (w.alloc (.cells #[.int .i64 p, .int .i64 t] 23)) w.heap.size 23 #[.int .i64 p, .int .i64 t] := Blk.new _ _ _
  obtain ⟨Z, hZ⟩ : ∃ Z : List UInt8, Z = rawL R 0 0 := ⟨_, rfl⟩
  have hZ2 := Lib.hid (show Z = List.replicate 256 0 by rw [hZ, rawL_zero])
  have hZl : Z.length = 256 := by rw [hZ2.out]; simp
  clear hZ
  have hmk : ∀ W : World, (Instr.makeSlice 39 (.int .i64 256) (.int .i64 256)).run Try.prog W = .ok (.slice (some ⟨W.heap.size, 0, none⟩) 256 256) (W.alloc (.cells (part Z 0) 5)) :=
    make_bytes (P := Try.prog) Try.underlying39 info8 .i64 .i64 256 (by omega) Z hZl
  cases hm : gmay p t
  · go_enter Try.func9, Try.ntmps9
    go_wp2_with fail
    refine (grmay_any p t _).mono ?_
    rintro e w1 ⟨rfl, hb1⟩
    rw [hm]
    go_wp2_with fail
    refine (sawake_any _).mono ?_
    rintro e w2 ⟨rfl, hb2⟩
    go_wp2_with fail
    go_ret
    exact ⟨rfl, (by (have q_hb2 := Below.size hb2; (try simp at q_hb2); have q_hb1 := Below.size hb1; (try simp at q_hb1); repeat (first | exact Below.refl _ _ | (refine Below.trans ?_ (Below.mono hb2 (by first | omega | (simp; omega) | simp))) | (refine Below.trans ?_ (Below.mono hb1 (by first | omega | (simp; omega) | simp))) | (refine Below.setCell ?_ (by first | omega | (simp; omega) | simp) _) | (refine Below.alloc ?_ (by first | omega | (simp; omega) | simp) _) | apply Below.drew | apply below_drewN)))⟩
  · obtain ⟨s1, s2, s3, s4⟩ := nSeal_eq hm
    obtain ⟨h1, h2, h3, h4⟩ := gmay_true hm
    obtain ⟨_, _, _, _, e0, e3⟩ := geo_range h1 h2
    obtain ⟨E, hE⟩ := Int.eq_ofNat_of_zero_le (show 0 ≤ epochsI p by omega)
    have HE := Lib.hid hE
    have hE1 : 1 ≤ E := by omega
    have hE3 : E ≤ 3 := by omega
    have S1 := Lib.hid s1
    have S4 : 8 * nSeal p ≤ 256 * E := by omega
    clear s1 s4 hE e0 e3
    go_enter Try.func9, Try.ntmps9
    go_wp2_with fail
    refine (grmay_any p t _).mono ?_
    rintro e w1 ⟨rfl, hb1⟩
    rw [hm]
    have B1 := B0.on hb1
    have b1 : Below w.heap.size w w1 := (by (have q_hb1 := Below.size hb1; (try simp at q_hb1); repeat (first | exact Below.refl _ _ | (refine Below.trans ?_ (Below.mono hb1 (by first | omega | (simp; omega) | simp))) | (refine Below.setCell ?_ (by first | omega | (simp; omega) | simp) _) | (refine Below.alloc ?_ (by first | omega | (simp; omega) | simp) _) | apply Below.drew | apply below_drewN)))
    clear hb1 B0
    go_wp2_with fail
    go_loopw [7, 8] (fun v i wr => ∃ k : Nat, k ≤ E ∧ i = .int .i64 k ∧ OwnSS 5 39 (w.heap.size + 1) wr v (rawsL R k) ∧ Blk wr w.heap.size 23 #[.int .i64 p, .int .i64 t] ∧ Below w.heap.size w wr) (fun _ i _ => E - (intOf i).toNat)
    case atStart => exact ⟨0, by omega, rfl, OwnSS.nil _, B1, b1⟩
    case round =>
      clear B1 b1
      obtain ⟨k, hk, rfl, hO, hB, hbr⟩ := hrel
      have cc := hB.cell
      by_cases hlt : k < E
      · go_wp2_with fail
        refine (repochs_any p t _ h1 h2).mono ?_
        rintro e w2 ⟨rfl, hb2⟩
        rw [HE.out]
        have hO2 := hO.below hb2
        have hB2 := hB.on hb2
        have b2 := hbr.trans (hb2.mono hbr.size)
        have z2 := hB2.lt
        have hlt' : (k : Int) < E := by omega
        clear hO hB hbr hb2 cc
        go_wp2_with fail
        have Z0 : Fresh 5 w2.heap.size (w2.alloc (.cells (part Z 0) 5)) (.slice (some ⟨w2.heap.size, 0, none⟩) 256 256) (rawL R k 0) := by
          rw [rawL_zero, ← hZ2.out]
          exact Fresh.of_blk (Blk.new w2 5 _) (Nat.le_refl _) (by unfold maxLen; omega) hZl (by rw [hZ2.out]; simp [part, bv])
        have bz : Below w2.heap.size w2 (w2.alloc (.cells (part Z 0) 5)) := (by (repeat (first | exact Below.refl _ _ | (refine Below.setCell ?_ (by first | omega | (simp; omega) | simp) _) | (refine Below.alloc ?_ (by first | omega | (simp; omega) | simp) _) | apply Below.drew | apply below_drewN)))
        obtain ⟨g, hg⟩ : ∃ g, g = w2.heap.size := ⟨_, rfl⟩
        rw [← hg] at Z0 bz ⊢
        obtain ⟨w3, hw3⟩ : ∃ w3, w3 = w2.alloc (.cells (part Z 0) 5) := ⟨_, rfl⟩
        rw [← hw3] at Z0 bz ⊢
        have HZ := Lib.hid hg
        clear hw3 hg
        go_loopw [31] (fun i wi => ∃ j : Nat, j ≤ 256 ∧ i = .int .i64 j ∧ Fresh 5 g wi (.slice (some ⟨g, 0, none⟩) 256 256) (rawL R k j) ∧ Below g w2 wi) (fun i _ => 256 - (intOf i).toNat)
        case atStart => exact ⟨0, by omega, rfl, Z0, bz⟩
        case round =>
          clear Z0 bz
          obtain ⟨j, hj, rfl, hF, hbi⟩ := hrel
          by_cases hj2 : j < 256
          · have hj2' : (j : Int) < 256 := by omega
            by_cases hn : 0 < nr
            · have hRl := hr.len
              have hri := (hr.on b2 (Nat.le_refl _)).on hbi (by rw [HZ.out]; exact Nat.le_refl _)
              have hmod : (j + 7 * k) % nr < nr := Nat.mod_lt _ hn
              obtain ⟨ba, off, x, rfl, hba, hx, hcx⟩ := hri.at_ hmod
              have hst := Lib.hid (rawL_set (R := R) (k := k) (j := j) (x := x) hj2 (by rw [hRl]; exact hx))
              obtain ⟨q, hq⟩ : ∃ q, q = (j + 7 * k) % nr := ⟨_, rfl⟩
              have e2 : ((j : Int) + 7 * (k : Int)).tmod (nr : Int) = (q : Int) := by
                rw [show (j : Int) + 7 * (k : Int) = ((j + 7 * k : Nat) : Int) from by omega, hq]; rfl
              rw [← hq] at hmod hcx hx
              clear hq
              have hFl := Lib.hid (rawL_len R k j)
              obtain ⟨g', cur, hA', _, hBb, hsz, _, _⟩ := hF.open_ hFl.out (by omega)
              injection hA' with hA'
              injection hA' with hA'
              subst hA'
              have hset := hF.set_ hFl.out rfl hBb j x hj2
              rw [hst.out] at hset
              obtain ⟨u, hu⟩ : ∃ u, cur[j]? = some u := ⟨_, Array.getElem?_eq_getElem (by omega)⟩
              have cb := (hBb.cell j).trans hu
              have fb := hBb.frozen j
              have hn0 : (0 : Int) < nr := by omega
              have hnz : (nr : Int) ≠ 0 := by omega
              clear hu hsz hF
              go_wp2_with fail
              go_roundw
              case rel => exact ⟨j + 1, by omega, by go_num, hset, (by (have q_hbi := Below.size hbi; (try simp at q_hbi); repeat (first | exact Below.refl _ _ | (refine Below.trans ?_ (Below.mono hbi (by first | omega | (simp; omega) | simp))) | (refine Below.setCell ?_ (by first | omega | (simp; omega) | simp) _) | (refine Below.alloc ?_ (by first | omega | (simp; omega) | simp) _) | apply Below.drew | apply below_drewN)))⟩
              case measure => simp [intOf] <;> omega
            · obtain rfl : nr = 0 := by omega
              have hst := Lib.hid (rawL_skip (R := R) hr.len k j)
              go_wp2_with fail
              go_roundw
              case rel => exact ⟨j + 1, by omega, by go_num, by rw [hst.out]; exact hF, hbi⟩
              case measure => simp [intOf] <;> omega
          · obtain rfl : j = 256 := by omega
            have hbi2 : Below w2.heap.size w2 wr := by rw [← HZ.out]; exact hbi
            have hO3 := hO2.below hbi2
            have hB3 := hB2.on hbi2
            have hgw : w.heap.size < g := by rw [HZ.out]; exact z2
            have b3 : Below w.heap.size w wr := b2.trans (hbi.mono (by omega))
            have hF3 := hF.from_ (B' := w.heap.size + 1) (by omega)
            clear hF hbi hbi2 hO2 hB2 b2 z2 HZ
            obtain ⟨bs, hrow, hbs, hall⟩ := hO3
            have z3 := b3.size
            have hbk := hbs
            rw [rawsL_len] at hbk
            go_wp2_with (at_builtin; refine wpList_append_G (E := ssE) _ rfl (.tmp 51) (.tmp 53) _ rfl (w.heap.size + 1) 39 Try.underlying51 infoSS rfl _ bs rfl (hrow.alloc _) _ _ _ [((some ⟨g, 0, none⟩ : Option Addr), 256, 256)] rfl (RdG.boxed _ _ _ _ rfl) (by omega) (by omega) (by simp; omega) ?_; intro b' w4 hF4 hg4 hb4)
            have hO4 := OwnSS.more (T1 := 5) (by decide) hbs (hrow.alloc (.cells #[.slice (some ⟨g, 0, none⟩) 256 256] 39)) (fun k x l hx hl => (hall k x l hx hl).below (by (repeat (first | exact Below.refl _ _ | (refine Below.setCell ?_ (by first | omega | (simp; omega) | simp) _) | (refine Below.alloc ?_ (by first | omega | (simp; omega) | simp) _) | apply Below.drew | apply below_drewN)))) (hF3.below (by (repeat (first | exact Below.refl _ _ | (refine Below.setCell ?_ (by first | omega | (simp; omega) | simp) _) | (refine Below.alloc ?_ (by first | omega | (simp; omega) | simp) _) | apply Below.drew | apply below_drewN)))) hF4 hg4
            go_roundw
            case rel => exact ⟨k + 1, by omega, by go_num, by rw [rawsL_succ]; exact hO4, (hB3.alloc _).below hb4 (by omega), (by (have q_hb4 := Below.size hb4; (try simp at q_hb4); have q_b3 := Below.size b3; (try simp at q_b3); repeat (first | exact Below.refl _ _ | (refine Below.trans ?_ (Below.mono hb4 (by first | omega | (simp; omega) | simp))) | (refine Below.trans ?_ (Below.mono b3 (by first | omega | (simp; omega) | simp))) | (refine Below.setCell ?_ (by first | omega | (simp; omega) | simp) _) | (refine Below.alloc ?_ (by first | omega | (simp; omega) | simp) _) | apply Below.drew | apply below_drewN)))⟩
            case measure => simp [intOf] <;> omega
      · obtain rfl : k = E := by omega
        obtain ⟨S, hS⟩ : ∃ S, S = nSeal p := ⟨_, rfl⟩
        rw [← hS] at s2 s3 S1 S4
        have HS := Lib.hid hS
        clear hS hmk hlt
        cases short
        · obtain ⟨Ab, cb, rfl, hR, hcb, hcm⟩ := hO.rd k (rawsL_len R k)
          clear hO
          go_wp2_with fail
          refine (repochs_any p t _ h1 h2).mono ?_
          rintro e w2 ⟨rfl, hb2⟩
          rw [HE.out]
          have hR2 := hR.below hb2
          have hB2 := hB.on hb2
          have b2 := hbr.trans (hb2.mono hbr.size)
          have c2 := hB2.cell
          clear hR hB hbr hb2 cc
          go_wp2_with fail
          refine (epochs_yes p t Ab k cb (rawsL R k) _ hR2 hm HE.out.symm (rawsL_ok R k)).mono ?_
          rintro e w3 ⟨v, rfl, hF3, hb3⟩
          rw [← HS.out] at hF3
          obtain ⟨Ax, cx, rfl, hX, _, hcx, hcxm⟩ := hF3.rdn S (epsL_len _ _)
          have hR3 := hR2.below hb3
          have hB3 := hB2.on hb3
          have b3 := b2.trans (hb3.mono b2.size)
          have c3 := hB3.cell
          clear hR2 hB2 b2 hb3 hF3 c2
          go_wp2_with fail
          refine (rsealed_any p t _ h1 h2).mono ?_
          rintro e w4 ⟨rfl, hb4⟩
          rw [← S1.out]
          have hR4 := hR3.below hb4
          have hX4 := hX.below hb4
          have b4 := b3.trans (hb4.mono b3.size)
          clear hR3 hB3 b3 hb4 hX c3
          go_wp2_with fail
          go_loopw [101] (fun i wi => ∃ j : Nat, j ≤ S ∧ i = .int .i64 j ∧ RdSS wi Ab k (rawsL R k) ∧ RdG u64E wi Ax S (epsL (rawsL R k).flatten S) ∧ Below w.heap.size w wi) (fun i _ => S - (intOf i).toNat)
          case atStart => exact ⟨0, by omega, rfl, hR4, hX4, b4⟩
          case round =>
            clear hR4 hX4 b4
            obtain ⟨wi, hwi_⟩ : ∃ wi, wi = wr := ⟨_, rfl⟩
            subst hwi_
            obtain ⟨j, hj, rfl, hRi, hXi, hbi⟩ := hrel
            by_cases hj2 : j < S
            · obtain ⟨bx, offx, x, rfl, hbx, hxx, hcx0⟩ := hXi.at_ hj2
              have hcx1 : wi.cell? ⟨bx, offx + j, none⟩ = some (.int .u64 (x : Int)) := by
                have := hcx0 0 (.int .u64 (x : Int)) rfl
                simpa [u64E] using this
              rw [epsL_get _ _ _ hj2] at hxx
              injection hxx with hxx
              subst hxx
              have hj2' : (j : Int) < S := by omega
              obtain ⟨N, hN⟩ : ∃ N, N = numAt (rawsL R k).flatten j := ⟨_, rfl⟩
              have HN := Lib.hid hN
              rw [← hN] at hcx1
              clear hN hcx0
              go_wp2_with fail
              refine wp_flows [(fun y_ _ => y_ = .slice (some ⟨bx, offx, none⟩) S cx), (fun y_ _ => y_ = .int .i64 (j : Int)), (fun y_ _ => y_ = .pointer (some ⟨bx, offx + j, none⟩)), (fun y_ _ => y_ = .int .u64 (N : Int)), (fun y_ _ => y_ = .slice Ab k cb), (fun y_ _ => y_ = .int .i64 (j : Int)), (fun y_ _ => y_ = .int .u64 (N : Int)), (fun y_ _ => y_ = .bool false)] (by kernel_rfl) ⟨Stab.eq _, Stab.eq _, Stab.eq _, Stab.eq _, Stab.eq _, Stab.eq _, Stab.eq _, Stab.eq _, trivial⟩ (by kernel_rfl) (by rfl) ?_ ?_
              · intro kq hkq
                match kq, hkq with
                | 0, _ =>
                  refine StepOk.plain _ 104 rfl rfl rfl [(15, none)] (by kernel_rfl) (fun af wf hbw hf Kf hKf => ?_)
                  obtain ⟨g15, _⟩ := hf
                  have h15 : af.tmps[15]?.getD undef = .slice (some ⟨bx, offx, none⟩) S cx := g15
                  clear g15
                  go_simp
                  exact hKf _ _ (Below.refl _ _) rfl
                | 1, _ =>
                  refine StepOk.plain _ 105 rfl rfl rfl [(17, none)] (by kernel_rfl) (fun af wf hbw hf Kf hKf => ?_)
                  obtain ⟨g17, _⟩ := hf
                  have h17 : af.tmps[17]?.getD undef = .int .i64 (j : Int) := g17
                  clear g17
                  go_simp
                  exact hKf _ _ (Below.refl _ _) rfl
                | 2, _ =>
                  refine StepOk.plain _ 106 rfl rfl rfl [(104, some 0), (105, some 1)] (by kernel_rfl) (fun af wf hbw hf Kf hKf => ?_)
                  obtain ⟨g104, g105, _⟩ := hf
                  have h104 : af.tmps[104]?.getD undef = .slice (some ⟨bx, offx, none⟩) S cx := g104
                  have h105 : af.tmps[105]?.getD undef = .int .i64 (j : Int) := g105
                  clear g104 g105
                  go_simp
                  exact hKf _ _ (Below.refl _ _) rfl
                | 3, _ =>
                  refine StepOk.plain _ 107 rfl rfl rfl [(106, some 2)] (by kernel_rfl) (fun af wf hbw hf Kf hKf => ?_)
                  obtain ⟨g106, _⟩ := hf
                  have h106 : af.tmps[106]?.getD undef = .pointer (some ⟨bx, offx + j, none⟩) := g106
                  clear g106
                  have hcx := (Below.cell (p := ⟨bx, offx + j, none⟩) hbw hbx).trans hcx1
                  go_simp
                  exact hKf _ _ (Below.refl _ _) rfl
                | 4, _ =>
                  refine StepOk.plain _ 108 rfl rfl rfl [(7, none)] (by kernel_rfl) (fun af wf hbw hf Kf hKf => ?_)
                  obtain ⟨g7, _⟩ := hf
                  have h7 : af.tmps[7]?.getD undef = .slice Ab k cb := g7
                  clear g7
                  go_simp
                  exact hKf _ _ (Below.refl _ _) rfl
                | 5, _ =>
                  refine StepOk.plain _ 109 rfl rfl rfl [(17, none)] (by kernel_rfl) (fun af wf hbw hf Kf hKf => ?_)
                  obtain ⟨g17, _⟩ := hf
                  have h17 : af.tmps[17]?.getD undef = .int .i64 (j : Int) := g17
                  clear g17
                  go_simp
                  exact hKf _ _ (Below.refl _ _) rfl
                | 6, _ =>
                  refine StepOk.plain _ 110 rfl rfl rfl [(108, some 4), (109, some 5)] (by kernel_rfl) (fun af wf hbw hf Kf hKf => ?_)
                  obtain ⟨g108, g109, _⟩ := hf
                  have h108 : af.tmps[108]?.getD undef = .slice Ab k cb := g108
                  have h109 : af.tmps[109]?.getD undef = .int .i64 (j : Int) := g109
                  clear g108 g109
                  go_simp
                  refine (repoch_any Ab k cb (rawsL R k) j _ (RdSS.below (RdSS.drew hRi) hbw) (by omega) (by omega) (rawsL_ok R k)).mono ?_
                  rintro e wN ⟨rfl, rfl⟩
                  exact hKf _ _ (Below.refl _ _) (int_eq (by rw [HN.out]))
                | 7, _ =>
                  refine StepOk.plain _ 111 rfl rfl rfl [(107, some 3), (110, some 6)] (by kernel_rfl) (fun af wf hbw hf Kf hKf => ?_)
                  obtain ⟨g107, g110, _⟩ := hf
                  have h107 : af.tmps[107]?.getD undef = .int .u64 (N : Int) := g107
                  have h110 : af.tmps[110]?.getD undef = .int .u64 (N : Int) := g110
                  clear g107 g110
                  go_simp
                  exact hKf _ _ (Below.refl _ _) rfl
                | i + 8, h => exact absurd h (by show ¬ (i + 8 < 8); omega)
              · intro af wF hbF hdF hsF hbaseF hfactF
                obtain ⟨T, dsF⟩ := af
                obtain rfl : dsF = _ := hdF
                have e0 := hbaseF 0 (not_dst (by kernel_rfl))
                simp only [List.getElem?_toArray, List.getElem?_cons_zero, Option.getD_some] at e0
                have e1 := hbaseF 1 (not_dst (by kernel_rfl))
                simp only [List.getElem?_toArray, List.getElem?_cons_zero, List.getElem?_cons_succ, Option.getD_some] at e1
                have e2 := hbaseF 2 (not_dst (by kernel_rfl))
                simp only [List.getElem?_toArray, List.getElem?_cons_zero, List.getElem?_cons_succ, Option.getD_some] at e2
                have e3 := hbaseF 3 (not_dst (by kernel_rfl))
                simp only [List.getElem?_toArray, List.getElem?_cons_zero, List.getElem?_cons_succ, Option.getD_some] at e3
                have e4 := hbaseF 4 (not_dst (by kernel_rfl))
                simp only [List.getElem?_toArray, List.getElem?_cons_zero, List.getElem?_cons_succ, Option.getD_some] at e4
                have e5 := hbaseF 5 (not_dst (by kernel_rfl))
                simp only [List.getElem?_toArray, List.getElem?_cons_zero, List.getElem?_cons_succ, Option.getD_some] at e5
                have e6 := hbaseF 6 (not_dst (by kernel_rfl))
                simp only [List.getElem?_toArray, List.getElem?_cons_zero, List.getElem?_cons_succ, Option.getD_some] at e6
                have e7 := hbaseF 7 (not_dst (by kernel_rfl))
                simp only [List.getElem?_toArray, List.getElem?_cons_zero, List.getElem?_cons_succ, Option.getD_some] at e7
                have e8 := hbaseF 8 (not_dst (by kernel_rfl))
                simp only [List.getElem?_toArray, List.getElem?_cons_zero, List.getElem?_cons_succ, Option.getD_some] at e8
                have e9 := hbaseF 9 (not_dst (by kernel_rfl))
                simp only [List.getElem?_toArray, List.getElem?_cons_zero, List.getElem?_cons_succ, Option.getD_some] at e9
                have e10 := hbaseF 10 (not_dst (by kernel_rfl))
                simp only [List.getElem?_toArray, List.getElem?_cons_zero, List.getElem?_cons_succ, Option.getD_some] at e10
                have e11 := hbaseF 11 (not_dst (by kernel_rfl))
                simp only [List.getElem?_toArray, List.getElem?_cons_zero, List.getElem?_cons_succ, Option.getD_some] at e11
                have e12 := hbaseF 12 (not_dst (by kernel_rfl))
                simp only [List.getElem?_toArray, List.getElem?_cons_zero, List.getElem?_cons_succ, Option.getD_some] at e12
                have e13 := hbaseF 13 (not_dst (by kernel_rfl))
                simp only [List.getElem?_toArray, List.getElem?_cons_zero, List.getElem?_cons_succ, Option.getD_some] at e13
                have e14 := hbaseF 14 (not_dst (by kernel_rfl))
                simp only [List.getElem?_toArray, List.getElem?_cons_zero, List.getElem?_cons_succ, Option.getD_some] at e14
                have e15 := hbaseF 15 (not_dst (by kernel_rfl))
                simp only [List.getElem?_toArray, List.getElem?_cons_zero, List.getElem?_cons_succ, Option.getD_some] at e15
                have e16 := hbaseF 16 (not_dst (by kernel_rfl))
                simp only [List.getElem?_toArray, List.getElem?_cons_zero, List.getElem?_cons_succ, Option.getD_some] at e16
                have e17 := hbaseF 17 (not_dst (by kernel_rfl))
                simp only [List.getElem?_toArray, List.getElem?_cons_zero, List.getElem?_cons_succ, Option.getD_some] at e17
                have e18 := hbaseF 18 (not_dst (by kernel_rfl))
                simp only [List.getElem?_toArray, List.getElem?_cons_zero, List.getElem?_cons_succ, Option.getD_some] at e18
                have e19 := hbaseF 19 (not_dst (by kernel_rfl))
                simp only [List.getElem?_toArray, List.getElem?_cons_zero, List.getElem?_cons_succ, Option.getD_some] at e19
                have e20 := hbaseF 20 (not_dst (by kernel_rfl))
                simp only [List.getElem?_toArray, List.getElem?_cons_zero, List.getElem?_cons_succ, Option.getD_some] at e20
                have e21 := hbaseF 21 (not_dst (by kernel_rfl))
                simp only [List.getElem?_toArray, List.getElem?_cons_zero, List.getElem?_cons_succ, Option.getD_some] at e21
                have e22 := hbaseF 22 (not_dst (by kernel_rfl))
                simp only [List.getElem?_toArray, List.getElem?_cons_zero, List.getElem?_cons_succ, Option.getD_some] at e22
                have e23 := hbaseF 23 (not_dst (by kernel_rfl))
                simp only [List.getElem?_toArray, List.getElem?_cons_zero, List.getElem?_cons_succ, Option.getD_some] at e23
                have e24 := hbaseF 24 (not_dst (by kernel_rfl))
                simp only [List.getElem?_toArray, List.getElem?_cons_zero, List.getElem?_cons_succ, Option.getD_some] at e24
                have e25 := hbaseF 25 (not_dst (by kernel_rfl))
                simp only [List.getElem?_toArray, List.getElem?_cons_zero, List.getElem?_cons_succ, Option.getD_some] at e25
                have e26 := hbaseF 26 (not_dst (by kernel_rfl))
                simp only [List.getElem?_toArray, List.getElem?_cons_zero, List.getElem?_cons_succ, Option.getD_some] at e26
                have e27 := hbaseF 27 (not_dst (by kernel_rfl))
                simp only [List.getElem?_toArray, List.getElem?_cons_zero, List.getElem?_cons_succ, Option.getD_some] at e27
                have e28 := hbaseF 28 (not_dst (by kernel_rfl))
                simp only [List.getElem?_toArray, List.getElem?_cons_zero, List.getElem?_cons_succ, Option.getD_some] at e28
                have e29 := hbaseF 29 (not_dst (by kernel_rfl))
                simp only [List.getElem?_toArray, List.getElem?_cons_zero, List.getElem?_cons_succ, Option.getD_some] at e29
                have e30 := hbaseF 30 (not_dst (by kernel_rfl))
                simp only [List.getElem?_toArray, List.getElem?_cons_zero, List.getElem?_cons_succ, Option.getD_some] at e30
                have e31 := hbaseF 31 (not_dst (by kernel_rfl))
                simp only [List.getElem?_toArray, List.getElem?_cons_zero, List.getElem?_cons_succ, Option.getD_some] at e31
                have e32 := hbaseF 32 (not_dst (by kernel_rfl))
                simp only [List.getElem?_toArray, List.getElem?_cons_zero, List.getElem?_cons_succ, Option.getD_some] at e32
                have e33 := hbaseF 33 (not_dst (by kernel_rfl))
                simp only [List.getElem?_toArray, List.getElem?_cons_zero, List.getElem?_cons_succ, Option.getD_some] at e33
                have e34 := hbaseF 34 (not_dst (by kernel_rfl))
                simp only [List.getElem?_toArray, List.getElem?_cons_zero, List.getElem?_cons_succ, Option.getD_some] at e34
                have e35 := hbaseF 35 (not_dst (by kernel_rfl))
                simp only [List.getElem?_toArray, List.getElem?_cons_zero, List.getElem?_cons_succ, Option.getD_some] at e35
                have e36 := hbaseF 36 (not_dst (by kernel_rfl))
                simp only [List.getElem?_toArray, List.getElem?_cons_zero, List.getElem?_cons_succ, Option.getD_some] at e36
                have e37 := hbaseF 37 (not_dst (by kernel_rfl))
                simp only [List.getElem?_toArray, List.getElem?_cons_zero, List.getElem?_cons_succ, Option.getD_some] at e37
                have e38 := hbaseF 38 (not_dst (by kernel_rfl))
                simp only [List.getElem?_toArray, List.getElem?_cons_zero, List.getElem?_cons_succ, Option.getD_some] at e38
                have e39 := hbaseF 39 (not_dst (by kernel_rfl))
                simp only [List.getElem?_toArray, List.getElem?_cons_zero, List.getElem?_cons_succ, Option.getD_some] at e39
                have e40 := hbaseF 40 (not_dst (by kernel_rfl))
                simp only [List.getElem?_toArray, List.getElem?_cons_zero, List.getElem?_cons_succ, Option.getD_some] at e40
                have e41 := hbaseF 41 (not_dst (by kernel_rfl))
                simp only [List.getElem?_toArray, List.getElem?_cons_zero, List.getElem?_cons_succ, Option.getD_some] at e41
                have e42 := hbaseF 42 (not_dst (by kernel_rfl))
                simp only [List.getElem?_toArray, List.getElem?_cons_zero, List.getElem?_cons_succ, Option.getD_some] at e42
                have e43 := hbaseF 43 (not_dst (by kernel_rfl))
                simp only [List.getElem?_toArray, List.getElem?_cons_zero, List.getElem?_cons_succ, Option.getD_some] at e43
                have e44 := hbaseF 44 (not_dst (by kernel_rfl))
                simp only [List.getElem?_toArray, List.getElem?_cons_zero, List.getElem?_cons_succ, Option.getD_some] at e44
                have e45 := hbaseF 45 (not_dst (by kernel_rfl))
                simp only [List.getElem?_toArray, List.getElem?_cons_zero, List.getElem?_cons_succ, Option.getD_some] at e45
                have e46 := hbaseF 46 (not_dst (by kernel_rfl))
                simp only [List.getElem?_toArray, List.getElem?_cons_zero, List.getElem?_cons_succ, Option.getD_some] at e46
                have e47 := hbaseF 47 (not_dst (by kernel_rfl))
                simp only [List.getElem?_toArray, List.getElem?_cons_zero, List.getElem?_cons_succ, Option.getD_some] at e47
                have e48 := hbaseF 48 (not_dst (by kernel_rfl))
                simp only [List.getElem?_toArray, List.getElem?_cons_zero, List.getElem?_cons_succ, Option.getD_some] at e48
                have e49 := hbaseF 49 (not_dst (by kernel_rfl))
                simp only [List.getElem?_toArray, List.getElem?_cons_zero, List.getElem?_cons_succ, Option.getD_some] at e49
                have e50 := hbaseF 50 (not_dst (by kernel_rfl))
                simp only [List.getElem?_toArray, List.getElem?_cons_zero, List.getElem?_cons_succ, Option.getD_some] at e50
                have e51 := hbaseF 51 (not_dst (by kernel_rfl))
                simp only [List.getElem?_toArray, List.getElem?_cons_zero, List.getElem?_cons_succ, Option.getD_some] at e51
                have e52 := hbaseF 52 (not_dst (by kernel_rfl))
                simp only [List.getElem?_toArray, List.getElem?_cons_zero, List.getElem?_cons_succ, Option.getD_some] at e52
                have e53 := hbaseF 53 (not_dst (by kernel_rfl))
                simp only [List.getElem?_toArray, List.getElem?_cons_zero, List.getElem?_cons_succ, Option.getD_some] at e53
                have e54 := hbaseF 54 (not_dst (by kernel_rfl))
                simp only [List.getElem?_toArray, List.getElem?_cons_zero, List.getElem?_cons_succ, Option.getD_some] at e54
                have e55 := hbaseF 55 (not_dst (by kernel_rfl))
                simp only [List.getElem?_toArray, List.getElem?_cons_zero, List.getElem?_cons_succ, Option.getD_some] at e55
                have e56 := hbaseF 56 (not_dst (by kernel_rfl))
                simp only [List.getElem?_toArray, List.getElem?_cons_zero, List.getElem?_cons_succ, Option.getD_some] at e56
                have e57 := hbaseF 57 (not_dst (by kernel_rfl))
                simp only [List.getElem?_toArray, List.getElem?_cons_zero, List.getElem?_cons_succ, Option.getD_some] at e57
                have e58 := hbaseF 58 (not_dst (by kernel_rfl))
                simp only [List.getElem?_toArray, List.getElem?_cons_zero, List.getElem?_cons_succ, Option.getD_some] at e58
                have e59 := hbaseF 59 (not_dst (by kernel_rfl))
                simp only [List.getElem?_toArray, List.getElem?_cons_zero, List.getElem?_cons_succ, Option.getD_some] at e59
                have e60 := hbaseF 60 (not_dst (by kernel_rfl))
                simp only [List.getElem?_toArray, List.getElem?_cons_zero, List.getElem?_cons_succ, Option.getD_some] at e60
                have e61 := hbaseF 61 (not_dst (by kernel_rfl))
                simp only [List.getElem?_toArray, List.getElem?_cons_zero, List.getElem?_cons_succ, Option.getD_some] at e61
                have e62 := hbaseF 62 (not_dst (by kernel_rfl))
                simp only [List.getElem?_toArray, List.getElem?_cons_zero, List.getElem?_cons_succ, Option.getD_some] at e62
                have e63 := hbaseF 63 (not_dst (by kernel_rfl))
                simp only [List.getElem?_toArray, List.getElem?_cons_zero, List.getElem?_cons_succ, Option.getD_some] at e63
                have e64 := hbaseF 64 (not_dst (by kernel_rfl))
                simp only [List.getElem?_toArray, List.getElem?_cons_zero, List.getElem?_cons_succ, Option.getD_some] at e64
                have e65 := hbaseF 65 (not_dst (by kernel_rfl))
                simp only [List.getElem?_toArray, List.getElem?_cons_zero, List.getElem?_cons_succ, Option.getD_some] at e65
                have e66 := hbaseF 66 (not_dst (by kernel_rfl))
                simp only [List.getElem?_toArray, List.getElem?_cons_zero, List.getElem?_cons_succ, Option.getD_some] at e66
                have e67 := hbaseF 67 (not_dst (by kernel_rfl))
                simp only [List.getElem?_toArray, List.getElem?_cons_zero, List.getElem?_cons_succ, Option.getD_some] at e67
                have e68 := hbaseF 68 (not_dst (by kernel_rfl))
                simp only [List.getElem?_toArray, List.getElem?_cons_zero, List.getElem?_cons_succ, Option.getD_some] at e68
                have e69 := hbaseF 69 (not_dst (by kernel_rfl))
                simp only [List.getElem?_toArray, List.getElem?_cons_zero, List.getElem?_cons_succ, Option.getD_some] at e69
                have e70 := hbaseF 70 (not_dst (by kernel_rfl))
                simp only [List.getElem?_toArray, List.getElem?_cons_zero, List.getElem?_cons_succ, Option.getD_some] at e70
                have e71 := hbaseF 71 (not_dst (by kernel_rfl))
                simp only [List.getElem?_toArray, List.getElem?_cons_zero, List.getElem?_cons_succ, Option.getD_some] at e71
                have e72 := hbaseF 72 (not_dst (by kernel_rfl))
                simp only [List.getElem?_toArray, List.getElem?_cons_zero, List.getElem?_cons_succ, Option.getD_some] at e72
                have e73 := hbaseF 73 (not_dst (by kernel_rfl))
                simp only [List.getElem?_toArray, List.getElem?_cons_zero, List.getElem?_cons_succ, Option.getD_some] at e73
                have e74 := hbaseF 74 (not_dst (by kernel_rfl))
                simp only [List.getElem?_toArray, List.getElem?_cons_zero, List.getElem?_cons_succ, Option.getD_some] at e74
                have e75 := hbaseF 75 (not_dst (by kernel_rfl))
                simp only [List.getElem?_toArray, List.getElem?_cons_zero, List.getElem?_cons_succ, Option.getD_some] at e75
                have e76 := hbaseF 76 (not_dst (by kernel_rfl))
                simp only [List.getElem?_toArray, List.getElem?_cons_zero, List.getElem?_cons_succ, Option.getD_some] at e76
                have e77 := hbaseF 77 (not_dst (by kernel_rfl))
                simp only [List.getElem?_toArray, List.getElem?_cons_zero, List.getElem?_cons_succ, Option.getD_some] at e77
                have e78 := hbaseF 78 (not_dst (by kernel_rfl))
                simp only [List.getElem?_toArray, List.getElem?_cons_zero, List.getElem?_cons_succ, Option.getD_some] at e78
                have e79 := hbaseF 79 (not_dst (by kernel_rfl))
                simp only [List.getElem?_toArray, List.getElem?_cons_zero, List.getElem?_cons_succ, Option.getD_some] at e79
                have e80 := hbaseF 80 (not_dst (by kernel_rfl))
                simp only [List.getElem?_toArray, List.getElem?_cons_zero, List.getElem?_cons_succ, Option.getD_some] at e80
                have e81 := hbaseF 81 (not_dst (by kernel_rfl))
                simp only [List.getElem?_toArray, List.getElem?_cons_zero, List.getElem?_cons_succ, Option.getD_some] at e81
                have e82 := hbaseF 82 (not_dst (by kernel_rfl))
                simp only [List.getElem?_toArray, List.getElem?_cons_zero, List.getElem?_cons_succ, Option.getD_some] at e82
                have e83 := hbaseF 83 (not_dst (by kernel_rfl))
                simp only [List.getElem?_toArray, List.getElem?_cons_zero, List.getElem?_cons_succ, Option.getD_some] at e83
                have e84 := hbaseF 84 (not_dst (by kernel_rfl))
                simp only [List.getElem?_toArray, List.getElem?_cons_zero, List.getElem?_cons_succ, Option.getD_some] at e84
                have e85 := hbaseF 85 (not_dst (by kernel_rfl))
                simp only [List.getElem?_toArray, List.getElem?_cons_zero, List.getElem?_cons_succ, Option.getD_some] at e85
                have e86 := hbaseF 86 (not_dst (by kernel_rfl))
                simp only [List.getElem?_toArray, List.getElem?_cons_zero, List.getElem?_cons_succ, Option.getD_some] at e86
                have e87 := hbaseF 87 (not_dst (by kernel_rfl))
                simp only [List.getElem?_toArray, List.getElem?_cons_zero, List.getElem?_cons_succ, Option.getD_some] at e87
                have e88 := hbaseF 88 (not_dst (by kernel_rfl))
                simp only [List.getElem?_toArray, List.getElem?_cons_zero, List.getElem?_cons_succ, Option.getD_some] at e88
                have e89 := hbaseF 89 (not_dst (by kernel_rfl))
                simp only [List.getElem?_toArray, List.getElem?_cons_zero, List.getElem?_cons_succ, Option.getD_some] at e89
                have e90 := hbaseF 90 (not_dst (by kernel_rfl))
                simp only [List.getElem?_toArray, List.getElem?_cons_zero, List.getElem?_cons_succ, Option.getD_some] at e90
                have e91 := hbaseF 91 (not_dst (by kernel_rfl))
                simp only [List.getElem?_toArray, List.getElem?_cons_zero, List.getElem?_cons_succ, Option.getD_some] at e91
                have e92 := hbaseF 92 (not_dst (by kernel_rfl))
                simp only [List.getElem?_toArray, List.getElem?_cons_zero, List.getElem?_cons_succ, Option.getD_some] at e92
                have e93 := hbaseF 93 (not_dst (by kernel_rfl))
                simp only [List.getElem?_toArray, List.getElem?_cons_zero, List.getElem?_cons_succ, Option.getD_some] at e93
                have e94 := hbaseF 94 (not_dst (by kernel_rfl))
                simp only [List.getElem?_toArray, List.getElem?_cons_zero, List.getElem?_cons_succ, Option.getD_some] at e94
                have e95 := hbaseF 95 (not_dst (by kernel_rfl))
                simp only [List.getElem?_toArray, List.getElem?_cons_zero, List.getElem?_cons_succ, Option.getD_some] at e95
                have e96 := hbaseF 96 (not_dst (by kernel_rfl))
                simp only [List.getElem?_toArray, List.getElem?_cons_zero, List.getElem?_cons_succ, Option.getD_some] at e96
                have e97 := hbaseF 97 (not_dst (by kernel_rfl))
                simp only [List.getElem?_toArray, List.getElem?_cons_zero, List.getElem?_cons_succ, Option.getD_some] at e97
                have e98 := hbaseF 98 (not_dst (by kernel_rfl))
                simp only [List.getElem?_toArray, List.getElem?_cons_zero, List.getElem?_cons_succ, Option.getD_some] at e98
                have e99 := hbaseF 99 (not_dst (by kernel_rfl))
                simp only [List.getElem?_toArray, List.getElem?_cons_zero, List.getElem?_cons_succ, Option.getD_some] at e99
                have e100 := hbaseF 100 (not_dst (by kernel_rfl))
                simp only [List.getElem?_toArray, List.getElem?_cons_zero, List.getElem?_cons_succ, Option.getD_some] at e100
                have e101 := hbaseF 101 (not_dst (by kernel_rfl))
                simp only [List.getElem?_toArray, List.getElem?_cons_zero, List.getElem?_cons_succ, Option.getD_some] at e101
                have e102 := hbaseF 102 (not_dst (by kernel_rfl))
                simp only [List.getElem?_toArray, List.getElem?_cons_zero, List.getElem?_cons_succ, Option.getD_some] at e102
                have e103 := hbaseF 103 (not_dst (by kernel_rfl))
                simp only [List.getElem?_toArray, List.getElem?_cons_zero, List.getElem?_cons_succ, Option.getD_some] at e103
                have e112 := hbaseF 112 (not_dst (by kernel_rfl))
                simp only [List.getElem?_toArray, List.getElem?_cons_zero, List.getElem?_cons_succ, Option.getD_some] at e112
                have e113 := hbaseF 113 (not_dst (by kernel_rfl))
                simp only [List.getElem?_toArray, List.getElem?_cons_zero, List.getElem?_cons_succ, Option.getD_some] at e113
                have e111 := hfactF 7 111 (by decide) rfl
                replace e111 : T[111]?.getD undef = .bool false := e111
                clear hbaseF hfactF
                have hT : T = #[T[0]?.getD undef, T[1]?.getD undef, T[2]?.getD undef, T[3]?.getD undef, T[4]?.getD undef, T[5]?.getD undef, T[6]?.getD undef, T[7]?.getD undef, T[8]?.getD undef, T[9]?.getD undef, T[10]?.getD undef, T[11]?.getD undef, T[12]?.getD undef, T[13]?.getD undef, T[14]?.getD undef, T[15]?.getD undef, T[16]?.getD undef, T[17]?.getD undef, T[18]?.getD undef, T[19]?.getD undef, T[20]?.getD undef, T[21]?.getD undef, T[22]?.getD undef, T[23]?.getD undef, T[24]?.getD undef, T[25]?.getD undef, T[26]?.getD undef, T[27]?.getD undef, T[28]?.getD undef, T[29]?.getD undef, T[30]?.getD undef, T[31]?.getD undef, T[32]?.getD undef, T[33]?.getD undef, T[34]?.getD undef, T[35]?.getD undef, T[36]?.getD undef, T[37]?.getD undef, T[38]?.getD undef, T[39]?.getD undef, T[40]?.getD undef, T[41]?.getD undef, T[42]?.getD undef, T[43]?.getD undef, T[44]?.getD undef, T[45]?.getD undef, T[46]?.getD undef, T[47]?.getD undef, T[48]?.getD undef, T[49]?.getD undef, T[50]?.getD undef, T[51]?.getD undef, T[52]?.getD undef, T[53]?.getD undef, T[54]?.getD undef, T[55]?.getD undef, T[56]?.getD undef, T[57]?.getD undef, T[58]?.getD undef, T[59]?.getD undef, T[60]?.getD undef, T[61]?.getD undef, T[62]?.getD undef, T[63]?.getD undef, T[64]?.getD undef, T[65]?.getD undef, T[66]?.getD undef, T[67]?.getD undef, T[68]?.getD undef, T[69]?.getD undef, T[70]?.getD undef, T[71]?.getD undef, T[72]?.getD undef, T[73]?.getD undef, T[74]?.getD undef, T[75]?.getD undef, T[76]?.getD undef, T[77]?.getD undef, T[78]?.getD undef, T[79]?.getD undef, T[80]?.getD undef, T[81]?.getD undef, T[82]?.getD undef, T[83]?.getD undef, T[84]?.getD undef, T[85]?.getD undef, T[86]?.getD undef, T[87]?.getD undef, T[88]?.getD undef, T[89]?.getD undef, T[90]?.getD undef, T[91]?.getD undef, T[92]?.getD undef, T[93]?.getD undef, T[94]?.getD undef, T[95]?.getD undef, T[96]?.getD undef, T[97]?.getD undef, T[98]?.getD undef, T[99]?.getD undef, T[100]?.getD undef, T[101]?.getD undef, T[102]?.getD undef, T[103]?.getD undef, T[104]?.getD undef, T[105]?.getD undef, T[106]?.getD undef, T[107]?.getD undef, T[108]?.getD undef, T[109]?.getD undef, T[110]?.getD undef, T[111]?.getD undef, T[112]?.getD undef, T[113]?.getD undef] := arr_eq T 114 hsF
                clear hsF
                rw [e0] at hT; clear e0
                rw [e1] at hT; clear e1
                rw [e2] at hT; clear e2
                rw [e3] at hT; clear e3
                rw [e4] at hT; clear e4
                rw [e5] at hT; clear e5
                rw [e6] at hT; clear e6
                rw [e7] at hT; clear e7
                rw [e8] at hT; clear e8
                rw [e9] at hT; clear e9
                rw [e10] at hT; clear e10
                rw [e11] at hT; clear e11
                rw [e12] at hT; clear e12
                rw [e13] at hT; clear e13
                rw [e14] at hT; clear e14
                rw [e15] at hT; clear e15
                rw [e16] at hT; clear e16
                rw [e17] at hT; clear e17
                rw [e18] at hT; clear e18
                rw [e19] at hT; clear e19
                rw [e20] at hT; clear e20
                rw [e21] at hT; clear e21
                rw [e22] at hT; clear e22
                rw [e23] at hT; clear e23
                rw [e24] at hT; clear e24
                rw [e25] at hT; clear e25
                rw [e26] at hT; clear e26
                rw [e27] at hT; clear e27
                rw [e28] at hT; clear e28
                rw [e29] at hT; clear e29
                rw [e30] at hT; clear e30
                rw [e31] at hT; clear e31
                rw [e32] at hT; clear e32
                rw [e33] at hT; clear e33
                rw [e34] at hT; clear e34
                rw [e35] at hT; clear e35
                rw [e36] at hT; clear e36
                rw [e37] at hT; clear e37
                rw [e38] at hT; clear e38
                rw [e39] at hT; clear e39
                rw [e40] at hT; clear e40
                rw [e41] at hT; clear e41
                rw [e42] at hT; clear e42
                rw [e43] at hT; clear e43
                rw [e44] at hT; clear e44
                rw [e45] at hT; clear e45
                rw [e46] at hT; clear e46
                rw [e47] at hT; clear e47
                rw [e48] at hT; clear e48
                rw [e49] at hT; clear e49
                rw [e50] at hT; clear e50
                rw [e51] at hT; clear e51
                rw [e52] at hT; clear e52
                rw [e53] at hT; clear e53
                rw [e54] at hT; clear e54
                rw [e55] at hT; clear e55
                rw [e56] at hT; clear e56
                rw [e57] at hT; clear e57
                rw [e58] at hT; clear e58
                rw [e59] at hT; clear e59
                rw [e60] at hT; clear e60
                rw [e61] at hT; clear e61
                rw [e62] at hT; clear e62
                rw [e63] at hT; clear e63
                rw [e64] at hT; clear e64
                rw [e65] at hT; clear e65
                rw [e66] at hT; clear e66
                rw [e67] at hT; clear e67
                rw [e68] at hT; clear e68
                rw [e69] at hT; clear e69
                rw [e70] at hT; clear e70
                rw [e71] at hT; clear e71
                rw [e72] at hT; clear e72
                rw [e73] at hT; clear e73
                rw [e74] at hT; clear e74
                rw [e75] at hT; clear e75
                rw [e76] at hT; clear e76
                rw [e77] at hT; clear e77
                rw [e78] at hT; clear e78
                rw [e79] at hT; clear e79
                rw [e80] at hT; clear e80
                rw [e81] at hT; clear e81
                rw [e82] at hT; clear e82
                rw [e83] at hT; clear e83
                rw [e84] at hT; clear e84
                rw [e85] at hT; clear e85
                rw [e86] at hT; clear e86
                rw [e87] at hT; clear e87
                rw [e88] at hT; clear e88
                rw [e89] at hT; clear e89
                rw [e90] at hT; clear e90
                rw [e91] at hT; clear e91
                rw [e92] at hT; clear e92
                rw [e93] at hT; clear e93
                rw [e94] at hT; clear e94
                rw [e95] at hT; clear e95
                rw [e96] at hT; clear e96
                rw [e97] at hT; clear e97
                rw [e98] at hT; clear e98
                rw [e99] at hT; clear e99
                rw [e100] at hT; clear e100
                rw [e101] at hT; clear e101
                rw [e102] at hT; clear e102
                rw [e103] at hT; clear e103
                generalize T[104]?.getD undef = u104 at hT
                generalize T[105]?.getD undef = u105 at hT
                generalize T[106]?.getD undef = u106 at hT
                generalize T[107]?.getD undef = u107 at hT
                generalize T[108]?.getD undef = u108 at hT
                generalize T[109]?.getD undef = u109 at hT
                generalize T[110]?.getD undef = u110 at hT
                rw [e111] at hT; clear e111
                rw [e112] at hT; clear e112
                rw [e113] at hT; clear e113
                subst hT
                go_wp2_with fail
                go_roundw
                case rel => exact ⟨j + 1, by omega, by go_num, hRi.below hbF, hXi.below hbF, (by (have q_hbF := Below.size hbF; (try simp at q_hbF); have q_hbi := Below.size hbi; (try simp at q_hbi); repeat (first | exact Below.refl _ _ | (refine Below.trans ?_ (Below.mono hbF (by first | omega | (simp; omega) | simp))) | (refine Below.trans ?_ (Below.mono hbi (by first | omega | (simp; omega) | simp))) | (refine Below.setCell ?_ (by first | omega | (simp; omega) | simp) _) | (refine Below.alloc ?_ (by first | omega | (simp; omega) | simp) _) | apply Below.drew | apply below_drewN)))⟩
                case measure => simp [intOf] <;> omega
            · obtain rfl : j = S := by omega
              go_wp2_with fail
              refine (sawake_any _).mono ?_
              rintro e w5 ⟨rfl, hb5⟩
              go_wp2_with fail
              go_ret
              exact ⟨rfl, (by (have q_hb5 := Below.size hb5; (try simp at q_hb5); have q_hbi := Below.size hbi; (try simp at q_hbi); repeat (first | exact Below.refl _ _ | (refine Below.trans ?_ (Below.mono hb5 (by first | omega | (simp; omega) | simp))) | (refine Below.trans ?_ (Below.mono hbi (by first | omega | (simp; omega) | simp))) | (refine Below.setCell ?_ (by first | omega | (simp; omega) | simp) _) | (refine Below.alloc ?_ (by first | omega | (simp; omega) | simp) _) | apply Below.drew | apply below_drewN)))⟩
        · obtain ⟨ls, hls, hany⟩ := rawsL_cut R k (by omega)
          have HL := Lib.hid hls
          have HA := Lib.hid hany
          have hO' := hO
          rw [hls] at hO'
          have hlen1 : (rawL R 0 256 :: ls).length = k := by rw [← hls, rawsL_len]
          obtain ⟨Ab, cb, rfl, hR, hcb, hcm⟩ := hO.rd k (rawsL_len R k)
          clear hO hls hany hR
          unfold maxLen at hcm
          go_wp2_with fail
          refine (repochs_any p t _ h1 h2).mono ?_
          rintro e w2 ⟨rfl, hb2⟩
          rw [HE.out]
          have hO2 := hO'.below hb2
          have hB2 := hB.on hb2
          have b2 := hbr.trans (hb2.mono hbr.size)
          have hne : ((k - 1 : Nat) : Int) ≠ epochsI p := by rw [HE.out]; omega
          have HNE := Lib.hid hne
          clear hO' hB hbr hb2 cc hne
          go_wp2_with fail
          obtain ⟨g, Ai, ci, cur, rfl, hBg, hcu, hci, hcim, _, _⟩ := hO2.first (by decide) hlen1 255 (by rw [rawL_len]; omega)
          obtain ⟨c1, rfl⟩ : ∃ c1, cb = c1 + 1 := ⟨cb - 1, by omega⟩
          refine wp_flows [(fun y_ _ => y_ = .agg #[.int .i64 p, .int .i64 t]), (fun y_ _ => y_ = .slice (some ⟨g, 0, none⟩) k (c1 + 1)), (fun y_ _ => y_ = .slice (if c1 = 0 then some ⟨g, 0, none⟩ else some ⟨g, 1, none⟩) (k - 1) c1), (fun y_ _ => y_ = .tuple #[.slice none 0 0, .int .i64 1]), (fun y_ _ => y_ = .tuple #[.slice none 0 0, .int .i64 1]), (fun y_ _ => y_ = .slice none 0 0), (fun y_ _ => y_ = .int .i64 1), (fun y_ _ => y_ = .slice none 0 0), (fun y_ _ => y_ = .int .i64 1)] (by kernel_rfl) ⟨Stab.eq _, Stab.eq _, Stab.eq _, Stab.eq _, Stab.eq _, Stab.eq _, Stab.eq _, Stab.eq _, Stab.eq _, trivial⟩ (by kernel_rfl) (by rfl) ?_ ?_
          · intro kq hkq
            match kq, hkq with
            | 0, _ =>
              refine StepOk.plain _ 57 rfl rfl rfl [(3, none)] (by kernel_rfl) (fun af wf hbw hf Kf hKf => ?_)
              obtain ⟨g3, _⟩ := hf
              have h3 : af.tmps[3]?.getD undef = .pointer (some ⟨w.heap.size, 0, none⟩) := g3
              clear g3
              have cB0 := (Blk.on (Blk.drew (hB2)) hbw).cell
              go_simp
              exact hKf _ _ (Below.refl _ _) rfl
            | 1, _ =>
              refine StepOk.plain _ 58 rfl rfl rfl [(7, none)] (by kernel_rfl) (fun af wf hbw hf Kf hKf => ?_)
              obtain ⟨g7, _⟩ := hf
              have h7 : af.tmps[7]?.getD undef = .slice (some ⟨g, 0, none⟩) k (c1 + 1) := g7
              clear g7
              go_simp
              exact hKf _ _ (Below.refl _ _) rfl
            | 2, _ =>
              refine StepOk.plain _ 59 rfl rfl rfl [(58, some 1)] (by kernel_rfl) (fun af wf hbw hf Kf hKf => ?_)
              obtain ⟨g58, _⟩ := hf
              have h58 : af.tmps[58]?.getD undef = .slice (some ⟨g, 0, none⟩) k (c1 + 1) := g58
              clear g58
              have hk1 : (1 : Int) ≤ k := by omega
              go_simp
              exact hKf _ _ (Below.refl _ _) rfl
            | 3, _ =>
              refine StepOk.plain _ 60 rfl rfl rfl [(57, some 0), (59, some 2)] (by kernel_rfl) (fun af wf hbw hf Kf hKf => ?_)
              obtain ⟨g57, g59, _⟩ := hf
              have h57 : af.tmps[57]?.getD undef = .agg #[.int .i64 p, .int .i64 t] := g57
              have h59 : af.tmps[59]?.getD undef = .slice (if c1 = 0 then some ⟨g, 0, none⟩ else some ⟨g, 1, none⟩) (k - 1) c1 := g59
              clear g57 g59
              go_simp
              refine (epochs_few p t _ (k - 1) c1 _ (.inr HNE.out)).mono ?_
              rintro e wN ⟨rfl, hb⟩
              exact hKf _ _ (hb) (rfl)
            | 4, _ =>
              refine StepOk.plain _ 56 rfl rfl rfl [(60, some 3)] (by kernel_rfl) (fun af wf hbw hf Kf hKf => ?_)
              obtain ⟨g60, _⟩ := hf
              have h60 : af.tmps[60]?.getD undef = .tuple #[.slice none 0 0, .int .i64 1] := g60
              clear g60
              go_simp
              exact hKf _ _ (Below.refl _ _) rfl
            | 5, _ =>
              refine StepOk.plain _ 61 rfl rfl rfl [(56, some 4)] (by kernel_rfl) (fun af wf hbw hf Kf hKf => ?_)
              obtain ⟨g56, _⟩ := hf
              have h56 : af.tmps[56]?.getD undef = .tuple #[.slice none 0 0, .int .i64 1] := g56
              clear g56
              go_simp
              exact hKf _ _ (Below.refl _ _) rfl
            | 6, _ =>
              refine StepOk.plain _ 62 rfl rfl rfl [(56, some 4)] (by kernel_rfl) (fun af wf hbw hf Kf hKf => ?_)
              obtain ⟨g56, _⟩ := hf
              have h56 : af.tmps[56]?.getD undef = .tuple #[.slice none 0 0, .int .i64 1] := g56
              clear g56
              go_simp
              exact hKf _ _ (Below.refl _ _) rfl
            | 7, _ =>
              refine StepOk.plain _ 11 rfl rfl rfl [(61, some 5)] (by kernel_rfl) (fun af wf hbw hf Kf hKf => ?_)
              obtain ⟨g61, _⟩ := hf
              have h61 : af.tmps[61]?.getD undef = .slice none 0 0 := g61
              clear g61
              go_simp
              exact hKf _ _ (Below.refl _ _) rfl
            | 8, _ =>
              refine StepOk.plain _ 12 rfl rfl rfl [(62, some 6)] (by kernel_rfl) (fun af wf hbw hf Kf hKf => ?_)
              obtain ⟨g62, _⟩ := hf
              have h62 : af.tmps[62]?.getD undef = .int .i64 1 := g62
              clear g62
              go_simp
              exact hKf _ _ (Below.refl _ _) rfl
            | i + 9, h => exact absurd h (by show ¬ (i + 9 < 9); omega)
          · intro af wF hbF hdF hsF hbaseF hfactF
            obtain ⟨T, dsF⟩ := af
            obtain rfl : dsF = _ := hdF
            have e0 := hbaseF 0 (not_dst (by kernel_rfl))
            simp only [List.getElem?_toArray, List.getElem?_cons_zero, Option.getD_some] at e0
            have e1 := hbaseF 1 (not_dst (by kernel_rfl))
            simp only [List.getElem?_toArray, List.getElem?_cons_zero, List.getElem?_cons_succ, Option.getD_some] at e1
            have e2 := hbaseF 2 (not_dst (by kernel_rfl))
            simp only [List.getElem?_toArray, List.getElem?_cons_zero, List.getElem?_cons_succ, Option.getD_some] at e2
            have e3 := hbaseF 3 (not_dst (by kernel_rfl))
            simp only [List.getElem?_toArray, List.getElem?_cons_zero, List.getElem?_cons_succ, Option.getD_some] at e3
            have e4 := hbaseF 4 (not_dst (by kernel_rfl))
            simp only [List.getElem?_toArray, List.getElem?_cons_zero, List.getElem?_cons_succ, Option.getD_some] at e4
            have e5 := hbaseF 5 (not_dst (by kernel_rfl))
            simp only [List.getElem?_toArray, List.getElem?_cons_zero, List.getElem?_cons_succ, Option.getD_some] at e5
            have e6 := hbaseF 6 (not_dst (by kernel_rfl))
            simp only [List.getElem?_toArray, List.getElem?_cons_zero, List.getElem?_cons_succ, Option.getD_some] at e6
            have e7 := hbaseF 7 (not_dst (by kernel_rfl))
            simp only [List.getElem?_toArray, List.getElem?_cons_zero, List.getElem?_cons_succ, Option.getD_some] at e7
            have e8 := hbaseF 8 (not_dst (by kernel_rfl))
            simp only [List.getElem?_toArray, List.getElem?_cons_zero, List.getElem?_cons_succ, Option.getD_some] at e8
            have e9 := hbaseF 9 (not_dst (by kernel_rfl))
            simp only [List.getElem?_toArray, List.getElem?_cons_zero, List.getElem?_cons_succ, Option.getD_some] at e9
            have e10 := hbaseF 10 (not_dst (by kernel_rfl))
            simp only [List.getElem?_toArray, List.getElem?_cons_zero, List.getElem?_cons_succ, Option.getD_some] at e10
            have e13 := hbaseF 13 (not_dst (by kernel_rfl))
            simp only [List.getElem?_toArray, List.getElem?_cons_zero, List.getElem?_cons_succ, Option.getD_some] at e13
            have e14 := hbaseF 14 (not_dst (by kernel_rfl))
            simp only [List.getElem?_toArray, List.getElem?_cons_zero, List.getElem?_cons_succ, Option.getD_some] at e14
            have e15 := hbaseF 15 (not_dst (by kernel_rfl))
            simp only [List.getElem?_toArray, List.getElem?_cons_zero, List.getElem?_cons_succ, Option.getD_some] at e15
            have e16 := hbaseF 16 (not_dst (by kernel_rfl))
            simp only [List.getElem?_toArray, List.getElem?_cons_zero, List.getElem?_cons_succ, Option.getD_some] at e16
            have e17 := hbaseF 17 (not_dst (by kernel_rfl))
            simp only [List.getElem?_toArray, List.getElem?_cons_zero, List.getElem?_cons_succ, Option.getD_some] at e17
            have e18 := hbaseF 18 (not_dst (by kernel_rfl))
            simp only [List.getElem?_toArray, List.getElem?_cons_zero, List.getElem?_cons_succ, Option.getD_some] at e18
            have e19 := hbaseF 19 (not_dst (by kernel_rfl))
            simp only [List.getElem?_toArray, List.getElem?_cons_zero, List.getElem?_cons_succ, Option.getD_some] at e19
            have e20 := hbaseF 20 (not_dst (by kernel_rfl))
            simp only [List.getElem?_toArray, List.getElem?_cons_zero, List.getElem?_cons_succ, Option.getD_some] at e20
            have e21 := hbaseF 21 (not_dst (by kernel_rfl))
            simp only [List.getElem?_toArray, List.getElem?_cons_zero, List.getElem?_cons_succ, Option.getD_some] at e21
            have e22 := hbaseF 22 (not_dst (by kernel_rfl))
            simp only [List.getElem?_toArray, List.getElem?_cons_zero, List.getElem?_cons_succ, Option.getD_some] at e22
            have e23 := hbaseF 23 (not_dst (by kernel_rfl))
            simp only [List.getElem?_toArray, List.getElem?_cons_zero, List.getElem?_cons_succ, Option.getD_some] at e23
            have e24 := hbaseF 24 (not_dst (by kernel_rfl))
            simp only [List.getElem?_toArray, List.getElem?_cons_zero, List.getElem?_cons_succ, Option.getD_some] at e24
            have e25 := hbaseF 25 (not_dst (by kernel_rfl))
            simp only [List.getElem?_toArray, List.getElem?_cons_zero, List.getElem?_cons_succ, Option.getD_some] at e25
            have e26 := hbaseF 26 (not_dst (by kernel_rfl))
            simp only [List.getElem?_toArray, List.getElem?_cons_zero, List.getElem?_cons_succ, Option.getD_some] at e26
            have e27 := hbaseF 27 (not_dst (by kernel_rfl))
            simp only [List.getElem?_toArray, List.getElem?_cons_zero, List.getElem?_cons_succ, Option.getD_some] at e27
            have e28 := hbaseF 28 (not_dst (by kernel_rfl))
            simp only [List.getElem?_toArray, List.getElem?_cons_zero, List.getElem?_cons_succ, Option.getD_some] at e28
            have e29 := hbaseF 29 (not_dst (by kernel_rfl))
            simp only [List.getElem?_toArray, List.getElem?_cons_zero, List.getElem?_cons_succ, Option.getD_some] at e29
            have e30 := hbaseF 30 (not_dst (by kernel_rfl))
            simp only [List.getElem?_toArray, List.getElem?_cons_zero, List.getElem?_cons_succ, Option.getD_some] at e30
            have e31 := hbaseF 31 (not_dst (by kernel_rfl))
            simp only [List.getElem?_toArray, List.getElem?_cons_zero, List.getElem?_cons_succ, Option.getD_some] at e31
            have e32 := hbaseF 32 (not_dst (by kernel_rfl))
            simp only [List.getElem?_toArray, List.getElem?_cons_zero, List.getElem?_cons_succ, Option.getD_some] at e32
            have e33 := hbaseF 33 (not_dst (by kernel_rfl))
            simp only [List.getElem?_toArray, List.getElem?_cons_zero, List.getElem?_cons_succ, Option.getD_some] at e33
            have e34 := hbaseF 34 (not_dst (by kernel_rfl))
            simp only [List.getElem?_toArray, List.getElem?_cons_zero, List.getElem?_cons_succ, Option.getD_some] at e34
            have e35 := hbaseF 35 (not_dst (by kernel_rfl))
            simp only [List.getElem?_toArray, List.getElem?_cons_zero, List.getElem?_cons_succ, Option.getD_some] at e35
            have e36 := hbaseF 36 (not_dst (by kernel_rfl))
            simp only [List.getElem?_toArray, List.getElem?_cons_zero, List.getElem?_cons_succ, Option.getD_some] at e36
            have e37 := hbaseF 37 (not_dst (by kernel_rfl))
            simp only [List.getElem?_toArray, List.getElem?_cons_zero, List.getElem?_cons_succ, Option.getD_some] at e37
            have e38 := hbaseF 38 (not_dst (by kernel_rfl))
            simp only [List.getElem?_toArray, List.getElem?_cons_zero, List.getElem?_cons_succ, Option.getD_some] at e38
            have e39 := hbaseF 39 (not_dst (by kernel_rfl))
            simp only [List.getElem?_toArray, List.getElem?_cons_zero, List.getElem?_cons_succ, Option.getD_some] at e39
            have e40 := hbaseF 40 (not_dst (by kernel_rfl))
            simp only [List.getElem?_toArray, List.getElem?_cons_zero, List.getElem?_cons_succ, Option.getD_some] at e40
            have e41 := hbaseF 41 (not_dst (by kernel_rfl))
            simp only [List.getElem?_toArray, List.getElem?_cons_zero, List.getElem?_cons_succ, Option.getD_some] at e41
            have e42 := hbaseF 42 (not_dst (by kernel_rfl))
            simp only [List.getElem?_toArray, List.getElem?_cons_zero, List.getElem?_cons_succ, Option.getD_some] at e42
            have e43 := hbaseF 43 (not_dst (by kernel_rfl))
            simp only [List.getElem?_toArray, List.getElem?_cons_zero, List.getElem?_cons_succ, Option.getD_some] at e43
            have e44 := hbaseF 44 (not_dst (by kernel_rfl))
            simp only [List.getElem?_toArray, List.getElem?_cons_zero, List.getElem?_cons_succ, Option.getD_some] at e44
            have e45 := hbaseF 45 (not_dst (by kernel_rfl))
            simp only [List.getElem?_toArray, List.getElem?_cons_zero, List.getElem?_cons_succ, Option.getD_some] at e45
            have e46 := hbaseF 46 (not_dst (by kernel_rfl))
            simp only [List.getElem?_toArray, List.getElem?_cons_zero, List.getElem?_cons_succ, Option.getD_some] at e46
            have e47 := hbaseF 47 (not_dst (by kernel_rfl))
            simp only [List.getElem?_toArray, List.getElem?_cons_zero, List.getElem?_cons_succ, Option.getD_some] at e47
            have e48 := hbaseF 48 (not_dst (by kernel_rfl))
            simp only [List.getElem?_toArray, List.getElem?_cons_zero, List.getElem?_cons_succ, Option.getD_some] at e48
            have e49 := hbaseF 49 (not_dst (by kernel_rfl))
            simp only [List.getElem?_toArray, List.getElem?_cons_zero, List.getElem?_cons_succ, Option.getD_some] at e49
            have e50 := hbaseF 50 (not_dst (by kernel_rfl))
            simp only [List.getElem?_toArray, List.getElem?_cons_zero, List.getElem?_cons_succ, Option.getD_some] at e50
            have e51 := hbaseF 51 (not_dst (by kernel_rfl))
            simp only [List.getElem?_toArray, List.getElem?_cons_zero, List.getElem?_cons_succ, Option.getD_some] at e51
            have e52 := hbaseF 52 (not_dst (by kernel_rfl))
            simp only [List.getElem?_toArray, List.getElem?_cons_zero, List.getElem?_cons_succ, Option.getD_some] at e52
            have e53 := hbaseF 53 (not_dst (by kernel_rfl))
            simp only [List.getElem?_toArray, List.getElem?_cons_zero, List.getElem?_cons_succ, Option.getD_some] at e53
            have e54 := hbaseF 54 (not_dst (by kernel_rfl))
            simp only [List.getElem?_toArray, List.getElem?_cons_zero, List.getElem?_cons_succ, Option.getD_some] at e54
            have e55 := hbaseF 55 (not_dst (by kernel_rfl))
            simp only [List.getElem?_toArray, List.getElem?_cons_zero, List.getElem?_cons_succ, Option.getD_some] at e55
            have e63 := hbaseF 63 (not_dst (by kernel_rfl))
            simp only [List.getElem?_toArray, List.getElem?_cons_zero, List.getElem?_cons_succ, Option.getD_some] at e63
            have e64 := hbaseF 64 (not_dst (by kernel_rfl))
            simp only [List.getElem?_toArray, List.getElem?_cons_zero, List.getElem?_cons_succ, Option.getD_some] at e64
            have e65 := hbaseF 65 (not_dst (by kernel_rfl))
            simp only [List.getElem?_toArray, List.getElem?_cons_zero, List.getElem?_cons_succ, Option.getD_some] at e65
            have e66 := hbaseF 66 (not_dst (by kernel_rfl))
            simp only [List.getElem?_toArray, List.getElem?_cons_zero, List.getElem?_cons_succ, Option.getD_some] at e66
            have e67 := hbaseF 67 (not_dst (by kernel_rfl))
            simp only [List.getElem?_toArray, List.getElem?_cons_zero, List.getElem?_cons_succ, Option.getD_some] at e67
            have e68 := hbaseF 68 (not_dst (by kernel_rfl))
            simp only [List.getElem?_toArray, List.getElem?_cons_zero, List.getElem?_cons_succ, Option.getD_some] at e68
            have e69 := hbaseF 69 (not_dst (by kernel_rfl))
            simp only [List.getElem?_toArray, List.getElem?_cons_zero, List.getElem?_cons_succ, Option.getD_some] at e69
            have e70 := hbaseF 70 (not_dst (by kernel_rfl))
            simp only [List.getElem?_toArray, List.getElem?_cons_zero, List.getElem?_cons_succ, Option.getD_some] at e70
            have e71 := hbaseF 71 (not_dst (by kernel_rfl))
            simp only [List.getElem?_toArray, List.getElem?_cons_zero, List.getElem?_cons_succ, Option.getD_some] at e71
            have e72 := hbaseF 72 (not_dst (by kernel_rfl))
            simp only [List.getElem?_toArray, List.getElem?_cons_zero, List.getElem?_cons_succ, Option.getD_some] at e72
            have e73 := hbaseF 73 (not_dst (by kernel_rfl))
            simp only [List.getElem?_toArray, List.getElem?_cons_zero, List.getElem?_cons_succ, Option.getD_some] at e73
            have e74 := hbaseF 74 (not_dst (by kernel_rfl))
            simp only [List.getElem?_toArray, List.getElem?_cons_zero, List.getElem?_cons_succ, Option.getD_some] at e74
            have e75 := hbaseF 75 (not_dst (by kernel_rfl))
            simp only [List.getElem?_toArray, List.getElem?_cons_zero, List.getElem?_cons_succ, Option.getD_some] at e75
            have e76 := hbaseF 76 (not_dst (by kernel_rfl))
            simp only [List.getElem?_toArray, List.getElem?_cons_zero, List.getElem?_cons_succ, Option.getD_some] at e76
            have e77 := hbaseF 77 (not_dst (by kernel_rfl))
            simp only [List.getElem?_toArray, List.getElem?_cons_zero, List.getElem?_cons_succ, Option.getD_some] at e77
            have e78 := hbaseF 78 (not_dst (by kernel_rfl))
            simp only [List.getElem?_toArray, List.getElem?_cons_zero, List.getElem?_cons_succ, Option.getD_some] at e78
            have e79 := hbaseF 79 (not_dst (by kernel_rfl))
            simp only [List.getElem?_toArray, List.getElem?_cons_zero, List.getElem?_cons_succ, Option.getD_some] at e79
            have e80 := hbaseF 80 (not_dst (by kernel_rfl))
            simp only [List.getElem?_toArray, List.getElem?_cons_zero, List.getElem?_cons_succ, Option.getD_some] at e80
            have e81 := hbaseF 81 (not_dst (by kernel_rfl))
            simp only [List.getElem?_toArray, List.getElem?_cons_zero, List.getElem?_cons_succ, Option.getD_some] at e81
            have e82 := hbaseF 82 (not_dst (by kernel_rfl))
            simp only [List.getElem?_toArray, List.getElem?_cons_zero, List.getElem?_cons_succ, Option.getD_some] at e82
            have e83 := hbaseF 83 (not_dst (by kernel_rfl))
            simp only [List.getElem?_toArray, List.getElem?_cons_zero, List.getElem?_cons_succ, Option.getD_some] at e83
            have e84 := hbaseF 84 (not_dst (by kernel_rfl))
            simp only [List.getElem?_toArray, List.getElem?_cons_zero, List.getElem?_cons_succ, Option.getD_some] at e84
            have e85 := hbaseF 85 (not_dst (by kernel_rfl))
            simp only [List.getElem?_toArray, List.getElem?_cons_zero, List.getElem?_cons_succ, Option.getD_some] at e85
            have e86 := hbaseF 86 (not_dst (by kernel_rfl))
            simp only [List.getElem?_toArray, List.getElem?_cons_zero, List.getElem?_cons_succ, Option.getD_some] at e86
            have e87 := hbaseF 87 (not_dst (by kernel_rfl))
            simp only [List.getElem?_toArray, List.getElem?_cons_zero, List.getElem?_cons_succ, Option.getD_some] at e87
            have e88 := hbaseF 88 (not_dst (by kernel_rfl))
            simp only [List.getElem?_toArray, List.getElem?_cons_zero, List.getElem?_cons_succ, Option.getD_some] at e88
            have e89 := hbaseF 89 (not_dst (by kernel_rfl))
            simp only [List.getElem?_toArray, List.getElem?_cons_zero, List.getElem?_cons_succ, Option.getD_some] at e89
            have e90 := hbaseF 90 (not_dst (by kernel_rfl))
            simp only [List.getElem?_toArray, List.getElem?_cons_zero, List.getElem?_cons_succ, Option.getD_some] at e90
            have e91 := hbaseF 91 (not_dst (by kernel_rfl))
            simp only [List.getElem?_toArray, List.getElem?_cons_zero, List.getElem?_cons_succ, Option.getD_some] at e91
            have e92 := hbaseF 92 (not_dst (by kernel_rfl))
            simp only [List.getElem?_toArray, List.getElem?_cons_zero, List.getElem?_cons_succ, Option.getD_some] at e92
            have e93 := hbaseF 93 (not_dst (by kernel_rfl))
            simp only [List.getElem?_toArray, List.getElem?_cons_zero, List.getElem?_cons_succ, Option.getD_some] at e93
            have e94 := hbaseF 94 (not_dst (by kernel_rfl))
            simp only [List.getElem?_toArray, List.getElem?_cons_zero, List.getElem?_cons_succ, Option.getD_some] at e94
            have e95 := hbaseF 95 (not_dst (by kernel_rfl))
            simp only [List.getElem?_toArray, List.getElem?_cons_zero, List.getElem?_cons_succ, Option.getD_some] at e95
            have e96 := hbaseF 96 (not_dst (by kernel_rfl))
            simp only [List.getElem?_toArray, List.getElem?_cons_zero, List.getElem?_cons_succ, Option.getD_some] at e96
            have e97 := hbaseF 97 (not_dst (by kernel_rfl))
            simp only [List.getElem?_toArray, List.getElem?_cons_zero, List.getElem?_cons_succ, Option.getD_some] at e97
            have e98 := hbaseF 98 (not_dst (by kernel_rfl))
            simp only [List.getElem?_toArray, List.getElem?_cons_zero, List.getElem?_cons_succ, Option.getD_some] at e98
            have e99 := hbaseF 99 (not_dst (by kernel_rfl))
            simp only [List.getElem?_toArray, List.getElem?_cons_zero, List.getElem?_cons_succ, Option.getD_some] at e99
            have e100 := hbaseF 100 (not_dst (by kernel_rfl))
            simp only [List.getElem?_toArray, List.getElem?_cons_zero, List.getElem?_cons_succ, Option.getD_some] at e100
            have e101 := hbaseF 101 (not_dst (by kernel_rfl))
            simp only [List.getElem?_toArray, List.getElem?_cons_zero, List.getElem?_cons_succ, Option.getD_some] at e101
            have e102 := hbaseF 102 (not_dst (by kernel_rfl))
            simp only [List.getElem?_toArray, List.getElem?_cons_zero, List.getElem?_cons_succ, Option.getD_some] at e102
            have e103 := hbaseF 103 (not_dst (by kernel_rfl))
            simp only [List.getElem?_toArray, List.getElem?_cons_zero, List.getElem?_cons_succ, Option.getD_some] at e103
            have e104 := hbaseF 104 (not_dst (by kernel_rfl))
            simp only [List.getElem?_toArray, List.getElem?_cons_zero, List.getElem?_cons_succ, Option.getD_some] at e104
            have e105 := hbaseF 105 (not_dst (by kernel_rfl))
            simp only [List.getElem?_toArray, List.getElem?_cons_zero, List.getElem?_cons_succ, Option.getD_some] at e105
            have e106 := hbaseF 106 (not_dst (by kernel_rfl))
            simp only [List.getElem?_toArray, List.getElem?_cons_zero, List.getElem?_cons_succ, Option.getD_some] at e106
            have e107 := hbaseF 107 (not_dst (by kernel_rfl))
            simp only [List.getElem?_toArray, List.getElem?_cons_zero, List.getElem?_cons_succ, Option.getD_some] at e107
            have e108 := hbaseF 108 (not_dst (by kernel_rfl))
            simp only [List.getElem?_toArray, List.getElem?_cons_zero, List.getElem?_cons_succ, Option.getD_some] at e108
            have e109 := hbaseF 109 (not_dst (by kernel_rfl))
            simp only [List.getElem?_toArray, List.getElem?_cons_zero, List.getElem?_cons_succ, Option.getD_some] at e109
            have e110 := hbaseF 110 (not_dst (by kernel_rfl))
            simp only [List.getElem?_toArray, List.getElem?_cons_zero, List.getElem?_cons_succ, Option.getD_some] at e110
            have e111 := hbaseF 111 (not_dst (by kernel_rfl))
            simp only [List.getElem?_toArray, List.getElem?_cons_zero, List.getElem?_cons_succ, Option.getD_some] at e111
            have e112 := hbaseF 112 (not_dst (by kernel_rfl))
            simp only [List.getElem?_toArray, List.getElem?_cons_zero, List.getElem?_cons_succ, Option.getD_some] at e112
            have e113 := hbaseF 113 (not_dst (by kernel_rfl))
            simp only [List.getElem?_toArray, List.getElem?_cons_zero, List.getElem?_cons_succ, Option.getD_some] at e113
            have e12 := hfactF 8 12 (by decide) rfl
            replace e12 : T[12]?.getD undef = .int .i64 1 := e12
            clear hbaseF hfactF
            have hT : T = #[T[0]?.getD undef, T[1]?.getD undef, T[2]?.getD undef, T[3]?.getD undef, T[4]?.getD undef, T[5]?.getD undef, T[6]?.getD undef, T[7]?.getD undef, T[8]?.getD undef, T[9]?.getD undef, T[10]?.getD undef, T[11]?.getD undef, T[12]?.getD undef, T[13]?.getD undef, T[14]?.getD undef, T[15]?.getD undef, T[16]?.getD undef, T[17]?.getD undef, T[18]?.getD undef, T[19]?.getD undef, T[20]?.getD undef, T[21]?.getD undef, T[22]?.getD undef, T[23]?.getD undef, T[24]?.getD undef, T[25]?.getD undef, T[26]?.getD undef, T[27]?.getD undef, T[28]?.getD undef, T[29]?.getD undef, T[30]?.getD undef, T[31]?.getD undef, T[32]?.getD undef, T[33]?.getD undef, T[34]?.getD undef, T[35]?.getD undef, T[36]?.getD undef, T[37]?.getD undef, T[38]?.getD undef, T[39]?.getD undef, T[40]?.getD undef, T[41]?.getD undef, T[42]?.getD undef, T[43]?.getD undef, T[44]?.getD undef, T[45]?.getD undef, T[46]?.getD undef, T[47]?.getD undef, T[48]?.getD undef, T[49]?.getD undef, T[50]?.getD undef, T[51]?.getD undef, T[52]?.getD undef, T[53]?.getD undef, T[54]?.getD undef, T[55]?.getD undef, T[56]?.getD undef, T[57]?.getD undef, T[58]?.getD undef, T[59]?.getD undef, T[60]?.getD undef, T[61]?.getD undef, T[62]?.getD undef, T[63]?.getD undef, T[64]?.getD undef, T[65]?.getD undef, T[66]?.getD undef, T[67]?.getD undef, T[68]?.getD undef, T[69]?.getD undef, T[70]?.getD undef, T[71]?.getD undef, T[72]?.getD undef, T[73]?.getD undef, T[74]?.getD undef, T[75]?.getD undef, T[76]?.getD undef, T[77]?.getD undef, T[78]?.getD undef, T[79]?.getD undef, T[80]?.getD undef, T[81]?.getD undef, T[82]?.getD undef, T[83]?.getD undef, T[84]?.getD undef, T[85]?.getD undef, T[86]?.getD undef, T[87]?.getD undef, T[88]?.getD undef, T[89]?.getD undef, T[90]?.getD undef, T[91]?.getD undef, T[92]?.getD undef, T[93]?.getD undef, T[94]?.getD undef, T[95]?.getD undef, T[96]?.getD undef, T[97]?.getD undef, T[98]?.getD undef, T[99]?.getD undef, T[100]?.getD undef, T[101]?.getD undef, T[102]?.getD undef, T[103]?.getD undef, T[104]?.getD undef, T[105]?.getD undef, T[106]?.getD undef, T[107]?.getD undef, T[108]?.getD undef, T[109]?.getD undef, T[110]?.getD undef, T[111]?.getD undef, T[112]?.getD undef, T[113]?.getD undef] := arr_eq T 114 hsF
            clear hsF
            rw [e0] at hT; clear e0
            rw [e1] at hT; clear e1
            rw [e2] at hT; clear e2
            rw [e3] at hT; clear e3
            rw [e4] at hT; clear e4
            rw [e5] at hT; clear e5
            rw [e6] at hT; clear e6
            rw [e7] at hT; clear e7
            rw [e8] at hT; clear e8
            rw [e9] at hT; clear e9
            rw [e10] at hT; clear e10
            generalize T[11]?.getD undef = u11 at hT
            rw [e12] at hT; clear e12
            rw [e13] at hT; clear e13
            rw [e14] at hT; clear e14
            rw [e15] at hT; clear e15
            rw [e16] at hT; clear e16
            rw [e17] at hT; clear e17
            rw [e18] at hT; clear e18
            rw [e19] at hT; clear e19
            rw [e20] at hT; clear e20
            rw [e21] at hT; clear e21
            rw [e22] at hT; clear e22
            rw [e23] at hT; clear e23
            rw [e24] at hT; clear e24
            rw [e25] at hT; clear e25
            rw [e26] at hT; clear e26
            rw [e27] at hT; clear e27
            rw [e28] at hT; clear e28
            rw [e29] at hT; clear e29
            rw [e30] at hT; clear e30
            rw [e31] at hT; clear e31
            rw [e32] at hT; clear e32
            rw [e33] at hT; clear e33
            rw [e34] at hT; clear e34
            rw [e35] at hT; clear e35
            rw [e36] at hT; clear e36
            rw [e37] at hT; clear e37
            rw [e38] at hT; clear e38
            rw [e39] at hT; clear e39
            rw [e40] at hT; clear e40
            rw [e41] at hT; clear e41
            rw [e42] at hT; clear e42
            rw [e43] at hT; clear e43
            rw [e44] at hT; clear e44
            rw [e45] at hT; clear e45
            rw [e46] at hT; clear e46
            rw [e47] at hT; clear e47
            rw [e48] at hT; clear e48
            rw [e49] at hT; clear e49
            rw [e50] at hT; clear e50
            rw [e51] at hT; clear e51
            rw [e52] at hT; clear e52
            rw [e53] at hT; clear e53
            rw [e54] at hT; clear e54
            rw [e55] at hT; clear e55
            generalize T[56]?.getD undef = u56 at hT
            generalize T[57]?.getD undef = u57 at hT
            generalize T[58]?.getD undef = u58 at hT
            generalize T[59]?.getD undef = u59 at hT
            generalize T[60]?.getD undef = u60 at hT
            generalize T[61]?.getD undef = u61 at hT
            generalize T[62]?.getD undef = u62 at hT
            rw [e63] at hT; clear e63
            rw [e64] at hT; clear e64
            rw [e65] at hT; clear e65
            rw [e66] at hT; clear e66
            rw [e67] at hT; clear e67
            rw [e68] at hT; clear e68
            rw [e69] at hT; clear e69
            rw [e70] at hT; clear e70
            rw [e71] at hT; clear e71
            rw [e72] at hT; clear e72
            rw [e73] at hT; clear e73
            rw [e74] at hT; clear e74
            rw [e75] at hT; clear e75
            rw [e76] at hT; clear e76
            rw [e77] at hT; clear e77
            rw [e78] at hT; clear e78
            rw [e79] at hT; clear e79
            rw [e80] at hT; clear e80
            rw [e81] at hT; clear e81
            rw [e82] at hT; clear e82
            rw [e83] at hT; clear e83
            rw [e84] at hT; clear e84
            rw [e85] at hT; clear e85
            rw [e86] at hT; clear e86
            rw [e87] at hT; clear e87
            rw [e88] at hT; clear e88
            rw [e89] at hT; clear e89
            rw [e90] at hT; clear e90
            rw [e91] at hT; clear e91
            rw [e92] at hT; clear e92
            rw [e93] at hT; clear e93
            rw [e94] at hT; clear e94
            rw [e95] at hT; clear e95
            rw [e96] at hT; clear e96
            rw [e97] at hT; clear e97
            rw [e98] at hT; clear e98
            rw [e99] at hT; clear e99
            rw [e100] at hT; clear e100
            rw [e101] at hT; clear e101
            rw [e102] at hT; clear e102
            rw [e103] at hT; clear e103
            rw [e104] at hT; clear e104
            rw [e105] at hT; clear e105
            rw [e106] at hT; clear e106
            rw [e107] at hT; clear e107
            rw [e108] at hT; clear e108
            rw [e109] at hT; clear e109
            rw [e110] at hT; clear e110
            rw [e111] at hT; clear e111
            rw [e112] at hT; clear e112
            rw [e113] at hT; clear e113
            subst hT
            have hO3 := hO2.below hbF
            have hB3 := hB2.on hbF
            have b3 := b2.trans (hbF.mono b2.size)
            clear hO2 hB2 b2 hbF hBg hcu hci hcim
            obtain ⟨g', Aj, cj, cur2, hA', hBg, hcu, hcj, hcjm, hO4, hgw⟩ := hO3.first (by decide) hlen1 255 (by rw [rawL_len]; omega)
            injection hA' with hA'
            injection hA' with hA'
            subst hA'
            unfold maxLen at hcjm
            rw [rawL_len] at hcu hcj
            have cg := (hBg.cell 0).trans hcu
            have fg := hBg.frozen 0
            have hB4 := hB3.far (p := ⟨g, 0, none⟩) (by simp; omega) (.slice Aj 255 cj)
            have c4 := hB4.cell
            have b4 : Below w.heap.size w (wF.setCell ⟨g, 0, none⟩ (.slice Aj 255 cj)) := b3.trans ((Kept.setCell (p := ⟨g, 0, none⟩) (.refl [g] wF) (by simp) (.slice Aj 255 cj)).below b3.size (by simp; omega))
            obtain ⟨Ab, cb, hv, hR4, _, _⟩ := hO4.rd k (by rw [← hlen1]; simp)
            injection hv with hv1 _ hv3
            subst hv1
            clear hv3 hO3 hO4 hBg hcu hB3 b3
            go_wp2_with fail
            refine (epochs_short p t _ k _ _ _ hR4 hm HE.out.symm HA.out).mono ?_
            rintro e w5 ⟨rfl, hb5⟩
            go_wp2_with fail
            refine (sawake_any _).mono ?_
            rintro e w6 ⟨rfl, hb6⟩
            go_wp2_with fail
            go_ret
            exact ⟨rfl, (by (have q_hb6 := Below.size hb6; (try simp at q_hb6); have q_hb5 := Below.size hb5; (try simp at q_hb5); have q_b4 := Below.size b4; (try simp at q_b4); repeat (first | exact Below.refl _ _ | (refine Below.trans ?_ (Below.mono hb6 (by first | omega | (simp; omega) | simp))) | (refine Below.trans ?_ (Below.mono hb5 (by first | omega | (simp; omega) | simp))) | (refine Below.trans ?_ (Below.mono b4 (by first | omega | (simp; omega) | simp))) | (refine Below.setCell ?_ (by first | omega | (simp; omega) | simp) _) | (refine Below.alloc ?_ (by first | omega | (simp; omega) | simp) _) | apply Below.drew | apply below_drewN)))⟩
end Go.Proofs.Ythepgnankelmeaa
