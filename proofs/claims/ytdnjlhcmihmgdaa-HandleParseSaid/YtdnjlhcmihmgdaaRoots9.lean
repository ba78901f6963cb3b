/- The walk of the statement HandleParse. -/
import Derived.Test.YtdnjlhcmihmgdaaRoots8
import Derived.Test.YtdnjlhcmihmgdaaFresh
import Derived.Test.YtdnjlhcmihmgdaaInts
namespace Go.Proofs.Ytdnjlhcmihmgdaa
open Go.RowKit

theorem and255 (n : Int) : bits .and .i64 n 255 = n % 256 := by
  have h127 : (BitVec.ofInt 64 255).toNat = 2 ^ 8 - 1 := by decide
  have key : (BitVec.ofInt 64 n &&& BitVec.ofInt 64 255).toNat = (n % ((2 ^ 64 : Nat) : Int)).toNat % 2 ^ 8 := by
    rw [BitVec.toNat_and, BitVec.toNat_ofInt, h127, Nat.and_two_pow_sub_one_eq_mod]
  show IntKind.i64.wrap ((BitVec.ofInt 64 n &&& BitVec.ofInt 64 255).toNat : Nat) = n % 256
  rw [key, IntKind.wrap_i64]
  omega
theorem parE_or (b : List UInt8) : parE b = 0 ∨ parE b = 4 := by
  unfold parE
  split
  · exact .inl rfl
  · split
    · exact .inl rfl
    · exact .inr rfl
theorem Fresh.cellAt' {T : TypeId} {B : Nat} {w : World} {l : List UInt8} {g n c j : Nat} (h : Fresh T B w (.slice (some ⟨g, 0, none⟩) n c) l) (hn : l.length = n) (hj : j < n) : ∃ z, w.cell? ⟨g, j, none⟩ = some (.int .u8 z) := by
  obtain ⟨A, c', e, hR, _⟩ := h.rdn n hn
  injection e with e1
  subst e1
  obtain ⟨b, off, x, e2, _, _, hc⟩ := hR.at_ hj
  injection e2 with e2
  injection e2 with e3 e4
  subst e3 e4
  exact ⟨_, by simpa using hc⟩

set_option maxRecDepth 100000 in
set_option maxHeartbeats 2000000 in
theorem law_parse (n : Int) (f : Nat → Int) (A2 A3 : Option Addr) (n2 n3 d2 d3 : Nat) (ks : List Int) (vs : List UInt8) (cut : Int) (w : World) (n0 : 0 ≤ n) (n1 : n ≤ 18446744073709551615) (hf : ∀ i, i < 16 → 0 ≤ f i ∧ f i ≤ 18446744073709551615) (h2 : RdG i64E w A2 n2 ks) (h3 : Rd w A3 n3 vs) (y2 : n2 ≤ d2) (z2 : d2 ≤ maxLen) :
    Calls Try.prog 14 #[.agg (hd n f), .slice A2 n2 d2, .slice A3 n3 d3, .int .i64 cut] w fun e w' => e = .returned (.bool true) ∧ Below w.heap.size w w' := by
  unfold maxLen at z2
  have H1 : Blk ((w.alloc (.cells (hd n f) 66)).alloc (.cells #[] 5)) w.heap.size 66 (hd n f) := (Blk.new w _ _).alloc _
  have hl1 : Blk ((w.alloc (.cells (hd n f) 66)).alloc (.cells #[] 5)) (w.heap.size + 1) 5 #[] := by simpa using Blk.new (w.alloc (.cells (hd n f) 66)) 5 #[]
  have hb0 : Below w.heap.size w ((w.alloc (.cells (hd n f) 66)).alloc (.cells #[] 5)) := (by (repeat (first | exact Below.refl _ _ | (refine Below.setCell ?_ (by first | omega | (simp; omega) | simp) _) | (refine Below.alloc ?_ (by first | omega | (simp; omega) | simp) _) | apply Below.drew | apply below_drewN)))
  go_enter Try.func14, Try.ntmps14
  go_wp2_with (refine wpList_load_blk rfl 66 (.tmp 17) rfl w.heap.size 0 66 (hd n f) (hd n f) _ rfl H1 (hd_self n f) Try.underlying66 rfl (by kernel_rfl) ?_)
  refine (rbytesR_any n f _ n0 n1 hf).mono ?_
  rintro e w1 ⟨v1, rfl, hF1, hb1⟩
  obtain ⟨A1, c1, rfl, hR1, _, hn1, hm1⟩ := hF1.rdn 256 (encR_len n f)
  have b1 : Below w.heap.size w w1 := (by (have q_hb1 := Below.size hb1; (try simp at q_hb1); have q_hb0 := Below.size hb0; (try simp at q_hb0); repeat (first | exact Below.refl _ _ | (refine Below.trans ?_ (Below.mono hb1 (by first | omega | (simp; omega) | simp))) | (refine Below.trans ?_ (Below.mono hb0 (by first | omega | (simp; omega) | simp))) | (refine Below.setCell ?_ (by first | omega | (simp; omega) | simp) _) | (refine Below.alloc ?_ (by first | omega | (simp; omega) | simp) _) | apply Below.drew | apply below_drewN)))
  have hlit : Fresh 5 w.heap.size w1 (.slice (some ⟨w.heap.size + 1, 0, none⟩) 0 0) [] := Fresh.of_blk (hl1.on hb1) (by omega) (by unfold maxLen; omega) rfl rfl
  have hz1 := b1.size
  have hel := encR_len n f
  obtain ⟨L0, hL0⟩ : ∃ L0, L0 = encR n f := ⟨_, rfl⟩
  rw [← hL0] at hR1 hel
  clear hF1 H1 hl1 hb0 hb1 hL0
  go_wp2_with (at_builtin; refine wpList_append_bytes _ rfl (.tmp 16) (.tmp 18) _ rfl w.heap.size 5 Try.underlying39 info8 (.slice (some ⟨w.heap.size + 1, 0, none⟩) 0 0) [] rfl hlit A1 256 c1 L0 rfl hR1 (by simp) hz1 ?_; intro v2 wq hF2 hg2 hb2; rw [List.nil_append] at hF2; obtain ⟨A5, c5, rfl, _, _, hn5, hm5⟩ := hF2.rdn 256 hel)
  have b2 : Below w.heap.size w wq := b1.trans hb2
  clear b1 hb2 hg2 hlit hR1
  go_loopw [22] (fun i wr => ∃ (k : Nat) (L : List UInt8), k ≤ n2 ∧ i = .int .i64 k ∧ L.length = 256 ∧ Fresh 5 w.heap.size wr (.slice A5 256 c5) L ∧ Below w.heap.size w wr) (fun i _ => n2 - (intOf i).toNat)
  case atStart => exact ⟨0, L0, by omega, rfl, hel, hF2, b2⟩
  case round =>
    clear hF2 b2
    obtain ⟨k, L2, hk2, rfl, hl2, hF, be1⟩ := hrel
    have hbz1 := be1.size
    by_cases hlt2 : k < n2
    · obtain ⟨bq, off2, x, rfl, hb2, hx, cx⟩ := (h2.below be1).i64 hlt2
      have q1 : (k : Int) < n2 := by omega
      clear hx
      by_cases t1 : k < 6
      · have p1 : (k : Int) < 6 := by omega
        by_cases t2 : k < n3
        · have p2 : (k : Int) < n3 := by omega
          obtain ⟨j, hj⟩ : ∃ j : Nat, x % 256 = j := ⟨(x % 256).toNat, by omega⟩
          have hj2 : j < 256 := by omega
          have h255 : bits .and .i64 x 255 = (j : Int) := by rw [and255, hj]
          obtain ⟨g, cur, rfl, hg, hB, _, _, _⟩ := hF.open_ hl2 (by omega)
          obtain ⟨b3, off3, z, rfl, hb3, hz, cz⟩ := (h3.below be1).at_ t2
          obtain ⟨z0, cR⟩ := hF.cellAt' hl2 hj2
          have fR := hB.frozen
          have hF9 := hF.set_ hl2 rfl hB j z hj2
          clear hz hj
          go_wp2_with fail
          go_roundw
          case rel => exact ⟨k + 1, L2.set j z, by omega, by go_num, by simpa using hl2, hF9, (by (have q_be1 := Below.size be1; (try simp at q_be1); repeat (first | exact Below.refl _ _ | (refine Below.trans ?_ (Below.mono be1 (by first | omega | (simp; omega) | simp))) | (refine Below.setCell ?_ (by first | omega | (simp; omega) | simp) _) | (refine Below.alloc ?_ (by first | omega | (simp; omega) | simp) _) | apply Below.drew | apply below_drewN)))⟩
          case measure => simp [intOf] <;> omega
        · have p2 : ¬ (k : Int) < n3 := by omega
          go_wp2_with fail
          go_roundw
          case rel => exact ⟨k + 1, L2, by omega, by go_num, hl2, hF, be1⟩
          case measure => simp [intOf] <;> omega
      · have p1 : ¬ (k : Int) < 6 := by omega
        go_wp2_with fail
        go_roundw
        case rel => exact ⟨k + 1, L2, by omega, by go_num, hl2, hF, be1⟩
        case measure => simp [intOf] <;> omega
    · obtain rfl : k = n2 := by omega
      clear h2 h3
      go_upto_region 8 with fail
      go_cut [49] (fun s wx => s = .bool (decide (0 < cut ∧ cut < 256)) ∧ wr = wx)
      case first =>
        by_cases t1 : 0 < cut
        · by_cases t2 : cut < 256
          · go_wp2_with fail
            go_meet
            exact ⟨by rw [decide_eq_true (by omega)], rfl⟩
          · go_wp2_with fail
            go_meet
            exact ⟨by rw [decide_eq_false (by omega)], rfl⟩
        · go_wp2_with fail
          go_meet
          exact ⟨by rw [decide_eq_false (by omega)], rfl⟩
      case rest =>
        obtain ⟨rfl, rfl⟩ := hcut
        go_upto_if 49 with fail
        go_cut [9] (fun s wx => ∃ (Ax : Option Addr) (nx cx : Nat) (Lx : List UInt8), s = .slice Ax nx cx ∧ Rd wx Ax nx Lx ∧ nx ≤ 256 ∧ nx ≤ cx ∧ cx ≤ maxLen ∧ wr = wx)
        case first =>
          by_cases t : 0 < cut ∧ cut < 256
          · obtain ⟨j, rfl⟩ : ∃ j : Nat, cut = j := ⟨cut.toNat, by omega⟩
            rw [decide_eq_true t]
            have hj : j < 256 := by omega
            have q1 : 0 ≤ (256 : Int) - j ∧ (256 : Int) - j ≤ c5 := by omega
            have q2 : ((256 : Int) - j).toNat = 256 - j := by omega
            have hFc := hF.cut_ hl2 (256 - j) (by omega)
            obtain ⟨Ac, cc, ec, hRc, _, hnc, hmc⟩ := hFc.rdn (256 - j) (by simp; omega)
            injection ec with e1 e2 e3
            subst e1 e3
            go_wp2_with fail
            go_meet
            exact ⟨_, 256 - j, c5, _, rfl, hRc, by omega, by omega, hmc, rfl⟩
          · rw [decide_eq_false t]
            obtain ⟨Ac, cc, ec, hRc, _, hnc, hmc⟩ := hF.rdn 256 hl2
            injection ec with e1 e2 e3
            subst e1 e3
            go_wp2_with fail
            go_meet
            exact ⟨_, 256, c5, _, rfl, hRc, by omega, hnc, hmc, rfl⟩
        case rest =>
          obtain ⟨Ax, nx, cx, Lx, rfl, hRx, hnx, hncx, hmcx, rfl⟩ := hcut
          clear hF
          obtain ⟨N, hN⟩ : ∃ N, N = parN Lx := ⟨_, rfl⟩
          obtain ⟨F, hFF⟩ : ∃ F, F = parF Lx := ⟨_, rfl⟩
          obtain ⟨E, hE⟩ : ∃ E, E = parE Lx := ⟨_, rfl⟩
          have hE4 := parE_or Lx
          rw [← hE] at hE4
          have HN := Lib.hid hN
          have HFF := Lib.hid hFF
          have HE := Lib.hid hE
          clear hN hFF hE
          go_wp2_with fail
          refine (sparseR_any Ax nx cx Lx _ hRx (by omega)).mono ?_
          rintro e w4 ⟨rfl, hb4⟩
          rw [← HN.out, ← HFF.out, ← HE.out]
          have hn4 := Blk.new w4 70 (hz 0)
          have hR4 := hRx.below hb4
          have b4 : Below w.heap.size w w4 := (by (have q_hb4 := Below.size hb4; (try simp at q_hb4); have q_be1 := Below.size be1; (try simp at q_be1); repeat (first | exact Below.refl _ _ | (refine Below.trans ?_ (Below.mono hb4 (by first | omega | (simp; omega) | simp))) | (refine Below.trans ?_ (Below.mono be1 (by first | omega | (simp; omega) | simp))) | (refine Below.setCell ?_ (by first | omega | (simp; omega) | simp) _) | (refine Below.alloc ?_ (by first | omega | (simp; omega) | simp) _) | apply Below.drew | apply below_drewN)))
          have hz4 := b4.size
          clear hRx hb4 be1
          go_wp2_with (refine wpList_store_blk rfl 70 (.tmp 12) (.tmp 57) rfl w4.heap.size 70 (hz 0) (hd N F) rfl rfl hn4 rfl (by kernel_rfl) (hd_one N F) ?_; intro W4 hB4 hK4)
          have b44 : Below w4.heap.size w4 W4 := ((Below.refl _ w4).alloc (Nat.le_refl _) (.cells (hz 0) 70)).trans (hK4.below (by simp) (by simp))
          have hR4' := hR4.below b44
          have b5 : Below w.heap.size w W4 := (by (have q_b44 := Below.size b44; (try simp at q_b44); have q_b4 := Below.size b4; (try simp at q_b4); repeat (first | exact Below.refl _ _ | (refine Below.trans ?_ (Below.mono b44 (by first | omega | (simp; omega) | simp))) | (refine Below.trans ?_ (Below.mono b4 (by first | omega | (simp; omega) | simp))) | (refine Below.setCell ?_ (by first | omega | (simp; omega) | simp) _) | (refine Below.alloc ?_ (by first | omega | (simp; omega) | simp) _) | apply Below.drew | apply below_drewN)))
          clear hn4 hK4 b44 hR4 b4
          refine (rparseR_any Ax nx cx Lx _ hR4' hncx hmcx).mono ?_
          rintro e w5 ⟨rfl, hb5⟩
          rw [← HN.out, ← HFF.out, ← HE.out]
          have H4' := hB4.on hb5
          have b6' : Below w.heap.size w w5 := (by (have q_hb5 := Below.size hb5; (try simp at q_hb5); have q_b5 := Below.size b5; (try simp at q_b5); repeat (first | exact Below.refl _ _ | (refine Below.trans ?_ (Below.mono hb5 (by first | omega | (simp; omega) | simp))) | (refine Below.trans ?_ (Below.mono b5 (by first | omega | (simp; omega) | simp))) | (refine Below.setCell ?_ (by first | omega | (simp; omega) | simp) _) | (refine Below.alloc ?_ (by first | omega | (simp; omega) | simp) _) | apply Below.drew | apply below_drewN)))
          have hn5 := Blk.new w5 66 (hz 0)
          have hg5 := H4'.lt
          clear hR4' b5 hb5 hB4
          rcases hE4 with rfl | rfl
          · rw [decide_eq_true (rfl : (0 : Int) = 0)]
            go_wp2_with (refine wpList_store_blk rfl 66 (.tmp 14) (.tmp 62) rfl w5.heap.size 66 (hz 0) (hd N F) rfl rfl hn5 rfl (by kernel_rfl) (hd_one N F) ?_; intro W5 H5 hK5)
            have b55 : Below w5.heap.size w5 W5 := ((Below.refl _ w5).alloc (Nat.le_refl _) (.cells (hz 0) 66)).trans (hK5.below (by simp) (by simp))
            have H4 := H4'.on b55
            have b6 : Below w.heap.size w W5 := (by (have q_b55 := Below.size b55; (try simp at q_b55); have q_b6' := Below.size b6'; (try simp at q_b6'); repeat (first | exact Below.refl _ _ | (refine Below.trans ?_ (Below.mono b55 (by first | omega | (simp; omega) | simp))) | (refine Below.trans ?_ (Below.mono b6' (by first | omega | (simp; omega) | simp))) | (refine Below.setCell ?_ (by first | omega | (simp; omega) | simp) _) | (refine Below.alloc ?_ (by first | omega | (simp; omega) | simp) _) | apply Below.drew | apply below_drewN)))
            clear hn5 hK5 b55 H4' b6'
            refine wp_flows [(fun y_ _ => y_ = .int .i64 0), (fun y_ _ => y_ = .bool true), (fun y_ _ => y_ = .bool true), (fun y_ _ => y_ = .bool true), (fun y_ _ => y_ = .bool true), (fun y_ _ => y_ = .bool true), (fun y_ _ => y_ = .bool true), (fun y_ _ => y_ = undef), (fun y_ _ => y_ = undef), (fun y_ _ => y_ = .bool true), (fun y_ _ => y_ = .bool true), (fun y_ _ => y_ = .bool true), (fun y_ _ => y_ = .agg (hd N F)), (fun y_ _ => y_ = .agg (hd N F)), (fun y_ _ => y_ = .agg (hd N F)), (fun y_ _ => y_ = .bool true), (fun y_ _ => y_ = .bool true), (fun y_ _ => y_ = .bool true), (fun y_ _ => y_ = .bool true), (fun y_ _ => y_ = .bool true), (fun y_ _ => y_ = .bool true)] (by kernel_rfl) ⟨Stab.eq _, Stab.eq _, Stab.eq _, Stab.eq _, Stab.eq _, Stab.eq _, Stab.eq _, Stab.eq _, Stab.eq _, Stab.eq _, Stab.eq _, Stab.eq _, Stab.eq _, Stab.eq _, Stab.eq _, Stab.eq _, Stab.eq _, Stab.eq _, Stab.eq _, Stab.eq _, Stab.eq _, trivial⟩ (by kernel_rfl) (by rfl) ?_ ?_
            · intro kq hkq
              match kq, hkq with
              | 0, _ =>
                refine StepOk.plain _ 64 rfl rfl rfl [(13, none)] (by kernel_rfl) (fun af wf hbw hf Kf hKf => ?_)
                obtain ⟨g13, _⟩ := hf
                have h13 : af.tmps[13]?.getD undef = .int .i64 0 := g13
                clear g13
                go_simp
                exact hKf _ _ (Below.refl _ _) rfl
              | 1, _ =>
                refine StepOk.plain _ 65 rfl rfl rfl [(64, some 0)] (by kernel_rfl) (fun af wf hbw hf Kf hKf => ?_)
                obtain ⟨g64, _⟩ := hf
                have h64 : af.tmps[64]?.getD undef = .int .i64 0 := g64
                clear g64
                go_simp
                exact hKf _ _ (Below.refl _ _) rfl
              | 2, _ =>
                refine StepOk.plain _ 66 rfl rfl rfl [(15, none)] (by kernel_rfl) (fun af wf hbw hf Kf hKf => ?_)
                obtain ⟨g15, _⟩ := hf
                have h15 : af.tmps[15]?.getD undef = .bool true := g15
                clear g15
                go_simp
                exact hKf _ _ (Below.refl _ _) rfl
              | 3, _ =>
                refine StepOk.plain _ 67 rfl rfl rfl [(65, some 1), (66, some 2)] (by kernel_rfl) (fun af wf hbw hf Kf hKf => ?_)
                obtain ⟨g65, g66, _⟩ := hf
                have h65 : af.tmps[65]?.getD undef = .bool true := g65
                have h66 : af.tmps[66]?.getD undef = .bool true := g66
                clear g65 g66
                go_simp
                exact hKf _ _ (Below.refl _ _) rfl
              | 4, _ =>
                refine StepOk.plain _ 68 rfl rfl rfl [(67, some 3)] (by kernel_rfl) (fun af wf hbw hf Kf hKf => ?_)
                obtain ⟨g67, _⟩ := hf
                have h67 : af.tmps[67]?.getD undef = .bool true := g67
                clear g67
                go_simp
                exact hKf _ _ (Below.refl _ _) rfl
              | 5, _ =>
                refine StepOk.yes _ 69 rfl rfl rfl rfl (fun _ _ h => h) [(15, none)] (by kernel_rfl) (fun af wf hbw hf Kf hKf => ?_)
                obtain ⟨g15, _⟩ := hf
                have h15 : af.tmps[15]?.getD undef = .bool true := g15
                clear g15
                go_simp
                exact hKf _ _ (Below.refl _ _) rfl
              | 6, _ =>
                refine StepOk.yes _ 70 rfl rfl rfl rfl (fun _ _ h => h) [(69, some 5)] (by kernel_rfl) (fun af wf hbw hf Kf hKf => ?_)
                obtain ⟨g69, _⟩ := hf
                have h69 : af.tmps[69]?.getD undef = .bool true := g69
                clear g69
                go_simp
                exact hKf _ _ (Below.refl _ _) rfl
              | 7, _ => exact StepOk.no _ 71 rfl rfl rfl rfl (fun _ _ h => h) (by decide) (by kernel_rfl) (fun _ => rfl)
              | 8, _ => exact StepOk.no _ 72 rfl rfl rfl rfl (fun _ _ h => h) (by decide) (by kernel_rfl) (fun _ => rfl)
              | 9, _ =>
                refine StepOk.yes _ 73 rfl rfl rfl rfl (fun _ _ h => h) [(70, some 6), (72, some 8)] (by kernel_rfl) (fun af wf hbw hf Kf hKf => ?_)
                obtain ⟨g70, g72, _⟩ := hf
                have h70 : af.tmps[70]?.getD undef = .bool true := g70
                have h72 : af.tmps[72]?.getD undef = undef := g72
                clear g70 g72
                go_simp
                exact hKf _ _ (Below.refl _ _) rfl
              | 10, _ =>
                refine StepOk.plain _ 74 rfl rfl rfl [(68, some 4), (73, some 9)] (by kernel_rfl) (fun af wf hbw hf Kf hKf => ?_)
                obtain ⟨g68, g73, _⟩ := hf
                have h68 : af.tmps[68]?.getD undef = .bool true := g68
                have h73 : af.tmps[73]?.getD undef = .bool true := g73
                clear g68 g73
                go_simp
                exact hKf _ _ (Below.refl _ _) rfl
              | 11, _ =>
                refine StepOk.plain _ 75 rfl rfl rfl [(74, some 10)] (by kernel_rfl) (fun af wf hbw hf Kf hKf => ?_)
                obtain ⟨g74, _⟩ := hf
                have h74 : af.tmps[74]?.getD undef = .bool true := g74
                clear g74
                go_simp
                exact hKf _ _ (Below.refl _ _) rfl
              | 12, _ =>
                refine StepOk.yes _ 76 rfl rfl rfl rfl (fun _ _ h => h) [(12, none)] (by kernel_rfl) (fun af wf hbw hf Kf hKf => ?_)
                obtain ⟨g12, _⟩ := hf
                have h12 : af.tmps[12]?.getD undef = .pointer (some ⟨w4.heap.size, 0, none⟩) := g12
                clear g12
                refine wp_load_blk 70 (.tmp 12) rfl w4.heap.size 0 70 (hd N F) (hd N F) _ (by simp [Act.eval, h12]) (Blk.on (Blk.drew H4) hbw) (hd_self N F) Try.underlying70 rfl (by kernel_rfl) ?_
                exact hKf _ _ ((Below.refl _ _)) (rfl)
              | 13, _ =>
                refine StepOk.yes _ 77 rfl rfl rfl rfl (fun _ _ h => h) [(76, some 12)] (by kernel_rfl) (fun af wf hbw hf Kf hKf => ?_)
                obtain ⟨g76, _⟩ := hf
                have h76 : af.tmps[76]?.getD undef = .agg (hd N F) := g76
                clear g76
                go_simp
                refine (plainR_any N F _).mono ?_
                rintro e wN ⟨rfl, hb⟩
                exact hKf _ _ (hb) (rfl)
              | 14, _ =>
                refine StepOk.yes _ 78 rfl rfl rfl rfl (fun _ _ h => h) [(14, none)] (by kernel_rfl) (fun af wf hbw hf Kf hKf => ?_)
                obtain ⟨g14, _⟩ := hf
                have h14 : af.tmps[14]?.getD undef = .pointer (some ⟨w5.heap.size, 0, none⟩) := g14
                clear g14
                refine wp_load_blk 66 (.tmp 14) rfl w5.heap.size 0 66 (hd N F) (hd N F) _ (by simp [Act.eval, h14]) (Blk.on (Blk.drew H5) hbw) (hd_self N F) Try.underlying66 rfl (by kernel_rfl) ?_
                exact hKf _ _ ((Below.refl _ _)) (rfl)
              | 15, _ =>
                refine StepOk.yes _ 79 rfl rfl rfl rfl (fun _ _ h => h) [(77, some 13), (78, some 14)] (by kernel_rfl) (fun af wf hbw hf Kf hKf => ?_)
                obtain ⟨g77, g78, _⟩ := hf
                have h77 : af.tmps[77]?.getD undef = .agg (hd N F) := g77
                have h78 : af.tmps[78]?.getD undef = .agg (hd N F) := g78
                clear g77 g78
                have heq1 := eq_same N F
                go_simp
                exact hKf _ _ (Below.refl _ _) rfl
              | 16, _ =>
                refine StepOk.plain _ 80 rfl rfl rfl [(75, some 11), (79, some 15)] (by kernel_rfl) (fun af wf hbw hf Kf hKf => ?_)
                obtain ⟨g75, g79, _⟩ := hf
                have h75 : af.tmps[75]?.getD undef = .bool true := g75
                have h79 : af.tmps[79]?.getD undef = .bool true := g79
                clear g75 g79
                go_simp
                exact hKf _ _ (Below.refl _ _) rfl
              | 17, _ =>
                refine StepOk.plain _ 81 rfl rfl rfl [(80, some 16)] (by kernel_rfl) (fun af wf hbw hf Kf hKf => ?_)
                obtain ⟨g80, _⟩ := hf
                have h80 : af.tmps[80]?.getD undef = .bool true := g80
                clear g80
                go_simp
                exact hKf _ _ (Below.refl _ _) rfl
              | 18, _ =>
                refine StepOk.yes _ 82 rfl rfl rfl rfl (fun _ _ h => h) [] (by kernel_rfl) (fun af wf hbw hf Kf hKf => ?_)
                go_simp
                refine (hawake_any _).mono ?_
                rintro e wN ⟨rfl, hb⟩
                exact hKf _ _ (hb) (rfl)
              | 19, _ =>
                refine StepOk.plain _ 83 rfl rfl rfl [(81, some 17), (82, some 18)] (by kernel_rfl) (fun af wf hbw hf Kf hKf => ?_)
                obtain ⟨g81, g82, _⟩ := hf
                have h81 : af.tmps[81]?.getD undef = .bool true := g81
                have h82 : af.tmps[82]?.getD undef = .bool true := g82
                clear g81 g82
                go_simp
                exact hKf _ _ (Below.refl _ _) rfl
              | 20, _ =>
                refine StepOk.plain _ 8 rfl rfl rfl [(83, some 19)] (by kernel_rfl) (fun af wf hbw hf Kf hKf => ?_)
                obtain ⟨g83, _⟩ := hf
                have h83 : af.tmps[83]?.getD undef = .bool true := g83
                clear g83
                go_simp
                exact hKf _ _ (Below.refl _ _) rfl
              | i + 21, h => exact absurd h (by show ¬ (i + 21 < 21); omega)
            · intro af wF hbF hdF hsF hbaseF hfactF
              obtain ⟨T, dsF⟩ := af
              obtain rfl : dsF = _ := hdF
              have e0 := hbaseF 0 (not_dst (by kernel_rfl))
              simp only [List.getElem?_toArray, List.getElem?_cons_zero, Option.getD_some] at e0
              have e1 := hbaseF 1 (not_dst (by kernel_rfl))
              simp only [List.getElem?_toArray, List.getElem?_cons_zero, List.getElem?_cons_succ, Option.getD_some] at e1
              have e2 := hbaseF 2 (not_dst (by kernel_rfl))
              simp only [List.getElem?_toArray, List.getElem?_cons_zero, List.getElem?_cons_succ, Option.getD_some] at e2
              have e3 := hbaseF 3 (not_dst (by kernel_rfl))
              simp only [List.getElem?_toArray, List.getElem?_cons_zero, List.getElem?_cons_succ, Option.getD_some] at e3
              have e4 := hbaseF 4 (not_dst (by kernel_rfl))
              simp only [List.getElem?_toArray, List.getElem?_cons_zero, List.getElem?_cons_succ, Option.getD_some] at e4
              have e5 := hbaseF 5 (not_dst (by kernel_rfl))
              simp only [List.getElem?_toArray, List.getElem?_cons_zero, List.getElem?_cons_succ, Option.getD_some] at e5
              have e6 := hbaseF 6 (not_dst (by kernel_rfl))
              simp only [List.getElem?_toArray, List.getElem?_cons_zero, List.getElem?_cons_succ, Option.getD_some] at e6
              have e7 := hbaseF 7 (not_dst (by kernel_rfl))
              simp only [List.getElem?_toArray, List.getElem?_cons_zero, List.getElem?_cons_succ, Option.getD_some] at e7
              have e9 := hbaseF 9 (not_dst (by kernel_rfl))
              simp only [List.getElem?_toArray, List.getElem?_cons_zero, List.getElem?_cons_succ, Option.getD_some] at e9
              have e10 := hbaseF 10 (not_dst (by kernel_rfl))
              simp only [List.getElem?_toArray, List.getElem?_cons_zero, List.getElem?_cons_succ, Option.getD_some] at e10
              have e11 := hbaseF 11 (not_dst (by kernel_rfl))
              simp only [List.getElem?_toArray, List.getElem?_cons_zero, List.getElem?_cons_succ, Option.getD_some] at e11
              have e12 := hbaseF 12 (not_dst (by kernel_rfl))
              simp only [List.getElem?_toArray, List.getElem?_cons_zero, List.getElem?_cons_succ, Option.getD_some] at e12
              have e13 := hbaseF 13 (not_dst (by kernel_rfl))
              simp only [List.getElem?_toArray, List.getElem?_cons_zero, List.getElem?_cons_succ, Option.getD_some] at e13
              have e14 := hbaseF 14 (not_dst (by kernel_rfl))
              simp only [List.getElem?_toArray, List.getElem?_cons_zero, List.getElem?_cons_succ, Option.getD_some] at e14
              have e15 := hbaseF 15 (not_dst (by kernel_rfl))
              simp only [List.getElem?_toArray, List.getElem?_cons_zero, List.getElem?_cons_succ, Option.getD_some] at e15
              have e16 := hbaseF 16 (not_dst (by kernel_rfl))
              simp only [List.getElem?_toArray, List.getElem?_cons_zero, List.getElem?_cons_succ, Option.getD_some] at e16
              have e17 := hbaseF 17 (not_dst (by kernel_rfl))
              simp only [List.getElem?_toArray, List.getElem?_cons_zero, List.getElem?_cons_succ, Option.getD_some] at e17
              have e18 := hbaseF 18 (not_dst (by kernel_rfl))
              simp only [List.getElem?_toArray, List.getElem?_cons_zero, List.getElem?_cons_succ, Option.getD_some] at e18
              have e19 := hbaseF 19 (not_dst (by kernel_rfl))
              simp only [List.getElem?_toArray, List.getElem?_cons_zero, List.getElem?_cons_succ, Option.getD_some] at e19
              have e20 := hbaseF 20 (not_dst (by kernel_rfl))
              simp only [List.getElem?_toArray, List.getElem?_cons_zero, List.getElem?_cons_succ, Option.getD_some] at e20
              have e21 := hbaseF 21 (not_dst (by kernel_rfl))
              simp only [List.getElem?_toArray, List.getElem?_cons_zero, List.getElem?_cons_succ, Option.getD_some] at e21
              have e22 := hbaseF 22 (not_dst (by kernel_rfl))
              simp only [List.getElem?_toArray, List.getElem?_cons_zero, List.getElem?_cons_succ, Option.getD_some] at e22
              have e23 := hbaseF 23 (not_dst (by kernel_rfl))
              simp only [List.getElem?_toArray, List.getElem?_cons_zero, List.getElem?_cons_succ, Option.getD_some] at e23
              have e24 := hbaseF 24 (not_dst (by kernel_rfl))
              simp only [List.getElem?_toArray, List.getElem?_cons_zero, List.getElem?_cons_succ, Option.getD_some] at e24
              have e25 := hbaseF 25 (not_dst (by kernel_rfl))
              simp only [List.getElem?_toArray, List.getElem?_cons_zero, List.getElem?_cons_succ, Option.getD_some] at e25
              have e26 := hbaseF 26 (not_dst (by kernel_rfl))
              simp only [List.getElem?_toArray, List.getElem?_cons_zero, List.getElem?_cons_succ, Option.getD_some] at e26
              have e27 := hbaseF 27 (not_dst (by kernel_rfl))
              simp only [List.getElem?_toArray, List.getElem?_cons_zero, List.getElem?_cons_succ, Option.getD_some] at e27
              have e28 := hbaseF 28 (not_dst (by kernel_rfl))
              simp only [List.getElem?_toArray, List.getElem?_cons_zero, List.getElem?_cons_succ, Option.getD_some] at e28
              have e29 := hbaseF 29 (not_dst (by kernel_rfl))
              simp only [List.getElem?_toArray, List.getElem?_cons_zero, List.getElem?_cons_succ, Option.getD_some] at e29
              have e30 := hbaseF 30 (not_dst (by kernel_rfl))
              simp only [List.getElem?_toArray, List.getElem?_cons_zero, List.getElem?_cons_succ, Option.getD_some] at e30
              have e31 := hbaseF 31 (not_dst (by kernel_rfl))
              simp only [List.getElem?_toArray, List.getElem?_cons_zero, List.getElem?_cons_succ, Option.getD_some] at e31
              have e32 := hbaseF 32 (not_dst (by kernel_rfl))
              simp only [List.getElem?_toArray, List.getElem?_cons_zero, List.getElem?_cons_succ, Option.getD_some] at e32
              have e33 := hbaseF 33 (not_dst (by kernel_rfl))
              simp only [List.getElem?_toArray, List.getElem?_cons_zero, List.getElem?_cons_succ, Option.getD_some] at e33
              have e34 := hbaseF 34 (not_dst (by kernel_rfl))
              simp only [List.getElem?_toArray, List.getElem?_cons_zero, List.getElem?_cons_succ, Option.getD_some] at e34
              have e35 := hbaseF 35 (not_dst (by kernel_rfl))
              simp only [List.getElem?_toArray, List.getElem?_cons_zero, List.getElem?_cons_succ, Option.getD_some] at e35
              have e36 := hbaseF 36 (not_dst (by kernel_rfl))
              simp only [List.getElem?_toArray, List.getElem?_cons_zero, List.getElem?_cons_succ, Option.getD_some] at e36
              have e37 := hbaseF 37 (not_dst (by kernel_rfl))
              simp only [List.getElem?_toArray, List.getElem?_cons_zero, List.getElem?_cons_succ, Option.getD_some] at e37
              have e38 := hbaseF 38 (not_dst (by kernel_rfl))
              simp only [List.getElem?_toArray, List.getElem?_cons_zero, List.getElem?_cons_succ, Option.getD_some] at e38
              have e39 := hbaseF 39 (not_dst (by kernel_rfl))
              simp only [List.getElem?_toArray, List.getElem?_cons_zero, List.getElem?_cons_succ, Option.getD_some] at e39
              have e40 := hbaseF 40 (not_dst (by kernel_rfl))
              simp only [List.getElem?_toArray, List.getElem?_cons_zero, List.getElem?_cons_succ, Option.getD_some] at e40
              have e41 := hbaseF 41 (not_dst (by kernel_rfl))
              simp only [List.getElem?_toArray, List.getElem?_cons_zero, List.getElem?_cons_succ, Option.getD_some] at e41
              have e42 := hbaseF 42 (not_dst (by kernel_rfl))
              simp only [List.getElem?_toArray, List.getElem?_cons_zero, List.getElem?_cons_succ, Option.getD_some] at e42
              have e43 := hbaseF 43 (not_dst (by kernel_rfl))
              simp only [List.getElem?_toArray, List.getElem?_cons_zero, List.getElem?_cons_succ, Option.getD_some] at e43
              have e44 := hbaseF 44 (not_dst (by kernel_rfl))
              simp only [List.getElem?_toArray, List.getElem?_cons_zero, List.getElem?_cons_succ, Option.getD_some] at e44
              have e45 := hbaseF 45 (not_dst (by kernel_rfl))
              simp only [List.getElem?_toArray, List.getElem?_cons_zero, List.getElem?_cons_succ, Option.getD_some] at e45
              have e46 := hbaseF 46 (not_dst (by kernel_rfl))
              simp only [List.getElem?_toArray, List.getElem?_cons_zero, List.getElem?_cons_succ, Option.getD_some] at e46
              have e47 := hbaseF 47 (not_dst (by kernel_rfl))
              simp only [List.getElem?_toArray, List.getElem?_cons_zero, List.getElem?_cons_succ, Option.getD_some] at e47
              have e48 := hbaseF 48 (not_dst (by kernel_rfl))
              simp only [List.getElem?_toArray, List.getElem?_cons_zero, List.getElem?_cons_succ, Option.getD_some] at e48
              have e49 := hbaseF 49 (not_dst (by kernel_rfl))
              simp only [List.getElem?_toArray, List.getElem?_cons_zero, List.getElem?_cons_succ, Option.getD_some] at e49
              have e50 := hbaseF 50 (not_dst (by kernel_rfl))
              simp only [List.getElem?_toArray, List.getElem?_cons_zero, List.getElem?_cons_succ, Option.getD_some] at e50
              have e51 := hbaseF 51 (not_dst (by kernel_rfl))
              simp only [List.getElem?_toArray, List.getElem?_cons_zero, List.getElem?_cons_succ, Option.getD_some] at e51
              have e52 := hbaseF 52 (not_dst (by kernel_rfl))
              simp only [List.getElem?_toArray, List.getElem?_cons_zero, List.getElem?_cons_succ, Option.getD_some] at e52
              have e53 := hbaseF 53 (not_dst (by kernel_rfl))
              simp only [List.getElem?_toArray, List.getElem?_cons_zero, List.getElem?_cons_succ, Option.getD_some] at e53
              have e54 := hbaseF 54 (not_dst (by kernel_rfl))
              simp only [List.getElem?_toArray, List.getElem?_cons_zero, List.getElem?_cons_succ, Option.getD_some] at e54
              have e55 := hbaseF 55 (not_dst (by kernel_rfl))
              simp only [List.getElem?_toArray, List.getElem?_cons_zero, List.getElem?_cons_succ, Option.getD_some] at e55
              have e56 := hbaseF 56 (not_dst (by kernel_rfl))
              simp only [List.getElem?_toArray, List.getElem?_cons_zero, List.getElem?_cons_succ, Option.getD_some] at e56
              have e57 := hbaseF 57 (not_dst (by kernel_rfl))
              simp only [List.getElem?_toArray, List.getElem?_cons_zero, List.getElem?_cons_succ, Option.getD_some] at e57
              have e58 := hbaseF 58 (not_dst (by kernel_rfl))
              simp only [List.getElem?_toArray, List.getElem?_cons_zero, List.getElem?_cons_succ, Option.getD_some] at e58
              have e59 := hbaseF 59 (not_dst (by kernel_rfl))
              simp only [List.getElem?_toArray, List.getElem?_cons_zero, List.getElem?_cons_succ, Option.getD_some] at e59
              have e60 := hbaseF 60 (not_dst (by kernel_rfl))
              simp only [List.getElem?_toArray, List.getElem?_cons_zero, List.getElem?_cons_succ, Option.getD_some] at e60
              have e61 := hbaseF 61 (not_dst (by kernel_rfl))
              simp only [List.getElem?_toArray, List.getElem?_cons_zero, List.getElem?_cons_succ, Option.getD_some] at e61
              have e62 := hbaseF 62 (not_dst (by kernel_rfl))
              simp only [List.getElem?_toArray, List.getElem?_cons_zero, List.getElem?_cons_succ, Option.getD_some] at e62
              have e63 := hbaseF 63 (not_dst (by kernel_rfl))
              simp only [List.getElem?_toArray, List.getElem?_cons_zero, List.getElem?_cons_succ, Option.getD_some] at e63
              have e8 := hfactF 20 8 (by decide) rfl
              replace e8 : T[8]?.getD undef = .bool true := e8
              clear hbaseF hfactF
              have hT : T = #[T[0]?.getD undef, T[1]?.getD undef, T[2]?.getD undef, T[3]?.getD undef, T[4]?.getD undef, T[5]?.getD undef, T[6]?.getD undef, T[7]?.getD undef, T[8]?.getD undef, T[9]?.getD undef, T[10]?.getD undef, T[11]?.getD undef, T[12]?.getD undef, T[13]?.getD undef, T[14]?.getD undef, T[15]?.getD undef, T[16]?.getD undef, T[17]?.getD undef, T[18]?.getD undef, T[19]?.getD undef, T[20]?.getD undef, T[21]?.getD undef, T[22]?.getD undef, T[23]?.getD undef, T[24]?.getD undef, T[25]?.getD undef, T[26]?.getD undef, T[27]?.getD undef, T[28]?.getD undef, T[29]?.getD undef, T[30]?.getD undef, T[31]?.getD undef, T[32]?.getD undef, T[33]?.getD undef, T[34]?.getD undef, T[35]?.getD undef, T[36]?.getD undef, T[37]?.getD undef, T[38]?.getD undef, T[39]?.getD undef, T[40]?.getD undef, T[41]?.getD undef, T[42]?.getD undef, T[43]?.getD undef, T[44]?.getD undef, T[45]?.getD undef, T[46]?.getD undef, T[47]?.getD undef, T[48]?.getD undef, T[49]?.getD undef, T[50]?.getD undef, T[51]?.getD undef, T[52]?.getD undef, T[53]?.getD undef, T[54]?.getD undef, T[55]?.getD undef, T[56]?.getD undef, T[57]?.getD undef, T[58]?.getD undef, T[59]?.getD undef, T[60]?.getD undef, T[61]?.getD undef, T[62]?.getD undef, T[63]?.getD undef, T[64]?.getD undef, T[65]?.getD undef, T[66]?.getD undef, T[67]?.getD undef, T[68]?.getD undef, T[69]?.getD undef, T[70]?.getD undef, T[71]?.getD undef, T[72]?.getD undef, T[73]?.getD undef, T[74]?.getD undef, T[75]?.getD undef, T[76]?.getD undef, T[77]?.getD undef, T[78]?.getD undef, T[79]?.getD undef, T[80]?.getD undef, T[81]?.getD undef, T[82]?.getD undef, T[83]?.getD undef] := arr_eq T 84 hsF
              clear hsF
              rw [e0] at hT; clear e0
              rw [e1] at hT; clear e1
              rw [e2] at hT; clear e2
              rw [e3] at hT; clear e3
              rw [e4] at hT; clear e4
              rw [e5] at hT; clear e5
              rw [e6] at hT; clear e6
              rw [e7] at hT; clear e7
              rw [e8] at hT; clear e8
              rw [e9] at hT; clear e9
              rw [e10] at hT; clear e10
              rw [e11] at hT; clear e11
              rw [e12] at hT; clear e12
              rw [e13] at hT; clear e13
              rw [e14] at hT; clear e14
              rw [e15] at hT; clear e15
              rw [e16] at hT; clear e16
              rw [e17] at hT; clear e17
              rw [e18] at hT; clear e18
              rw [e19] at hT; clear e19
              rw [e20] at hT; clear e20
              rw [e21] at hT; clear e21
              rw [e22] at hT; clear e22
              rw [e23] at hT; clear e23
              rw [e24] at hT; clear e24
              rw [e25] at hT; clear e25
              rw [e26] at hT; clear e26
              rw [e27] at hT; clear e27
              rw [e28] at hT; clear e28
              rw [e29] at hT; clear e29
              rw [e30] at hT; clear e30
              rw [e31] at hT; clear e31
              rw [e32] at hT; clear e32
              rw [e33] at hT; clear e33
              rw [e34] at hT; clear e34
              rw [e35] at hT; clear e35
              rw [e36] at hT; clear e36
              rw [e37] at hT; clear e37
              rw [e38] at hT; clear e38
              rw [e39] at hT; clear e39
              rw [e40] at hT; clear e40
              rw [e41] at hT; clear e41
              rw [e42] at hT; clear e42
              rw [e43] at hT; clear e43
              rw [e44] at hT; clear e44
              rw [e45] at hT; clear e45
              rw [e46] at hT; clear e46
              rw [e47] at hT; clear e47
              rw [e48] at hT; clear e48
              rw [e49] at hT; clear e49
              rw [e50] at hT; clear e50
              rw [e51] at hT; clear e51
              rw [e52] at hT; clear e52
              rw [e53] at hT; clear e53
              rw [e54] at hT; clear e54
              rw [e55] at hT; clear e55
              rw [e56] at hT; clear e56
              rw [e57] at hT; clear e57
              rw [e58] at hT; clear e58
              rw [e59] at hT; clear e59
              rw [e60] at hT; clear e60
              rw [e61] at hT; clear e61
              rw [e62] at hT; clear e62
              rw [e63] at hT; clear e63
              generalize T[64]?.getD undef = u64 at hT
              generalize T[65]?.getD undef = u65 at hT
              generalize T[66]?.getD undef = u66 at hT
              generalize T[67]?.getD undef = u67 at hT
              generalize T[68]?.getD undef = u68 at hT
              generalize T[69]?.getD undef = u69 at hT
              generalize T[70]?.getD undef = u70 at hT
              generalize T[71]?.getD undef = u71 at hT
              generalize T[72]?.getD undef = u72 at hT
              generalize T[73]?.getD undef = u73 at hT
              generalize T[74]?.getD undef = u74 at hT
              generalize T[75]?.getD undef = u75 at hT
              generalize T[76]?.getD undef = u76 at hT
              generalize T[77]?.getD undef = u77 at hT
              generalize T[78]?.getD undef = u78 at hT
              generalize T[79]?.getD undef = u79 at hT
              generalize T[80]?.getD undef = u80 at hT
              generalize T[81]?.getD undef = u81 at hT
              generalize T[82]?.getD undef = u82 at hT
              generalize T[83]?.getD undef = u83 at hT
              subst hT
              go_wp2_with fail
              go_ret
              exact ⟨rfl, (by (have q_hbF := Below.size hbF; (try simp at q_hbF); have q_b6 := Below.size b6; (try simp at q_b6); repeat (first | exact Below.refl _ _ | (refine Below.trans ?_ (Below.mono hbF (by first | omega | (simp; omega) | simp))) | (refine Below.trans ?_ (Below.mono b6 (by first | omega | (simp; omega) | simp))) | (refine Below.setCell ?_ (by first | omega | (simp; omega) | simp) _) | (refine Below.alloc ?_ (by first | omega | (simp; omega) | simp) _) | apply Below.drew | apply below_drewN)))⟩
          · rw [decide_eq_false (by omega : ¬ (4 : Int) = 0)]
            go_wp2_with (refine wpList_store_blk rfl 66 (.tmp 14) (.tmp 62) rfl w5.heap.size 66 (hz 0) (hd N F) rfl rfl hn5 rfl (by kernel_rfl) (hd_one N F) ?_; intro W5 H5 hK5)
            have b55 : Below w5.heap.size w5 W5 := ((Below.refl _ w5).alloc (Nat.le_refl _) (.cells (hz 0) 66)).trans (hK5.below (by simp) (by simp))
            have H4 := H4'.on b55
            have b6 : Below w.heap.size w W5 := (by (have q_b55 := Below.size b55; (try simp at q_b55); have q_b6' := Below.size b6'; (try simp at q_b6'); repeat (first | exact Below.refl _ _ | (refine Below.trans ?_ (Below.mono b55 (by first | omega | (simp; omega) | simp))) | (refine Below.trans ?_ (Below.mono b6' (by first | omega | (simp; omega) | simp))) | (refine Below.setCell ?_ (by first | omega | (simp; omega) | simp) _) | (refine Below.alloc ?_ (by first | omega | (simp; omega) | simp) _) | apply Below.drew | apply below_drewN)))
            clear hn5 hK5 b55 H4' b6'
            refine wp_flows [(fun y_ _ => y_ = .int .i64 4), (fun y_ _ => y_ = .bool false), (fun y_ _ => y_ = .bool false), (fun y_ _ => y_ = .bool true), (fun y_ _ => y_ = .bool true), (fun y_ _ => y_ = .bool false), (fun y_ _ => y_ = .bool false), (fun y_ _ => y_ = .int .i64 4), (fun y_ _ => y_ = .bool true), (fun y_ _ => y_ = .bool true), (fun y_ _ => y_ = .bool true), (fun y_ _ => y_ = .bool true), (fun y_ _ => y_ = .agg (hd N F)), (fun y_ _ => y_ = .agg (hd N F)), (fun y_ _ => y_ = .agg (hd N F)), (fun y_ _ => y_ = .bool true), (fun y_ _ => y_ = .bool true), (fun y_ _ => y_ = .bool true), (fun y_ _ => y_ = .bool true), (fun y_ _ => y_ = .bool true), (fun y_ _ => y_ = .bool true)] (by kernel_rfl) ⟨Stab.eq _, Stab.eq _, Stab.eq _, Stab.eq _, Stab.eq _, Stab.eq _, Stab.eq _, Stab.eq _, Stab.eq _, Stab.eq _, Stab.eq _, Stab.eq _, Stab.eq _, Stab.eq _, Stab.eq _, Stab.eq _, Stab.eq _, Stab.eq _, Stab.eq _, Stab.eq _, Stab.eq _, trivial⟩ (by kernel_rfl) (by rfl) ?_ ?_
            · intro kq hkq
              match kq, hkq with
              | 0, _ =>
                refine StepOk.plain _ 64 rfl rfl rfl [(13, none)] (by kernel_rfl) (fun af wf hbw hf Kf hKf => ?_)
                obtain ⟨g13, _⟩ := hf
                have h13 : af.tmps[13]?.getD undef = .int .i64 4 := g13
                clear g13
                go_simp
                exact hKf _ _ (Below.refl _ _) rfl
              | 1, _ =>
                refine StepOk.plain _ 65 rfl rfl rfl [(64, some 0)] (by kernel_rfl) (fun af wf hbw hf Kf hKf => ?_)
                obtain ⟨g64, _⟩ := hf
                have h64 : af.tmps[64]?.getD undef = .int .i64 4 := g64
                clear g64
                go_simp
                exact hKf _ _ (Below.refl _ _) rfl
              | 2, _ =>
                refine StepOk.plain _ 66 rfl rfl rfl [(15, none)] (by kernel_rfl) (fun af wf hbw hf Kf hKf => ?_)
                obtain ⟨g15, _⟩ := hf
                have h15 : af.tmps[15]?.getD undef = .bool false := g15
                clear g15
                go_simp
                exact hKf _ _ (Below.refl _ _) rfl
              | 3, _ =>
                refine StepOk.plain _ 67 rfl rfl rfl [(65, some 1), (66, some 2)] (by kernel_rfl) (fun af wf hbw hf Kf hKf => ?_)
                obtain ⟨g65, g66, _⟩ := hf
                have h65 : af.tmps[65]?.getD undef = .bool false := g65
                have h66 : af.tmps[66]?.getD undef = .bool false := g66
                clear g65 g66
                go_simp
                exact hKf _ _ (Below.refl _ _) rfl
              | 4, _ =>
                refine StepOk.plain _ 68 rfl rfl rfl [(67, some 3)] (by kernel_rfl) (fun af wf hbw hf Kf hKf => ?_)
                obtain ⟨g67, _⟩ := hf
                have h67 : af.tmps[67]?.getD undef = .bool true := g67
                clear g67
                go_simp
                exact hKf _ _ (Below.refl _ _) rfl
              | 5, _ =>
                refine StepOk.yes _ 69 rfl rfl rfl rfl (fun _ _ h => h) [(15, none)] (by kernel_rfl) (fun af wf hbw hf Kf hKf => ?_)
                obtain ⟨g15, _⟩ := hf
                have h15 : af.tmps[15]?.getD undef = .bool false := g15
                clear g15
                go_simp
                exact hKf _ _ (Below.refl _ _) rfl
              | 6, _ =>
                refine StepOk.yes _ 70 rfl rfl rfl rfl (fun _ _ h => h) [(69, some 5)] (by kernel_rfl) (fun af wf hbw hf Kf hKf => ?_)
                obtain ⟨g69, _⟩ := hf
                have h69 : af.tmps[69]?.getD undef = .bool false := g69
                clear g69
                go_simp
                exact hKf _ _ (Below.refl _ _) rfl
              | 7, _ =>
                refine StepOk.yes _ 71 rfl rfl rfl rfl (fun _ _ h => h) [(13, none)] (by kernel_rfl) (fun af wf hbw hf Kf hKf => ?_)
                obtain ⟨g13, _⟩ := hf
                have h13 : af.tmps[13]?.getD undef = .int .i64 4 := g13
                clear g13
                go_simp
                exact hKf _ _ (Below.refl _ _) rfl
              | 8, _ =>
                refine StepOk.yes _ 72 rfl rfl rfl rfl (fun _ _ h => h) [(71, some 7)] (by kernel_rfl) (fun af wf hbw hf Kf hKf => ?_)
                obtain ⟨g71, _⟩ := hf
                have h71 : af.tmps[71]?.getD undef = .int .i64 4 := g71
                clear g71
                go_simp
                exact hKf _ _ (Below.refl _ _) rfl
              | 9, _ =>
                refine StepOk.yes _ 73 rfl rfl rfl rfl (fun _ _ h => h) [(70, some 6), (72, some 8)] (by kernel_rfl) (fun af wf hbw hf Kf hKf => ?_)
                obtain ⟨g70, g72, _⟩ := hf
                have h70 : af.tmps[70]?.getD undef = .bool false := g70
                have h72 : af.tmps[72]?.getD undef = .bool true := g72
                clear g70 g72
                go_simp
                exact hKf _ _ (Below.refl _ _) rfl
              | 10, _ =>
                refine StepOk.plain _ 74 rfl rfl rfl [(68, some 4), (73, some 9)] (by kernel_rfl) (fun af wf hbw hf Kf hKf => ?_)
                obtain ⟨g68, g73, _⟩ := hf
                have h68 : af.tmps[68]?.getD undef = .bool true := g68
                have h73 : af.tmps[73]?.getD undef = .bool true := g73
                clear g68 g73
                go_simp
                exact hKf _ _ (Below.refl _ _) rfl
              | 11, _ =>
                refine StepOk.plain _ 75 rfl rfl rfl [(74, some 10)] (by kernel_rfl) (fun af wf hbw hf Kf hKf => ?_)
                obtain ⟨g74, _⟩ := hf
                have h74 : af.tmps[74]?.getD undef = .bool true := g74
                clear g74
                go_simp
                exact hKf _ _ (Below.refl _ _) rfl
              | 12, _ =>
                refine StepOk.yes _ 76 rfl rfl rfl rfl (fun _ _ h => h) [(12, none)] (by kernel_rfl) (fun af wf hbw hf Kf hKf => ?_)
                obtain ⟨g12, _⟩ := hf
                have h12 : af.tmps[12]?.getD undef = .pointer (some ⟨w4.heap.size, 0, none⟩) := g12
                clear g12
                refine wp_load_blk 70 (.tmp 12) rfl w4.heap.size 0 70 (hd N F) (hd N F) _ (by simp [Act.eval, h12]) (Blk.on (Blk.drew H4) hbw) (hd_self N F) Try.underlying70 rfl (by kernel_rfl) ?_
                exact hKf _ _ ((Below.refl _ _)) (rfl)
              | 13, _ =>
                refine StepOk.yes _ 77 rfl rfl rfl rfl (fun _ _ h => h) [(76, some 12)] (by kernel_rfl) (fun af wf hbw hf Kf hKf => ?_)
                obtain ⟨g76, _⟩ := hf
                have h76 : af.tmps[76]?.getD undef = .agg (hd N F) := g76
                clear g76
                go_simp
                refine (plainR_any N F _).mono ?_
                rintro e wN ⟨rfl, hb⟩
                exact hKf _ _ (hb) (rfl)
              | 14, _ =>
                refine StepOk.yes _ 78 rfl rfl rfl rfl (fun _ _ h => h) [(14, none)] (by kernel_rfl) (fun af wf hbw hf Kf hKf => ?_)
                obtain ⟨g14, _⟩ := hf
                have h14 : af.tmps[14]?.getD undef = .pointer (some ⟨w5.heap.size, 0, none⟩) := g14
                clear g14
                refine wp_load_blk 66 (.tmp 14) rfl w5.heap.size 0 66 (hd N F) (hd N F) _ (by simp [Act.eval, h14]) (Blk.on (Blk.drew H5) hbw) (hd_self N F) Try.underlying66 rfl (by kernel_rfl) ?_
                exact hKf _ _ ((Below.refl _ _)) (rfl)
              | 15, _ =>
                refine StepOk.yes _ 79 rfl rfl rfl rfl (fun _ _ h => h) [(77, some 13), (78, some 14)] (by kernel_rfl) (fun af wf hbw hf Kf hKf => ?_)
                obtain ⟨g77, g78, _⟩ := hf
                have h77 : af.tmps[77]?.getD undef = .agg (hd N F) := g77
                have h78 : af.tmps[78]?.getD undef = .agg (hd N F) := g78
                clear g77 g78
                have heq1 := eq_same N F
                go_simp
                exact hKf _ _ (Below.refl _ _) rfl
              | 16, _ =>
                refine StepOk.plain _ 80 rfl rfl rfl [(75, some 11), (79, some 15)] (by kernel_rfl) (fun af wf hbw hf Kf hKf => ?_)
                obtain ⟨g75, g79, _⟩ := hf
                have h75 : af.tmps[75]?.getD undef = .bool true := g75
                have h79 : af.tmps[79]?.getD undef = .bool true := g79
                clear g75 g79
                go_simp
                exact hKf _ _ (Below.refl _ _) rfl
              | 17, _ =>
                refine StepOk.plain _ 81 rfl rfl rfl [(80, some 16)] (by kernel_rfl) (fun af wf hbw hf Kf hKf => ?_)
                obtain ⟨g80, _⟩ := hf
                have h80 : af.tmps[80]?.getD undef = .bool true := g80
                clear g80
                go_simp
                exact hKf _ _ (Below.refl _ _) rfl
              | 18, _ =>
                refine StepOk.yes _ 82 rfl rfl rfl rfl (fun _ _ h => h) [] (by kernel_rfl) (fun af wf hbw hf Kf hKf => ?_)
                go_simp
                refine (hawake_any _).mono ?_
                rintro e wN ⟨rfl, hb⟩
                exact hKf _ _ (hb) (rfl)
              | 19, _ =>
                refine StepOk.plain _ 83 rfl rfl rfl [(81, some 17), (82, some 18)] (by kernel_rfl) (fun af wf hbw hf Kf hKf => ?_)
                obtain ⟨g81, g82, _⟩ := hf
                have h81 : af.tmps[81]?.getD undef = .bool true := g81
                have h82 : af.tmps[82]?.getD undef = .bool true := g82
                clear g81 g82
                go_simp
                exact hKf _ _ (Below.refl _ _) rfl
              | 20, _ =>
                refine StepOk.plain _ 8 rfl rfl rfl [(83, some 19)] (by kernel_rfl) (fun af wf hbw hf Kf hKf => ?_)
                obtain ⟨g83, _⟩ := hf
                have h83 : af.tmps[83]?.getD undef = .bool true := g83
                clear g83
                go_simp
                exact hKf _ _ (Below.refl _ _) rfl
              | i + 21, h => exact absurd h (by show ¬ (i + 21 < 21); omega)
            · intro af wF hbF hdF hsF hbaseF hfactF
              obtain ⟨T, dsF⟩ := af
              obtain rfl : dsF = _ := hdF
              have e0 := hbaseF 0 (not_dst (by kernel_rfl))
              simp only [List.getElem?_toArray, List.getElem?_cons_zero, Option.getD_some] at e0
              have e1 := hbaseF 1 (not_dst (by kernel_rfl))
              simp only [List.getElem?_toArray, List.getElem?_cons_zero, List.getElem?_cons_succ, Option.getD_some] at e1
              have e2 := hbaseF 2 (not_dst (by kernel_rfl))
              simp only [List.getElem?_toArray, List.getElem?_cons_zero, List.getElem?_cons_succ, Option.getD_some] at e2
              have e3 := hbaseF 3 (not_dst (by kernel_rfl))
              simp only [List.getElem?_toArray, List.getElem?_cons_zero, List.getElem?_cons_succ, Option.getD_some] at e3
              have e4 := hbaseF 4 (not_dst (by kernel_rfl))
              simp only [List.getElem?_toArray, List.getElem?_cons_zero, List.getElem?_cons_succ, Option.getD_some] at e4
              have e5 := hbaseF 5 (not_dst (by kernel_rfl))
              simp only [List.getElem?_toArray, List.getElem?_cons_zero, List.getElem?_cons_succ, Option.getD_some] at e5
              have e6 := hbaseF 6 (not_dst (by kernel_rfl))
              simp only [List.getElem?_toArray, List.getElem?_cons_zero, List.getElem?_cons_succ, Option.getD_some] at e6
              have e7 := hbaseF 7 (not_dst (by kernel_rfl))
              simp only [List.getElem?_toArray, List.getElem?_cons_zero, List.getElem?_cons_succ, Option.getD_some] at e7
              have e9 := hbaseF 9 (not_dst (by kernel_rfl))
              simp only [List.getElem?_toArray, List.getElem?_cons_zero, List.getElem?_cons_succ, Option.getD_some] at e9
              have e10 := hbaseF 10 (not_dst (by kernel_rfl))
              simp only [List.getElem?_toArray, List.getElem?_cons_zero, List.getElem?_cons_succ, Option.getD_some] at e10
              have e11 := hbaseF 11 (not_dst (by kernel_rfl))
              simp only [List.getElem?_toArray, List.getElem?_cons_zero, List.getElem?_cons_succ, Option.getD_some] at e11
              have e12 := hbaseF 12 (not_dst (by kernel_rfl))
              simp only [List.getElem?_toArray, List.getElem?_cons_zero, List.getElem?_cons_succ, Option.getD_some] at e12
              have e13 := hbaseF 13 (not_dst (by kernel_rfl))
              simp only [List.getElem?_toArray, List.getElem?_cons_zero, List.getElem?_cons_succ, Option.getD_some] at e13
              have e14 := hbaseF 14 (not_dst (by kernel_rfl))
              simp only [List.getElem?_toArray, List.getElem?_cons_zero, List.getElem?_cons_succ, Option.getD_some] at e14
              have e15 := hbaseF 15 (not_dst (by kernel_rfl))
              simp only [List.getElem?_toArray, List.getElem?_cons_zero, List.getElem?_cons_succ, Option.getD_some] at e15
              have e16 := hbaseF 16 (not_dst (by kernel_rfl))
              simp only [List.getElem?_toArray, List.getElem?_cons_zero, List.getElem?_cons_succ, Option.getD_some] at e16
              have e17 := hbaseF 17 (not_dst (by kernel_rfl))
              simp only [List.getElem?_toArray, List.getElem?_cons_zero, List.getElem?_cons_succ, Option.getD_some] at e17
              have e18 := hbaseF 18 (not_dst (by kernel_rfl))
              simp only [List.getElem?_toArray, List.getElem?_cons_zero, List.getElem?_cons_succ, Option.getD_some] at e18
              have e19 := hbaseF 19 (not_dst (by kernel_rfl))
              simp only [List.getElem?_toArray, List.getElem?_cons_zero, List.getElem?_cons_succ, Option.getD_some] at e19
              have e20 := hbaseF 20 (not_dst (by kernel_rfl))
              simp only [List.getElem?_toArray, List.getElem?_cons_zero, List.getElem?_cons_succ, Option.getD_some] at e20
              have e21 := hbaseF 21 (not_dst (by kernel_rfl))
              simp only [List.getElem?_toArray, List.getElem?_cons_zero, List.getElem?_cons_succ, Option.getD_some] at e21
              have e22 := hbaseF 22 (not_dst (by kernel_rfl))
              simp only [List.getElem?_toArray, List.getElem?_cons_zero, List.getElem?_cons_succ, Option.getD_some] at e22
              have e23 := hbaseF 23 (not_dst (by kernel_rfl))
              simp only [List.getElem?_toArray, List.getElem?_cons_zero, List.getElem?_cons_succ, Option.getD_some] at e23
              have e24 := hbaseF 24 (not_dst (by kernel_rfl))
              simp only [List.getElem?_toArray, List.getElem?_cons_zero, List.getElem?_cons_succ, Option.getD_some] at e24
              have e25 := hbaseF 25 (not_dst (by kernel_rfl))
              simp only [List.getElem?_toArray, List.getElem?_cons_zero, List.getElem?_cons_succ, Option.getD_some] at e25
              have e26 := hbaseF 26 (not_dst (by kernel_rfl))
              simp only [List.getElem?_toArray, List.getElem?_cons_zero, List.getElem?_cons_succ, Option.getD_some] at e26
              have e27 := hbaseF 27 (not_dst (by kernel_rfl))
              simp only [List.getElem?_toArray, List.getElem?_cons_zero, List.getElem?_cons_succ, Option.getD_some] at e27
              have e28 := hbaseF 28 (not_dst (by kernel_rfl))
              simp only [List.getElem?_toArray, List.getElem?_cons_zero, List.getElem?_cons_succ, Option.getD_some] at e28
              have e29 := hbaseF 29 (not_dst (by kernel_rfl))
              simp only [List.getElem?_toArray, List.getElem?_cons_zero, List.getElem?_cons_succ, Option.getD_some] at e29
              have e30 := hbaseF 30 (not_dst (by kernel_rfl))
              simp only [List.getElem?_toArray, List.getElem?_cons_zero, List.getElem?_cons_succ, Option.getD_some] at e30
              have e31 := hbaseF 31 (not_dst (by kernel_rfl))
              simp only [List.getElem?_toArray, List.getElem?_cons_zero, List.getElem?_cons_succ, Option.getD_some] at e31
              have e32 := hbaseF 32 (not_dst (by kernel_rfl))
              simp only [List.getElem?_toArray, List.getElem?_cons_zero, List.getElem?_cons_succ, Option.getD_some] at e32
              have e33 := hbaseF 33 (not_dst (by kernel_rfl))
              simp only [List.getElem?_toArray, List.getElem?_cons_zero, List.getElem?_cons_succ, Option.getD_some] at e33
              have e34 := hbaseF 34 (not_dst (by kernel_rfl))
              simp only [List.getElem?_toArray, List.getElem?_cons_zero, List.getElem?_cons_succ, Option.getD_some] at e34
              have e35 := hbaseF 35 (not_dst (by kernel_rfl))
              simp only [List.getElem?_toArray, List.getElem?_cons_zero, List.getElem?_cons_succ, Option.getD_some] at e35
              have e36 := hbaseF 36 (not_dst (by kernel_rfl))
              simp only [List.getElem?_toArray, List.getElem?_cons_zero, List.getElem?_cons_succ, Option.getD_some] at e36
              have e37 := hbaseF 37 (not_dst (by kernel_rfl))
              simp only [List.getElem?_toArray, List.getElem?_cons_zero, List.getElem?_cons_succ, Option.getD_some] at e37
              have e38 := hbaseF 38 (not_dst (by kernel_rfl))
              simp only [List.getElem?_toArray, List.getElem?_cons_zero, List.getElem?_cons_succ, Option.getD_some] at e38
              have e39 := hbaseF 39 (not_dst (by kernel_rfl))
              simp only [List.getElem?_toArray, List.getElem?_cons_zero, List.getElem?_cons_succ, Option.getD_some] at e39
              have e40 := hbaseF 40 (not_dst (by kernel_rfl))
              simp only [List.getElem?_toArray, List.getElem?_cons_zero, List.getElem?_cons_succ, Option.getD_some] at e40
              have e41 := hbaseF 41 (not_dst (by kernel_rfl))
              simp only [List.getElem?_toArray, List.getElem?_cons_zero, List.getElem?_cons_succ, Option.getD_some] at e41
              have e42 := hbaseF 42 (not_dst (by kernel_rfl))
              simp only [List.getElem?_toArray, List.getElem?_cons_zero, List.getElem?_cons_succ, Option.getD_some] at e42
              have e43 := hbaseF 43 (not_dst (by kernel_rfl))
              simp only [List.getElem?_toArray, List.getElem?_cons_zero, List.getElem?_cons_succ, Option.getD_some] at e43
              have e44 := hbaseF 44 (not_dst (by kernel_rfl))
              simp only [List.getElem?_toArray, List.getElem?_cons_zero, List.getElem?_cons_succ, Option.getD_some] at e44
              have e45 := hbaseF 45 (not_dst (by kernel_rfl))
              simp only [List.getElem?_toArray, List.getElem?_cons_zero, List.getElem?_cons_succ, Option.getD_some] at e45
              have e46 := hbaseF 46 (not_dst (by kernel_rfl))
              simp only [List.getElem?_toArray, List.getElem?_cons_zero, List.getElem?_cons_succ, Option.getD_some] at e46
              have e47 := hbaseF 47 (not_dst (by kernel_rfl))
              simp only [List.getElem?_toArray, List.getElem?_cons_zero, List.getElem?_cons_succ, Option.getD_some] at e47
              have e48 := hbaseF 48 (not_dst (by kernel_rfl))
              simp only [List.getElem?_toArray, List.getElem?_cons_zero, List.getElem?_cons_succ, Option.getD_some] at e48
              have e49 := hbaseF 49 (not_dst (by kernel_rfl))
              simp only [List.getElem?_toArray, List.getElem?_cons_zero, List.getElem?_cons_succ, Option.getD_some] at e49
              have e50 := hbaseF 50 (not_dst (by kernel_rfl))
              simp only [List.getElem?_toArray, List.getElem?_cons_zero, List.getElem?_cons_succ, Option.getD_some] at e50
              have e51 := hbaseF 51 (not_dst (by kernel_rfl))
              simp only [List.getElem?_toArray, List.getElem?_cons_zero, List.getElem?_cons_succ, Option.getD_some] at e51
              have e52 := hbaseF 52 (not_dst (by kernel_rfl))
              simp only [List.getElem?_toArray, List.getElem?_cons_zero, List.getElem?_cons_succ, Option.getD_some] at e52
              have e53 := hbaseF 53 (not_dst (by kernel_rfl))
              simp only [List.getElem?_toArray, List.getElem?_cons_zero, List.getElem?_cons_succ, Option.getD_some] at e53
              have e54 := hbaseF 54 (not_dst (by kernel_rfl))
              simp only [List.getElem?_toArray, List.getElem?_cons_zero, List.getElem?_cons_succ, Option.getD_some] at e54
              have e55 := hbaseF 55 (not_dst (by kernel_rfl))
              simp only [List.getElem?_toArray, List.getElem?_cons_zero, List.getElem?_cons_succ, Option.getD_some] at e55
              have e56 := hbaseF 56 (not_dst (by kernel_rfl))
              simp only [List.getElem?_toArray, List.getElem?_cons_zero, List.getElem?_cons_succ, Option.getD_some] at e56
              have e57 := hbaseF 57 (not_dst (by kernel_rfl))
              simp only [List.getElem?_toArray, List.getElem?_cons_zero, List.getElem?_cons_succ, Option.getD_some] at e57
              have e58 := hbaseF 58 (not_dst (by kernel_rfl))
              simp only [List.getElem?_toArray, List.getElem?_cons_zero, List.getElem?_cons_succ, Option.getD_some] at e58
              have e59 := hbaseF 59 (not_dst (by kernel_rfl))
              simp only [List.getElem?_toArray, List.getElem?_cons_zero, List.getElem?_cons_succ, Option.getD_some] at e59
              have e60 := hbaseF 60 (not_dst (by kernel_rfl))
              simp only [List.getElem?_toArray, List.getElem?_cons_zero, List.getElem?_cons_succ, Option.getD_some] at e60
              have e61 := hbaseF 61 (not_dst (by kernel_rfl))
              simp only [List.getElem?_toArray, List.getElem?_cons_zero, List.getElem?_cons_succ, Option.getD_some] at e61
              have e62 := hbaseF 62 (not_dst (by kernel_rfl))
              simp only [List.getElem?_toArray, List.getElem?_cons_zero, List.getElem?_cons_succ, Option.getD_some] at e62
              have e63 := hbaseF 63 (not_dst (by kernel_rfl))
              simp only [List.getElem?_toArray, List.getElem?_cons_zero, List.getElem?_cons_succ, Option.getD_some] at e63
              have e8 := hfactF 20 8 (by decide) rfl
              replace e8 : T[8]?.getD undef = .bool true := e8
              clear hbaseF hfactF
              have hT : T = #[T[0]?.getD undef, T[1]?.getD undef, T[2]?.getD undef, T[3]?.getD undef, T[4]?.getD undef, T[5]?.getD undef, T[6]?.getD undef, T[7]?.getD undef, T[8]?.getD undef, T[9]?.getD undef, T[10]?.getD undef, T[11]?.getD undef, T[12]?.getD undef, T[13]?.getD undef, T[14]?.getD undef, T[15]?.getD undef, T[16]?.getD undef, T[17]?.getD undef, T[18]?.getD undef, T[19]?.getD undef, T[20]?.getD undef, T[21]?.getD undef, T[22]?.getD undef, T[23]?.getD undef, T[24]?.getD undef, T[25]?.getD undef, T[26]?.getD undef, T[27]?.getD undef, T[28]?.getD undef, T[29]?.getD undef, T[30]?.getD undef, T[31]?.getD undef, T[32]?.getD undef, T[33]?.getD undef, T[34]?.getD undef, T[35]?.getD undef, T[36]?.getD undef, T[37]?.getD undef, T[38]?.getD undef, T[39]?.getD undef, T[40]?.getD undef, T[41]?.getD undef, T[42]?.getD undef, T[43]?.getD undef, T[44]?.getD undef, T[45]?.getD undef, T[46]?.getD undef, T[47]?.getD undef, T[48]?.getD undef, T[49]?.getD undef, T[50]?.getD undef, T[51]?.getD undef, T[52]?.getD undef, T[53]?.getD undef, T[54]?.getD undef, T[55]?.getD undef, T[56]?.getD undef, T[57]?.getD undef, T[58]?.getD undef, T[59]?.getD undef, T[60]?.getD undef, T[61]?.getD undef, T[62]?.getD undef, T[63]?.getD undef, T[64]?.getD undef, T[65]?.getD undef, T[66]?.getD undef, T[67]?.getD undef, T[68]?.getD undef, T[69]?.getD undef, T[70]?.getD undef, T[71]?.getD undef, T[72]?.getD undef, T[73]?.getD undef, T[74]?.getD undef, T[75]?.getD undef, T[76]?.getD undef, T[77]?.getD undef, T[78]?.getD undef, T[79]?.getD undef, T[80]?.getD undef, T[81]?.getD undef, T[82]?.getD undef, T[83]?.getD undef] := arr_eq T 84 hsF
              clear hsF
              rw [e0] at hT; clear e0
              rw [e1] at hT; clear e1
              rw [e2] at hT; clear e2
              rw [e3] at hT; clear e3
              rw [e4] at hT; clear e4
              rw [e5] at hT; clear e5
              rw [e6] at hT; clear e6
              rw [e7] at hT; clear e7
              rw [e8] at hT; clear e8
              rw [e9] at hT; clear e9
              rw [e10] at hT; clear e10
              rw [e11] at hT; clear e11
              rw [e12] at hT; clear e12
              rw [e13] at hT; clear e13
              rw [e14] at hT; clear e14
              rw [e15] at hT; clear e15
              rw [e16] at hT; clear e16
              rw [e17] at hT; clear e17
              rw [e18] at hT; clear e18
              rw [e19] at hT; clear e19
              rw [e20] at hT; clear e20
              rw [e21] at hT; clear e21
              rw [e22] at hT; clear e22
              rw [e23] at hT; clear e23
              rw [e24] at hT; clear e24
              rw [e25] at hT; clear e25
              rw [e26] at hT; clear e26
              rw [e27] at hT; clear e27
              rw [e28] at hT; clear e28
              rw [e29] at hT; clear e29
              rw [e30] at hT; clear e30
              rw [e31] at hT; clear e31
              rw [e32] at hT; clear e32
              rw [e33] at hT; clear e33
              rw [e34] at hT; clear e34
              rw [e35] at hT; clear e35
              rw [e36] at hT; clear e36
              rw [e37] at hT; clear e37
              rw [e38] at hT; clear e38
              rw [e39] at hT; clear e39
              rw [e40] at hT; clear e40
              rw [e41] at hT; clear e41
              rw [e42] at hT; clear e42
              rw [e43] at hT; clear e43
              rw [e44] at hT; clear e44
              rw [e45] at hT; clear e45
              rw [e46] at hT; clear e46
              rw [e47] at hT; clear e47
              rw [e48] at hT; clear e48
              rw [e49] at hT; clear e49
              rw [e50] at hT; clear e50
              rw [e51] at hT; clear e51
              rw [e52] at hT; clear e52
              rw [e53] at hT; clear e53
              rw [e54] at hT; clear e54
              rw [e55] at hT; clear e55
              rw [e56] at hT; clear e56
              rw [e57] at hT; clear e57
              rw [e58] at hT; clear e58
              rw [e59] at hT; clear e59
              rw [e60] at hT; clear e60
              rw [e61] at hT; clear e61
              rw [e62] at hT; clear e62
              rw [e63] at hT; clear e63
              generalize T[64]?.getD undef = u64 at hT
              generalize T[65]?.getD undef = u65 at hT
              generalize T[66]?.getD undef = u66 at hT
              generalize T[67]?.getD undef = u67 at hT
              generalize T[68]?.getD undef = u68 at hT
              generalize T[69]?.getD undef = u69 at hT
              generalize T[70]?.getD undef = u70 at hT
              generalize T[71]?.getD undef = u71 at hT
              generalize T[72]?.getD undef = u72 at hT
              generalize T[73]?.getD undef = u73 at hT
              generalize T[74]?.getD undef = u74 at hT
              generalize T[75]?.getD undef = u75 at hT
              generalize T[76]?.getD undef = u76 at hT
              generalize T[77]?.getD undef = u77 at hT
              generalize T[78]?.getD undef = u78 at hT
              generalize T[79]?.getD undef = u79 at hT
              generalize T[80]?.getD undef = u80 at hT
              generalize T[81]?.getD undef = u81 at hT
              generalize T[82]?.getD undef = u82 at hT
              generalize T[83]?.getD undef = u83 at hT
              subst hT
              go_wp2_with fail
              go_ret
              exact ⟨rfl, (by (have q_hbF := Below.size hbF; (try simp at q_hbF); have q_b6 := Below.size b6; (try simp at q_b6); repeat (first | exact Below.refl _ _ | (refine Below.trans ?_ (Below.mono hbF (by first | omega | (simp; omega) | simp))) | (refine Below.trans ?_ (Below.mono b6 (by first | omega | (simp; omega) | simp))) | (refine Below.setCell ?_ (by first | omega | (simp; omega) | simp) _) | (refine Below.alloc ?_ (by first | omega | (simp; omega) | simp) _) | apply Below.drew | apply below_drewN)))⟩
end Go.Proofs.Ytdnjlhcmihmgdaa
