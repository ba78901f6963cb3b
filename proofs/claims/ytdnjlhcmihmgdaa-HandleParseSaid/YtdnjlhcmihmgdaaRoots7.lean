/- The walk of the statement HandleRoots. -/
import Derived.Test.YtdnjlhcmihmgdaaRootsM
import Derived.Test.YtdnjlhcmihmgdaaHandle4
import Derived.Test.YtdnjlhcmihmgdaaFlow
import Derived.Test.YtdnjlhcmihmgdaaConv
namespace Go.Proofs.Ytdnjlhcmihmgdaa
open Go.RowKit

theorem wp_load_blk {P : Program} {op : Oper} {a : Act} {w : World} {K : Act → World → Prop} {Q : Exit → Act → World → Prop} (ty : TypeId) (x : Operand) (ho : op.op = .load ty x) (g o : Nat) (T : TypeId) (cur cs : Array Value) (d : TypeDesc) (hx : a.eval x = .pointer (some ⟨g, o, none⟩)) (hB : Blk w g T cur) (hcs : ∀ (j : Nat) (v : Value), cs[j]? = some v → cur[o + j]? = some v)
    (hu : P.underlying ty = some d) (hd : d.isRow = true) (hi : (P.info? ty).map (·.size) = some cs.size) (h : K (a.put op.dst (.agg cs)) w) : op.wp P a w K Q :=
  wp_load_mid ty x ho g o hx cs.toList d (fun j v hv => by rw [hB.cell]; exact hcs j v (by simpa using hv)) hu hd (by simpa using hi) (by simpa using h)
theorem isB_of {T : TypeId} {B n : Nat} {w : World} {v : Value} {l : List UInt8} (h : Fresh T B w v l) (hn : l.length = n) : IsB n l v w := by
  obtain ⟨A, c, rfl, hR, _, h1, h2⟩ := h.rdn n hn
  exact ⟨A, c, rfl, hR, h1, h2⟩
theorem eq_same (n : Int) (f : Nat → Int) : ∀ w : World, (binOp .eql 66 (.agg (hd n f)) (.agg (hd n f))).run Try.prog w = .ok (.bool true) w := by
  intro w
  rw [eq_doc, eqH_self]
theorem eq_hz (n : Int) : ∀ w : World, (binOp .eql 66 (.agg (hz n)) (.agg (hz n))).run Try.prog w = .ok (.bool true) w := eq_same n (fun _ => 0)
theorem part_zeros (n : Nat) : part (List.replicate n (0 : UInt8)) 0 = ((List.replicate n (0 : UInt8)).map bv).toArray := by
  unfold part
  rw [List.take_zero, List.map_nil, List.nil_append, List.length_replicate, List.map_replicate, Nat.sub_zero]
  rfl

set_option maxRecDepth 100000 in
set_option maxHeartbeats 2000000 in
theorem law_roots (n : Int) (f : Nat → Int) (w : World) (n0 : 0 ≤ n) (n1 : n ≤ 18446744073709551615) (hf : ∀ i, i < 16 → 0 ≤ f i ∧ f i ≤ 18446744073709551615) :
    Calls Try.prog 13 #[.agg (hd n f)] w fun e w' => e = .returned (.bool true) ∧ Below w.heap.size w w' := by
  have H0 := Blk.new w 66 (hd n f)
  have hb0 : Below w.heap.size w (w.alloc (.cells (hd n f) 66)) := (by (repeat (first | exact Below.refl _ _ | (refine Below.setCell ?_ (by first | omega | (simp; omega) | simp) _) | (refine Below.alloc ?_ (by first | omega | (simp; omega) | simp) _) | apply Below.drew | apply below_drewN)))
  obtain ⟨Z, hZ⟩ : ∃ Z, Z = List.replicate 256 (0 : UInt8) := ⟨_, rfl⟩
  have hZl : Z.length = 256 := by rw [hZ]; simp
  have hZz : zeroB Z = true := by rw [hZ]; simp [zeroB]
  have hZp := Lib.hid (show part Z 0 = (Z.map bv).toArray by rw [hZ]; exact part_zeros 256)
  have hmk : ∀ W : World, (Instr.makeSlice 39 (.int .i64 256) (.int .i64 256)).run Try.prog W = .ok (.slice (some ⟨W.heap.size, 0, none⟩) 256 256) (W.alloc (.cells (part Z 0) 5)) :=
    make_bytes (P := Try.prog) Try.underlying39 info8 .i64 .i64 256 (by omega) Z hZl
  have HMK := Lib.hid hmk
  obtain ⟨X, hX⟩ : ∃ X, X = noH n f := ⟨_, rfl⟩
  obtain ⟨Y, hY⟩ : ∃ Y, Y = rtB n f := ⟨_, rfl⟩
  obtain ⟨S, hS⟩ : ∃ S, S = sencR n f := ⟨_, rfl⟩
  obtain ⟨E, hE⟩ : ∃ E, E = serrR n f := ⟨_, rfl⟩
  have heq : ∀ w : World, (binOp .eql 66 (.agg (hd n f)) (.agg (hz 0))).run Try.prog w = .ok (.bool X) w := by rw [hX]; exact eq_doc n f 0 (fun _ => 0)
  have HX := Lib.hid hX
  have HY := Lib.hid hY
  have HS := Lib.hid hS
  have HE := Lib.hid hE
  have HZ := Lib.hid hZ
  clear hZ hmk hX hY hS hE
  go_enter Try.func13, Try.ntmps13
  go_wp2_with (refine wpList_load_blk rfl 66 (.tmp 1) rfl w.heap.size 0 66 (hd n f) (hd n f) _ rfl H0 (hd_self n f) Try.underlying66 rfl (by kernel_rfl) ?_)
  refine (oursR_any n f _).mono ?_
  rintro e w1 ⟨rfl, hb1⟩
  go_wp2_with fail
  refine (sbytesR_any n f _ n0 n1 hf).mono ?_
  rintro e w2 ⟨v2, rfl, hF2, hb2⟩
  rw [← HS.out] at hF2
  rw [← HE.out]
  have H2 := (H0.on hb1).on hb2
  have b2 : Below w.heap.size w w2 := (by (have q_hb2 := Below.size hb2; (try simp at q_hb2); have q_hb1 := Below.size hb1; (try simp at q_hb1); have q_hb0 := Below.size hb0; (try simp at q_hb0); repeat (first | exact Below.refl _ _ | (refine Below.trans ?_ (Below.mono hb2 (by first | omega | (simp; omega) | simp))) | (refine Below.trans ?_ (Below.mono hb1 (by first | omega | (simp; omega) | simp))) | (refine Below.trans ?_ (Below.mono hb0 (by first | omega | (simp; omega) | simp))) | (refine Below.setCell ?_ (by first | omega | (simp; omega) | simp) _) | (refine Below.alloc ?_ (by first | omega | (simp; omega) | simp) _) | apply Below.drew | apply below_drewN)))
  clear H0 hb0 hb1 hb2
  cases X with
  | true =>
    have hS2 : S = Z := by rw [HS.out, HZ.out]; unfold sencR; rw [← HX.out, if_pos rfl]; exact zero_pad
    have hE2 : E = 0 := by rw [HE.out]; unfold serrR; rw [← HX.out, if_pos rfl]
    rw [hS2] at hF2
    subst hE2
    obtain ⟨A2, c2, rfl, hR2, _, hn2, hm2⟩ := hF2.rdn 256 hZl
    obtain ⟨z1, z2, z3⟩ := par_zero hZl hZz
    have hpar := sparseR_any A2 256 c2 Z w2 hR2 (by omega)
    rw [z1, z2, z3] at hpar
    have HPAR := Lib.hid hpar
    clear hF2 hS2 z1 z2 z3 hpar
    go_wp2_with (refine wpList_load_blk rfl 66 (.tmp 1) rfl w.heap.size 0 66 (hd n f) (hd n f) _ rfl H2 (hd_self n f) Try.underlying66 rfl (by kernel_rfl) ?_)
    refine HPAR.out.mono ?_
    rintro e w3 ⟨rfl, hb3⟩
    have b3 : Below w.heap.size w w3 := (by (have q_hb3 := Below.size hb3; (try simp at q_hb3); have q_b2 := Below.size b2; (try simp at q_b2); repeat (first | exact Below.refl _ _ | (refine Below.trans ?_ (Below.mono hb3 (by first | omega | (simp; omega) | simp))) | (refine Below.trans ?_ (Below.mono b2 (by first | omega | (simp; omega) | simp))) | (refine Below.setCell ?_ (by first | omega | (simp; omega) | simp) _) | (refine Below.alloc ?_ (by first | omega | (simp; omega) | simp) _) | apply Below.drew | apply below_drewN)))
    have hR3 := (hR2.below hb3).alloc (.cells (hz 1) 70)
    have H3 := Blk.new w3 70 (hz 1)
    have b4 : Below w.heap.size w (w3.alloc (.cells (hz 1) 70)) := (by (have q_b3 := Below.size b3; (try simp at q_b3); repeat (first | exact Below.refl _ _ | (refine Below.trans ?_ (Below.mono b3 (by first | omega | (simp; omega) | simp))) | (refine Below.setCell ?_ (by first | omega | (simp; omega) | simp) _) | (refine Below.alloc ?_ (by first | omega | (simp; omega) | simp) _) | apply Below.drew | apply below_drewN)))
    clear HPAR hR2 H2 b2 hb3 heq
    go_wp2_with fail
    refine wp_flows [(fun y_ _ => y_ = .int .i64 0), (fun y_ _ => y_ = .bool true), (fun y_ _ => y_ = .bool true), (fun y_ _ => y_ = .slice A2 256 c2), (fun y_ _ => y_ = .string (str (Z))), (IsB (256) (Z)), (fun y_ _ => y_ = .string (str (Z))), (fun y_ _ => y_ = .bool true), (fun y_ _ => y_ = .bool true), (fun y_ _ => y_ = .bool true), (fun y_ _ => y_ = .int .i64 0), (fun y_ _ => y_ = .bool true), (fun y_ _ => y_ = .bool true), (fun y_ _ => y_ = .bool true), (fun y_ _ => y_ = .agg (hz 1)), (fun y_ _ => y_ = .agg (hz 1)), (fun y_ _ => y_ = .agg (hz 1)), (fun y_ _ => y_ = .bool true), (fun y_ _ => y_ = .bool true), (fun y_ _ => y_ = .bool true), (fun y_ _ => y_ = .bool true), (fun y_ _ => y_ = .bool true), (fun y_ _ => y_ = .bool true)] (by kernel_rfl) ⟨Stab.eq _, Stab.eq _, Stab.eq _, Stab.eq _, Stab.eq _, Stab.b _ _, Stab.eq _, Stab.eq _, Stab.eq _, Stab.eq _, Stab.eq _, Stab.eq _, Stab.eq _, Stab.eq _, Stab.eq _, Stab.eq _, Stab.eq _, Stab.eq _, Stab.eq _, Stab.eq _, Stab.eq _, Stab.eq _, Stab.eq _, trivial⟩ (by kernel_rfl) (by rfl) ?_ ?_
    · intro kq hkq
      match kq, hkq with
      | 0, _ =>
        refine StepOk.plain _ 23 rfl rfl rfl [(4, none)] (by kernel_rfl) (fun af wf hbw hf Kf hKf => ?_)
        obtain ⟨g4, _⟩ := hf
        have h4 : af.tmps[4]?.getD undef = .int .i64 0 := g4
        clear g4
        go_simp
        exact hKf _ _ (Below.refl _ _) rfl
      | 1, _ =>
        refine StepOk.plain _ 24 rfl rfl rfl [(23, some 0)] (by kernel_rfl) (fun af wf hbw hf Kf hKf => ?_)
        obtain ⟨g23, _⟩ := hf
        have h23 : af.tmps[23]?.getD undef = .int .i64 0 := g23
        clear g23
        go_simp
        exact hKf _ _ (Below.refl _ _) rfl
      | 2, _ =>
        refine StepOk.plain _ 25 rfl rfl rfl [(24, some 1)] (by kernel_rfl) (fun af wf hbw hf Kf hKf => ?_)
        obtain ⟨g24, _⟩ := hf
        have h24 : af.tmps[24]?.getD undef = .bool true := g24
        clear g24
        go_simp
        exact hKf _ _ (Below.refl _ _) rfl
      | 3, _ =>
        refine StepOk.yes _ 26 rfl rfl rfl rfl (fun _ _ h => h) [(3, none)] (by kernel_rfl) (fun af wf hbw hf Kf hKf => ?_)
        obtain ⟨g3, _⟩ := hf
        have h3 : af.tmps[3]?.getD undef = .slice A2 256 c2 := g3
        clear g3
        go_simp
        exact hKf _ _ (Below.refl _ _) rfl
      | 4, _ =>
        refine StepOk.yes _ 27 rfl rfl rfl rfl (fun _ _ h => h) [(26, some 3)] (by kernel_rfl) (fun af wf hbw hf Kf hKf => ?_)
        obtain ⟨g26, _⟩ := hf
        have h26 : af.tmps[26]?.getD undef = .slice A2 256 c2 := g26
        clear g26
        have hcv := conv c2 _ (Rd.below (Rd.drew (hR3)) hbw)
        go_simp
        exact hKf _ _ (Below.refl _ _) rfl
      | 5, _ =>
        refine StepOk.yes _ 28 rfl rfl rfl rfl (fun _ _ h => h) [] (by kernel_rfl) (fun af wf hbw hf Kf hKf => ?_)
        have hmk_ := HMK.out wf
        go_simp
        exact hKf _ _ (((Below.refl _ _).alloc (Nat.le_refl _) _)) ((isB_of (Fresh.of_blk (t := 5) (base := 0) (Blk.new wf 5 (part Z 0)) (Nat.zero_le _) (by unfold maxLen; omega) hZl hZp.out) hZl))
      | 6, _ =>
        refine StepOk.yes _ 29 rfl rfl rfl rfl (fun _ _ h => h) [(28, some 5)] (by kernel_rfl) (fun af wf hbw hf Kf hKf => ?_)
        obtain ⟨g28, _⟩ := hf
        obtain ⟨A28, c28, h28, hR28, hn28, hm28⟩ : IsB (256) (Z) (af.tmps[28]?.getD undef) wf := g28
        have hcv := conv c28 _ hR28
        go_simp
        exact hKf _ _ (Below.refl _ _) rfl
      | 7, _ =>
        refine StepOk.yes _ 30 rfl rfl rfl rfl (fun _ _ h => h) [(27, some 4), (29, some 6)] (by kernel_rfl) (fun af wf hbw hf Kf hKf => ?_)
        obtain ⟨g27, g29, _⟩ := hf
        have h27 : af.tmps[27]?.getD undef = .string (str (Z)) := g27
        have h29 : af.tmps[29]?.getD undef = .string (str (Z)) := g29
        clear g27 g29
        have hq : ((str Z).toList == (str Z).toList) = true := by simp
        go_simp
        exact hKf _ _ (Below.refl _ _) rfl
      | 8, _ =>
        refine StepOk.plain _ 31 rfl rfl rfl [(25, some 2), (30, some 7)] (by kernel_rfl) (fun af wf hbw hf Kf hKf => ?_)
        obtain ⟨g25, g30, _⟩ := hf
        have h25 : af.tmps[25]?.getD undef = .bool true := g25
        have h30 : af.tmps[30]?.getD undef = .bool true := g30
        clear g25 g30
        go_simp
        exact hKf _ _ (Below.refl _ _) rfl
      | 9, _ =>
        refine StepOk.plain _ 32 rfl rfl rfl [(31, some 8)] (by kernel_rfl) (fun af wf hbw hf Kf hKf => ?_)
        obtain ⟨g31, _⟩ := hf
        have h31 : af.tmps[31]?.getD undef = .bool true := g31
        clear g31
        go_simp
        exact hKf _ _ (Below.refl _ _) rfl
      | 10, _ =>
        refine StepOk.yes _ 33 rfl rfl rfl rfl (fun _ _ h => h) [(6, none)] (by kernel_rfl) (fun af wf hbw hf Kf hKf => ?_)
        obtain ⟨g6, _⟩ := hf
        have h6 : af.tmps[6]?.getD undef = .int .i64 0 := g6
        clear g6
        go_simp
        exact hKf _ _ (Below.refl _ _) rfl
      | 11, _ =>
        refine StepOk.yes _ 34 rfl rfl rfl rfl (fun _ _ h => h) [(33, some 10)] (by kernel_rfl) (fun af wf hbw hf Kf hKf => ?_)
        obtain ⟨g33, _⟩ := hf
        have h33 : af.tmps[33]?.getD undef = .int .i64 0 := g33
        clear g33
        go_simp
        exact hKf _ _ (Below.refl _ _) rfl
      | 12, _ =>
        refine StepOk.plain _ 35 rfl rfl rfl [(32, some 9), (34, some 11)] (by kernel_rfl) (fun af wf hbw hf Kf hKf => ?_)
        obtain ⟨g32, g34, _⟩ := hf
        have h32 : af.tmps[32]?.getD undef = .bool true := g32
        have h34 : af.tmps[34]?.getD undef = .bool true := g34
        clear g32 g34
        go_simp
        exact hKf _ _ (Below.refl _ _) rfl
      | 13, _ =>
        refine StepOk.plain _ 36 rfl rfl rfl [(35, some 12)] (by kernel_rfl) (fun af wf hbw hf Kf hKf => ?_)
        obtain ⟨g35, _⟩ := hf
        have h35 : af.tmps[35]?.getD undef = .bool true := g35
        clear g35
        go_simp
        exact hKf _ _ (Below.refl _ _) rfl
      | 14, _ =>
        refine StepOk.yes _ 37 rfl rfl rfl rfl (fun _ _ h => h) [(5, none)] (by kernel_rfl) (fun af wf hbw hf Kf hKf => ?_)
        obtain ⟨g5, _⟩ := hf
        have h5 : af.tmps[5]?.getD undef = .pointer (some ⟨w3.heap.size, 0, none⟩) := g5
        clear g5
        refine wp_load_blk 70 (.tmp 5) rfl w3.heap.size 0 70 (hz 1) (hz 1) _ (by simp [Act.eval, h5]) (Blk.on (Blk.drew H3) hbw) (fun j v h => by rw [Nat.zero_add]; exact h) Try.underlying70 rfl (by kernel_rfl) ?_
        exact hKf _ _ ((Below.refl _ _)) (rfl)
      | 15, _ =>
        refine StepOk.yes _ 38 rfl rfl rfl rfl (fun _ _ h => h) [(37, some 14)] (by kernel_rfl) (fun af wf hbw hf Kf hKf => ?_)
        obtain ⟨g37, _⟩ := hf
        have h37 : af.tmps[37]?.getD undef = .agg (hz 1) := g37
        clear g37
        go_simp
        refine (plainR_any 1 (fun _ => 0) _).mono ?_
        rintro e wN ⟨rfl, hb⟩
        exact hKf _ _ (hb) (rfl)
      | 16, _ =>
        refine StepOk.yes _ 39 rfl rfl rfl rfl (fun _ _ h => h) [] (by kernel_rfl) (fun af wf hbw hf Kf hKf => ?_)
        go_simp
        exact hKf _ _ (Below.refl _ _) rfl
      | 17, _ =>
        refine StepOk.yes _ 40 rfl rfl rfl rfl (fun _ _ h => h) [(38, some 15), (39, some 16)] (by kernel_rfl) (fun af wf hbw hf Kf hKf => ?_)
        obtain ⟨g38, g39, _⟩ := hf
        have h38 : af.tmps[38]?.getD undef = .agg (hz 1) := g38
        have h39 : af.tmps[39]?.getD undef = .agg (hz 1) := g39
        clear g38 g39
        have heq1 := eq_hz 1
        go_simp
        exact hKf _ _ (Below.refl _ _) rfl
      | 18, _ =>
        refine StepOk.plain _ 41 rfl rfl rfl [(36, some 13), (40, some 17)] (by kernel_rfl) (fun af wf hbw hf Kf hKf => ?_)
        obtain ⟨g36, g40, _⟩ := hf
        have h36 : af.tmps[36]?.getD undef = .bool true := g36
        have h40 : af.tmps[40]?.getD undef = .bool true := g40
        clear g36 g40
        go_simp
        exact hKf _ _ (Below.refl _ _) rfl
      | 19, _ =>
        refine StepOk.plain _ 42 rfl rfl rfl [(41, some 18)] (by kernel_rfl) (fun af wf hbw hf Kf hKf => ?_)
        obtain ⟨g41, _⟩ := hf
        have h41 : af.tmps[41]?.getD undef = .bool true := g41
        clear g41
        go_simp
        exact hKf _ _ (Below.refl _ _) rfl
      | 20, _ =>
        refine StepOk.yes _ 43 rfl rfl rfl rfl (fun _ _ h => h) [] (by kernel_rfl) (fun af wf hbw hf Kf hKf => ?_)
        go_simp
        refine (hawake_any _).mono ?_
        rintro e wN ⟨rfl, hb⟩
        exact hKf _ _ (hb) (rfl)
      | 21, _ =>
        refine StepOk.plain _ 44 rfl rfl rfl [(42, some 19), (43, some 20)] (by kernel_rfl) (fun af wf hbw hf Kf hKf => ?_)
        obtain ⟨g42, g43, _⟩ := hf
        have h42 : af.tmps[42]?.getD undef = .bool true := g42
        have h43 : af.tmps[43]?.getD undef = .bool true := g43
        clear g42 g43
        go_simp
        exact hKf _ _ (Below.refl _ _) rfl
      | 22, _ =>
        refine StepOk.plain _ 2 rfl rfl rfl [(44, some 21)] (by kernel_rfl) (fun af wf hbw hf Kf hKf => ?_)
        obtain ⟨g44, _⟩ := hf
        have h44 : af.tmps[44]?.getD undef = .bool true := g44
        clear g44
        go_simp
        exact hKf _ _ (Below.refl _ _) rfl
      | i + 23, h => exact absurd h (by show ¬ (i + 23 < 23); omega)
    · intro af wF hbF hdF hsF hbaseF hfactF
      obtain ⟨T, dsF⟩ := af
      obtain rfl : dsF = _ := hdF
      have e0 := hbaseF 0 (not_dst (by kernel_rfl))
      simp only [List.getElem?_toArray, List.getElem?_cons_zero, Option.getD_some] at e0
      have e1 := hbaseF 1 (not_dst (by kernel_rfl))
      simp only [List.getElem?_toArray, List.getElem?_cons_zero, List.getElem?_cons_succ, Option.getD_some] at e1
      have e3 := hbaseF 3 (not_dst (by kernel_rfl))
      simp only [List.getElem?_toArray, List.getElem?_cons_zero, List.getElem?_cons_succ, Option.getD_some] at e3
      have e4 := hbaseF 4 (not_dst (by kernel_rfl))
      simp only [List.getElem?_toArray, List.getElem?_cons_zero, List.getElem?_cons_succ, Option.getD_some] at e4
      have e5 := hbaseF 5 (not_dst (by kernel_rfl))
      simp only [List.getElem?_toArray, List.getElem?_cons_zero, List.getElem?_cons_succ, Option.getD_some] at e5
      have e6 := hbaseF 6 (not_dst (by kernel_rfl))
      simp only [List.getElem?_toArray, List.getElem?_cons_zero, List.getElem?_cons_succ, Option.getD_some] at e6
      have e7 := hbaseF 7 (not_dst (by kernel_rfl))
      simp only [List.getElem?_toArray, List.getElem?_cons_zero, List.getElem?_cons_succ, Option.getD_some] at e7
      have e8 := hbaseF 8 (not_dst (by kernel_rfl))
      simp only [List.getElem?_toArray, List.getElem?_cons_zero, List.getElem?_cons_succ, Option.getD_some] at e8
      have e9 := hbaseF 9 (not_dst (by kernel_rfl))
      simp only [List.getElem?_toArray, List.getElem?_cons_zero, List.getElem?_cons_succ, Option.getD_some] at e9
      have e10 := hbaseF 10 (not_dst (by kernel_rfl))
      simp only [List.getElem?_toArray, List.getElem?_cons_zero, List.getElem?_cons_succ, Option.getD_some] at e10
      have e11 := hbaseF 11 (not_dst (by kernel_rfl))
      simp only [List.getElem?_toArray, List.getElem?_cons_zero, List.getElem?_cons_succ, Option.getD_some] at e11
      have e12 := hbaseF 12 (not_dst (by kernel_rfl))
      simp only [List.getElem?_toArray, List.getElem?_cons_zero, List.getElem?_cons_succ, Option.getD_some] at e12
      have e13 := hbaseF 13 (not_dst (by kernel_rfl))
      simp only [List.getElem?_toArray, List.getElem?_cons_zero, List.getElem?_cons_succ, Option.getD_some] at e13
      have e14 := hbaseF 14 (not_dst (by kernel_rfl))
      simp only [List.getElem?_toArray, List.getElem?_cons_zero, List.getElem?_cons_succ, Option.getD_some] at e14
      have e15 := hbaseF 15 (not_dst (by kernel_rfl))
      simp only [List.getElem?_toArray, List.getElem?_cons_zero, List.getElem?_cons_succ, Option.getD_some] at e15
      have e16 := hbaseF 16 (not_dst (by kernel_rfl))
      simp only [List.getElem?_toArray, List.getElem?_cons_zero, List.getElem?_cons_succ, Option.getD_some] at e16
      have e17 := hbaseF 17 (not_dst (by kernel_rfl))
      simp only [List.getElem?_toArray, List.getElem?_cons_zero, List.getElem?_cons_succ, Option.getD_some] at e17
      have e18 := hbaseF 18 (not_dst (by kernel_rfl))
      simp only [List.getElem?_toArray, List.getElem?_cons_zero, List.getElem?_cons_succ, Option.getD_some] at e18
      have e19 := hbaseF 19 (not_dst (by kernel_rfl))
      simp only [List.getElem?_toArray, List.getElem?_cons_zero, List.getElem?_cons_succ, Option.getD_some] at e19
      have e20 := hbaseF 20 (not_dst (by kernel_rfl))
      simp only [List.getElem?_toArray, List.getElem?_cons_zero, List.getElem?_cons_succ, Option.getD_some] at e20
      have e21 := hbaseF 21 (not_dst (by kernel_rfl))
      simp only [List.getElem?_toArray, List.getElem?_cons_zero, List.getElem?_cons_succ, Option.getD_some] at e21
      have e22 := hbaseF 22 (not_dst (by kernel_rfl))
      simp only [List.getElem?_toArray, List.getElem?_cons_zero, List.getElem?_cons_succ, Option.getD_some] at e22
      have e45 := hbaseF 45 (not_dst (by kernel_rfl))
      simp only [List.getElem?_toArray, List.getElem?_cons_zero, List.getElem?_cons_succ, Option.getD_some] at e45
      have e46 := hbaseF 46 (not_dst (by kernel_rfl))
      simp only [List.getElem?_toArray, List.getElem?_cons_zero, List.getElem?_cons_succ, Option.getD_some] at e46
      have e47 := hbaseF 47 (not_dst (by kernel_rfl))
      simp only [List.getElem?_toArray, List.getElem?_cons_zero, List.getElem?_cons_succ, Option.getD_some] at e47
      have e48 := hbaseF 48 (not_dst (by kernel_rfl))
      simp only [List.getElem?_toArray, List.getElem?_cons_zero, List.getElem?_cons_succ, Option.getD_some] at e48
      have e49 := hbaseF 49 (not_dst (by kernel_rfl))
      simp only [List.getElem?_toArray, List.getElem?_cons_zero, List.getElem?_cons_succ, Option.getD_some] at e49
      have e50 := hbaseF 50 (not_dst (by kernel_rfl))
      simp only [List.getElem?_toArray, List.getElem?_cons_zero, List.getElem?_cons_succ, Option.getD_some] at e50
      have e51 := hbaseF 51 (not_dst (by kernel_rfl))
      simp only [List.getElem?_toArray, List.getElem?_cons_zero, List.getElem?_cons_succ, Option.getD_some] at e51
      have e52 := hbaseF 52 (not_dst (by kernel_rfl))
      simp only [List.getElem?_toArray, List.getElem?_cons_zero, List.getElem?_cons_succ, Option.getD_some] at e52
      have e53 := hbaseF 53 (not_dst (by kernel_rfl))
      simp only [List.getElem?_toArray, List.getElem?_cons_zero, List.getElem?_cons_succ, Option.getD_some] at e53
      have e54 := hbaseF 54 (not_dst (by kernel_rfl))
      simp only [List.getElem?_toArray, List.getElem?_cons_zero, List.getElem?_cons_succ, Option.getD_some] at e54
      have e55 := hbaseF 55 (not_dst (by kernel_rfl))
      simp only [List.getElem?_toArray, List.getElem?_cons_zero, List.getElem?_cons_succ, Option.getD_some] at e55
      have e56 := hbaseF 56 (not_dst (by kernel_rfl))
      simp only [List.getElem?_toArray, List.getElem?_cons_zero, List.getElem?_cons_succ, Option.getD_some] at e56
      have e57 := hbaseF 57 (not_dst (by kernel_rfl))
      simp only [List.getElem?_toArray, List.getElem?_cons_zero, List.getElem?_cons_succ, Option.getD_some] at e57
      have e58 := hbaseF 58 (not_dst (by kernel_rfl))
      simp only [List.getElem?_toArray, List.getElem?_cons_zero, List.getElem?_cons_succ, Option.getD_some] at e58
      have e59 := hbaseF 59 (not_dst (by kernel_rfl))
      simp only [List.getElem?_toArray, List.getElem?_cons_zero, List.getElem?_cons_succ, Option.getD_some] at e59
      have e60 := hbaseF 60 (not_dst (by kernel_rfl))
      simp only [List.getElem?_toArray, List.getElem?_cons_zero, List.getElem?_cons_succ, Option.getD_some] at e60
      have e61 := hbaseF 61 (not_dst (by kernel_rfl))
      simp only [List.getElem?_toArray, List.getElem?_cons_zero, List.getElem?_cons_succ, Option.getD_some] at e61
      have e62 := hbaseF 62 (not_dst (by kernel_rfl))
      simp only [List.getElem?_toArray, List.getElem?_cons_zero, List.getElem?_cons_succ, Option.getD_some] at e62
      have e63 := hbaseF 63 (not_dst (by kernel_rfl))
      simp only [List.getElem?_toArray, List.getElem?_cons_zero, List.getElem?_cons_succ, Option.getD_some] at e63
      have e64 := hbaseF 64 (not_dst (by kernel_rfl))
      simp only [List.getElem?_toArray, List.getElem?_cons_zero, List.getElem?_cons_succ, Option.getD_some] at e64
      have e65 := hbaseF 65 (not_dst (by kernel_rfl))
      simp only [List.getElem?_toArray, List.getElem?_cons_zero, List.getElem?_cons_succ, Option.getD_some] at e65
      have e66 := hbaseF 66 (not_dst (by kernel_rfl))
      simp only [List.getElem?_toArray, List.getElem?_cons_zero, List.getElem?_cons_succ, Option.getD_some] at e66
      have e67 := hbaseF 67 (not_dst (by kernel_rfl))
      simp only [List.getElem?_toArray, List.getElem?_cons_zero, List.getElem?_cons_succ, Option.getD_some] at e67
      have e68 := hbaseF 68 (not_dst (by kernel_rfl))
      simp only [List.getElem?_toArray, List.getElem?_cons_zero, List.getElem?_cons_succ, Option.getD_some] at e68
      have e69 := hbaseF 69 (not_dst (by kernel_rfl))
      simp only [List.getElem?_toArray, List.getElem?_cons_zero, List.getElem?_cons_succ, Option.getD_some] at e69
      have e70 := hbaseF 70 (not_dst (by kernel_rfl))
      simp only [List.getElem?_toArray, List.getElem?_cons_zero, List.getElem?_cons_succ, Option.getD_some] at e70
      have e71 := hbaseF 71 (not_dst (by kernel_rfl))
      simp only [List.getElem?_toArray, List.getElem?_cons_zero, List.getElem?_cons_succ, Option.getD_some] at e71
      have e72 := hbaseF 72 (not_dst (by kernel_rfl))
      simp only [List.getElem?_toArray, List.getElem?_cons_zero, List.getElem?_cons_succ, Option.getD_some] at e72
      have e73 := hbaseF 73 (not_dst (by kernel_rfl))
      simp only [List.getElem?_toArray, List.getElem?_cons_zero, List.getElem?_cons_succ, Option.getD_some] at e73
      have e74 := hbaseF 74 (not_dst (by kernel_rfl))
      simp only [List.getElem?_toArray, List.getElem?_cons_zero, List.getElem?_cons_succ, Option.getD_some] at e74
      have e75 := hbaseF 75 (not_dst (by kernel_rfl))
      simp only [List.getElem?_toArray, List.getElem?_cons_zero, List.getElem?_cons_succ, Option.getD_some] at e75
      have e76 := hbaseF 76 (not_dst (by kernel_rfl))
      simp only [List.getElem?_toArray, List.getElem?_cons_zero, List.getElem?_cons_succ, Option.getD_some] at e76
      have e77 := hbaseF 77 (not_dst (by kernel_rfl))
      simp only [List.getElem?_toArray, List.getElem?_cons_zero, List.getElem?_cons_succ, Option.getD_some] at e77
      have e78 := hbaseF 78 (not_dst (by kernel_rfl))
      simp only [List.getElem?_toArray, List.getElem?_cons_zero, List.getElem?_cons_succ, Option.getD_some] at e78
      have e79 := hbaseF 79 (not_dst (by kernel_rfl))
      simp only [List.getElem?_toArray, List.getElem?_cons_zero, List.getElem?_cons_succ, Option.getD_some] at e79
      have e80 := hbaseF 80 (not_dst (by kernel_rfl))
      simp only [List.getElem?_toArray, List.getElem?_cons_zero, List.getElem?_cons_succ, Option.getD_some] at e80
      have e81 := hbaseF 81 (not_dst (by kernel_rfl))
      simp only [List.getElem?_toArray, List.getElem?_cons_zero, List.getElem?_cons_succ, Option.getD_some] at e81
      have e82 := hbaseF 82 (not_dst (by kernel_rfl))
      simp only [List.getElem?_toArray, List.getElem?_cons_zero, List.getElem?_cons_succ, Option.getD_some] at e82
      have e83 := hbaseF 83 (not_dst (by kernel_rfl))
      simp only [List.getElem?_toArray, List.getElem?_cons_zero, List.getElem?_cons_succ, Option.getD_some] at e83
      have e84 := hbaseF 84 (not_dst (by kernel_rfl))
      simp only [List.getElem?_toArray, List.getElem?_cons_zero, List.getElem?_cons_succ, Option.getD_some] at e84
      have e85 := hbaseF 85 (not_dst (by kernel_rfl))
      simp only [List.getElem?_toArray, List.getElem?_cons_zero, List.getElem?_cons_succ, Option.getD_some] at e85
      have e2 := hfactF 22 2 (by decide) rfl
      replace e2 : T[2]?.getD undef = .bool true := e2
      clear hbaseF hfactF
      have hT : T = #[T[0]?.getD undef, T[1]?.getD undef, T[2]?.getD undef, T[3]?.getD undef, T[4]?.getD undef, T[5]?.getD undef, T[6]?.getD undef, T[7]?.getD undef, T[8]?.getD undef, T[9]?.getD undef, T[10]?.getD undef, T[11]?.getD undef, T[12]?.getD undef, T[13]?.getD undef, T[14]?.getD undef, T[15]?.getD undef, T[16]?.getD undef, T[17]?.getD undef, T[18]?.getD undef, T[19]?.getD undef, T[20]?.getD undef, T[21]?.getD undef, T[22]?.getD undef, T[23]?.getD undef, T[24]?.getD undef, T[25]?.getD undef, T[26]?.getD undef, T[27]?.getD undef, T[28]?.getD undef, T[29]?.getD undef, T[30]?.getD undef, T[31]?.getD undef, T[32]?.getD undef, T[33]?.getD undef, T[34]?.getD undef, T[35]?.getD undef, T[36]?.getD undef, T[37]?.getD undef, T[38]?.getD undef, T[39]?.getD undef, T[40]?.getD undef, T[41]?.getD undef, T[42]?.getD undef, T[43]?.getD undef, T[44]?.getD undef, T[45]?.getD undef, T[46]?.getD undef, T[47]?.getD undef, T[48]?.getD undef, T[49]?.getD undef, T[50]?.getD undef, T[51]?.getD undef, T[52]?.getD undef, T[53]?.getD undef, T[54]?.getD undef, T[55]?.getD undef, T[56]?.getD undef, T[57]?.getD undef, T[58]?.getD undef, T[59]?.getD undef, T[60]?.getD undef, T[61]?.getD undef, T[62]?.getD undef, T[63]?.getD undef, T[64]?.getD undef, T[65]?.getD undef, T[66]?.getD undef, T[67]?.getD undef, T[68]?.getD undef, T[69]?.getD undef, T[70]?.getD undef, T[71]?.getD undef, T[72]?.getD undef, T[73]?.getD undef, T[74]?.getD undef, T[75]?.getD undef, T[76]?.getD undef, T[77]?.getD undef, T[78]?.getD undef, T[79]?.getD undef, T[80]?.getD undef, T[81]?.getD undef, T[82]?.getD undef, T[83]?.getD undef, T[84]?.getD undef, T[85]?.getD undef] := arr_eq T 86 hsF
      clear hsF
      rw [e0] at hT; clear e0
      rw [e1] at hT; clear e1
      rw [e2] at hT; clear e2
      rw [e3] at hT; clear e3
      rw [e4] at hT; clear e4
      rw [e5] at hT; clear e5
      rw [e6] at hT; clear e6
      rw [e7] at hT; clear e7
      rw [e8] at hT; clear e8
      rw [e9] at hT; clear e9
      rw [e10] at hT; clear e10
      rw [e11] at hT; clear e11
      rw [e12] at hT; clear e12
      rw [e13] at hT; clear e13
      rw [e14] at hT; clear e14
      rw [e15] at hT; clear e15
      rw [e16] at hT; clear e16
      rw [e17] at hT; clear e17
      rw [e18] at hT; clear e18
      rw [e19] at hT; clear e19
      rw [e20] at hT; clear e20
      rw [e21] at hT; clear e21
      rw [e22] at hT; clear e22
      generalize T[23]?.getD undef = u23 at hT
      generalize T[24]?.getD undef = u24 at hT
      generalize T[25]?.getD undef = u25 at hT
      generalize T[26]?.getD undef = u26 at hT
      generalize T[27]?.getD undef = u27 at hT
      generalize T[28]?.getD undef = u28 at hT
      generalize T[29]?.getD undef = u29 at hT
      generalize T[30]?.getD undef = u30 at hT
      generalize T[31]?.getD undef = u31 at hT
      generalize T[32]?.getD undef = u32 at hT
      generalize T[33]?.getD undef = u33 at hT
      generalize T[34]?.getD undef = u34 at hT
      generalize T[35]?.getD undef = u35 at hT
      generalize T[36]?.getD undef = u36 at hT
      generalize T[37]?.getD undef = u37 at hT
      generalize T[38]?.getD undef = u38 at hT
      generalize T[39]?.getD undef = u39 at hT
      generalize T[40]?.getD undef = u40 at hT
      generalize T[41]?.getD undef = u41 at hT
      generalize T[42]?.getD undef = u42 at hT
      generalize T[43]?.getD undef = u43 at hT
      generalize T[44]?.getD undef = u44 at hT
      rw [e45] at hT; clear e45
      rw [e46] at hT; clear e46
      rw [e47] at hT; clear e47
      rw [e48] at hT; clear e48
      rw [e49] at hT; clear e49
      rw [e50] at hT; clear e50
      rw [e51] at hT; clear e51
      rw [e52] at hT; clear e52
      rw [e53] at hT; clear e53
      rw [e54] at hT; clear e54
      rw [e55] at hT; clear e55
      rw [e56] at hT; clear e56
      rw [e57] at hT; clear e57
      rw [e58] at hT; clear e58
      rw [e59] at hT; clear e59
      rw [e60] at hT; clear e60
      rw [e61] at hT; clear e61
      rw [e62] at hT; clear e62
      rw [e63] at hT; clear e63
      rw [e64] at hT; clear e64
      rw [e65] at hT; clear e65
      rw [e66] at hT; clear e66
      rw [e67] at hT; clear e67
      rw [e68] at hT; clear e68
      rw [e69] at hT; clear e69
      rw [e70] at hT; clear e70
      rw [e71] at hT; clear e71
      rw [e72] at hT; clear e72
      rw [e73] at hT; clear e73
      rw [e74] at hT; clear e74
      rw [e75] at hT; clear e75
      rw [e76] at hT; clear e76
      rw [e77] at hT; clear e77
      rw [e78] at hT; clear e78
      rw [e79] at hT; clear e79
      rw [e80] at hT; clear e80
      rw [e81] at hT; clear e81
      rw [e82] at hT; clear e82
      rw [e83] at hT; clear e83
      rw [e84] at hT; clear e84
      rw [e85] at hT; clear e85
      subst hT
      go_wp2_with fail
      go_ret
      exact ⟨rfl, (by (have q_hbF := Below.size hbF; (try simp at q_hbF); have q_b4 := Below.size b4; (try simp at q_b4); repeat (first | exact Below.refl _ _ | (refine Below.trans ?_ (Below.mono hbF (by first | omega | (simp; omega) | simp))) | (refine Below.trans ?_ (Below.mono b4 (by first | omega | (simp; omega) | simp))) | (refine Below.setCell ?_ (by first | omega | (simp; omega) | simp) _) | (refine Below.alloc ?_ (by first | omega | (simp; omega) | simp) _) | apply Below.drew | apply below_drewN)))⟩
  | false =>
    have hs0 : sencR n f = if Y = true then encR n f else [] := by unfold sencR; rw [← HX.out, ← HY.out]; rfl
    have he0 : serrR n f = if Y = true then 0 else 1 := by unfold serrR; rw [← HX.out, ← HY.out]; rfl
    have HS0 := Lib.hid hs0
    have HE0 := Lib.hid he0
    clear hs0 he0
    cases Y with
    | false =>
      have hS2 : S = [] := by rw [HS.out, HS0.out]; rfl
      have hE2 : E = 1 := by rw [HE.out, HE0.out]; rfl
      subst hE2
      rw [hS2] at hF2
      obtain ⟨A2, c2, rfl, hR2, _, hn2, hm2⟩ := hF2.rdn 0 rfl
      clear hF2 hS2 HS0 HE0
      go_wp2_with (refine wpList_load_blk rfl 66 (.tmp 1) rfl w.heap.size 0 66 (hd n f) (hd n f) _ rfl H2 (hd_self n f) Try.underlying66 rfl (by kernel_rfl) ?_)
      refine (rrightR_any n f _ hf).mono ?_
      rintro e w3 ⟨rfl, hb3⟩
      rw [← HY.out]
      go_wp2_with fail
      refine (hawake_any _).mono ?_
      rintro e w4 ⟨rfl, hb4⟩
      go_wp2_with fail
      go_ret
      exact ⟨rfl, (by (have q_hb4 := Below.size hb4; (try simp at q_hb4); have q_hb3 := Below.size hb3; (try simp at q_hb3); have q_b2 := Below.size b2; (try simp at q_b2); repeat (first | exact Below.refl _ _ | (refine Below.trans ?_ (Below.mono hb4 (by first | omega | (simp; omega) | simp))) | (refine Below.trans ?_ (Below.mono hb3 (by first | omega | (simp; omega) | simp))) | (refine Below.trans ?_ (Below.mono b2 (by first | omega | (simp; omega) | simp))) | (refine Below.setCell ?_ (by first | omega | (simp; omega) | simp) _) | (refine Below.alloc ?_ (by first | omega | (simp; omega) | simp) _) | apply Below.drew | apply below_drewN)))⟩
    | true =>
      obtain ⟨L, hL⟩ : ∃ L, L = encR n f := ⟨_, rfl⟩
      obtain ⟨g1, g2, g3, g4⟩ := par_enc HY.out.symm hf
      have hS2 : S = L := by rw [HS.out, hL]; exact g3
      have hE2 : E = 0 := by rw [HE.out]; exact g4
      have hLl : L.length = 256 := by rw [hL]; exact encR_len n f
      subst hE2
      rw [hS2] at hF2
      rw [← hL] at g1 g2
      obtain ⟨A2, c2, rfl, hR2, _, hn2, hm2⟩ := hF2.rdn 256 hLl
      have HL := Lib.hid hL
      have HG1 := Lib.hid g1
      have HG2 := Lib.hid g2
      clear hF2 hS2 HS0 HE0 g1 g2 g3 g4 hL
      go_wp2_with (refine wpList_load_blk rfl 66 (.tmp 1) rfl w.heap.size 0 66 (hd n f) (hd n f) _ rfl H2 (hd_self n f) Try.underlying66 rfl (by kernel_rfl) ?_)
      refine (rrightR_any n f _ hf).mono ?_
      rintro e w3 ⟨rfl, hb3⟩
      rw [← HY.out]
      have H3 := H2.on hb3
      have hR3 := hR2.below hb3
      have b3 : Below w.heap.size w w3 := (by (have q_hb3 := Below.size hb3; (try simp at q_hb3); have q_b2 := Below.size b2; (try simp at q_b2); repeat (first | exact Below.refl _ _ | (refine Below.trans ?_ (Below.mono hb3 (by first | omega | (simp; omega) | simp))) | (refine Below.trans ?_ (Below.mono b2 (by first | omega | (simp; omega) | simp))) | (refine Below.setCell ?_ (by first | omega | (simp; omega) | simp) _) | (refine Below.alloc ?_ (by first | omega | (simp; omega) | simp) _) | apply Below.drew | apply below_drewN)))
      clear H2 hR2 hb3 b2 heq
      go_wp2_with fail
      refine (sparseR_any A2 256 c2 L w3 hR3 (by omega)).mono ?_
      rintro e w4 ⟨rfl, hb4⟩
      rw [HG1.out, HG2.out]
      have H4 := (H3.on hb4).alloc (.cells (hd n f) 70)
      have hR4 := (hR3.below hb4).alloc (.cells (hd n f) 70)
      have H5 := Blk.new w4 70 (hd n f)
      have b4 : Below w.heap.size w (w4.alloc (.cells (hd n f) 70)) := (by (have q_hb4 := Below.size hb4; (try simp at q_hb4); have q_b3 := Below.size b3; (try simp at q_b3); repeat (first | exact Below.refl _ _ | (refine Below.trans ?_ (Below.mono hb4 (by first | omega | (simp; omega) | simp))) | (refine Below.trans ?_ (Below.mono b3 (by first | omega | (simp; omega) | simp))) | (refine Below.setCell ?_ (by first | omega | (simp; omega) | simp) _) | (refine Below.alloc ?_ (by first | omega | (simp; omega) | simp) _) | apply Below.drew | apply below_drewN)))
      clear H3 hR3 hb4 b3
      go_wp2_with fail
      refine wp_flows [(fun y_ _ => y_ = .int .i64 0), (fun y_ _ => y_ = .bool true), (fun y_ _ => y_ = .bool true), (fun y_ _ => y_ = .slice A2 256 c2), (fun y_ _ => y_ = .string (str (L))), (fun y_ _ => y_ = .agg (hd n f)), (IsB (256) (L)), (fun y_ _ => y_ = .string (str (L))), (fun y_ _ => y_ = .bool true), (fun y_ _ => y_ = .bool true), (fun y_ _ => y_ = .bool true), (fun y_ _ => y_ = .int .i64 0), (fun y_ _ => y_ = .bool true), (fun y_ _ => y_ = .bool true), (fun y_ _ => y_ = .bool true), (fun y_ _ => y_ = .agg (hd n f)), (fun y_ _ => y_ = .agg (hd n f)), (fun y_ _ => y_ = .agg (hd n f)), (fun y_ _ => y_ = .bool true), (fun y_ _ => y_ = .bool true), (fun y_ _ => y_ = .bool true), (fun y_ _ => y_ = .bool true), (fun y_ _ => y_ = .bool true), (fun y_ _ => y_ = .bool true)] (by kernel_rfl) ⟨Stab.eq _, Stab.eq _, Stab.eq _, Stab.eq _, Stab.eq _, Stab.eq _, Stab.b _ _, Stab.eq _, Stab.eq _, Stab.eq _, Stab.eq _, Stab.eq _, Stab.eq _, Stab.eq _, Stab.eq _, Stab.eq _, Stab.eq _, Stab.eq _, Stab.eq _, Stab.eq _, Stab.eq _, Stab.eq _, Stab.eq _, Stab.eq _, trivial⟩ (by kernel_rfl) (by rfl) ?_ ?_
      · intro kq hkq
        match kq, hkq with
        | 0, _ =>
          refine StepOk.plain _ 63 rfl rfl rfl [(4, none)] (by kernel_rfl) (fun af wf hbw hf Kf hKf => ?_)
          obtain ⟨g4, _⟩ := hf
          have h4 : af.tmps[4]?.getD undef = .int .i64 0 := g4
          clear g4
          go_simp
          exact hKf _ _ (Below.refl _ _) rfl
        | 1, _ =>
          refine StepOk.plain _ 64 rfl rfl rfl [(63, some 0)] (by kernel_rfl) (fun af wf hbw hf Kf hKf => ?_)
          obtain ⟨g63, _⟩ := hf
          have h63 : af.tmps[63]?.getD undef = .int .i64 0 := g63
          clear g63
          go_simp
          exact hKf _ _ (Below.refl _ _) rfl
        | 2, _ =>
          refine StepOk.plain _ 65 rfl rfl rfl [(64, some 1)] (by kernel_rfl) (fun af wf hbw hf Kf hKf => ?_)
          obtain ⟨g64, _⟩ := hf
          have h64 : af.tmps[64]?.getD undef = .bool true := g64
          clear g64
          go_simp
          exact hKf _ _ (Below.refl _ _) rfl
        | 3, _ =>
          refine StepOk.yes _ 66 rfl rfl rfl rfl (fun _ _ h => h) [(3, none)] (by kernel_rfl) (fun af wf hbw hf Kf hKf => ?_)
          obtain ⟨g3, _⟩ := hf
          have h3 : af.tmps[3]?.getD undef = .slice A2 256 c2 := g3
          clear g3
          go_simp
          exact hKf _ _ (Below.refl _ _) rfl
        | 4, _ =>
          refine StepOk.yes _ 67 rfl rfl rfl rfl (fun _ _ h => h) [(66, some 3)] (by kernel_rfl) (fun af wf hbw hf Kf hKf => ?_)
          obtain ⟨g66, _⟩ := hf
          have h66 : af.tmps[66]?.getD undef = .slice A2 256 c2 := g66
          clear g66
          have hcv := conv c2 _ (Rd.below (Rd.drew (hR4)) hbw)
          go_simp
          exact hKf _ _ (Below.refl _ _) rfl
        | 5, _ =>
          refine StepOk.yes _ 68 rfl rfl rfl rfl (fun _ _ h => h) [(1, none)] (by kernel_rfl) (fun af wf hbw hf Kf hKf => ?_)
          obtain ⟨g1, _⟩ := hf
          have h1 : af.tmps[1]?.getD undef = .pointer (some ⟨w.heap.size, 0, none⟩) := g1
          clear g1
          refine wp_load_blk 66 (.tmp 1) rfl w.heap.size 0 66 (hd n f) (hd n f) _ (by simp [Act.eval, h1]) (Blk.on (Blk.drew H4) hbw) (hd_self n f) Try.underlying66 rfl (by kernel_rfl) ?_
          exact hKf _ _ ((Below.refl _ _)) (rfl)
        | 6, _ =>
          refine StepOk.yes _ 69 rfl rfl rfl rfl (fun _ _ h => h) [(68, some 5)] (by kernel_rfl) (fun af wf hbw hf Kf hKf => ?_)
          obtain ⟨g68, _⟩ := hf
          have h68 : af.tmps[68]?.getD undef = .agg (hd n f) := g68
          clear g68
          go_simp
          refine (rbytesR_any n f _ n0 n1 hf).mono ?_
          rintro e wN ⟨v6, rfl, hF6, hb6⟩
          exact hKf _ _ (hb6) ((isB_of (by rw [HL.out]; exact hF6) hLl))
        | 7, _ =>
          refine StepOk.yes _ 70 rfl rfl rfl rfl (fun _ _ h => h) [(69, some 6)] (by kernel_rfl) (fun af wf hbw hf Kf hKf => ?_)
          obtain ⟨g69, _⟩ := hf
          obtain ⟨A69, c69, h69, hR69, hn69, hm69⟩ : IsB (256) (L) (af.tmps[69]?.getD undef) wf := g69
          have hcv := conv c69 _ hR69
          go_simp
          exact hKf _ _ (Below.refl _ _) rfl
        | 8, _ =>
          refine StepOk.yes _ 71 rfl rfl rfl rfl (fun _ _ h => h) [(67, some 4), (70, some 7)] (by kernel_rfl) (fun af wf hbw hf Kf hKf => ?_)
          obtain ⟨g67, g70, _⟩ := hf
          have h67 : af.tmps[67]?.getD undef = .string (str (L)) := g67
          have h70 : af.tmps[70]?.getD undef = .string (str (L)) := g70
          clear g67 g70
          have hq : ((str L).toList == (str L).toList) = true := by simp
          go_simp
          exact hKf _ _ (Below.refl _ _) rfl
        | 9, _ =>
          refine StepOk.plain _ 72 rfl rfl rfl [(65, some 2), (71, some 8)] (by kernel_rfl) (fun af wf hbw hf Kf hKf => ?_)
          obtain ⟨g65, g71, _⟩ := hf
          have h65 : af.tmps[65]?.getD undef = .bool true := g65
          have h71 : af.tmps[71]?.getD undef = .bool true := g71
          clear g65 g71
          go_simp
          exact hKf _ _ (Below.refl _ _) rfl
        | 10, _ =>
          refine StepOk.plain _ 73 rfl rfl rfl [(72, some 9)] (by kernel_rfl) (fun af wf hbw hf Kf hKf => ?_)
          obtain ⟨g72, _⟩ := hf
          have h72 : af.tmps[72]?.getD undef = .bool true := g72
          clear g72
          go_simp
          exact hKf _ _ (Below.refl _ _) rfl
        | 11, _ =>
          refine StepOk.yes _ 74 rfl rfl rfl rfl (fun _ _ h => h) [(8, none)] (by kernel_rfl) (fun af wf hbw hf Kf hKf => ?_)
          obtain ⟨g8, _⟩ := hf
          have h8 : af.tmps[8]?.getD undef = .int .i64 0 := g8
          clear g8
          go_simp
          exact hKf _ _ (Below.refl _ _) rfl
        | 12, _ =>
          refine StepOk.yes _ 75 rfl rfl rfl rfl (fun _ _ h => h) [(74, some 11)] (by kernel_rfl) (fun af wf hbw hf Kf hKf => ?_)
          obtain ⟨g74, _⟩ := hf
          have h74 : af.tmps[74]?.getD undef = .int .i64 0 := g74
          clear g74
          go_simp
          exact hKf _ _ (Below.refl _ _) rfl
        | 13, _ =>
          refine StepOk.plain _ 76 rfl rfl rfl [(73, some 10), (75, some 12)] (by kernel_rfl) (fun af wf hbw hf Kf hKf => ?_)
          obtain ⟨g73, g75, _⟩ := hf
          have h73 : af.tmps[73]?.getD undef = .bool true := g73
          have h75 : af.tmps[75]?.getD undef = .bool true := g75
          clear g73 g75
          go_simp
          exact hKf _ _ (Below.refl _ _) rfl
        | 14, _ =>
          refine StepOk.plain _ 77 rfl rfl rfl [(76, some 13)] (by kernel_rfl) (fun af wf hbw hf Kf hKf => ?_)
          obtain ⟨g76, _⟩ := hf
          have h76 : af.tmps[76]?.getD undef = .bool true := g76
          clear g76
          go_simp
          exact hKf _ _ (Below.refl _ _) rfl
        | 15, _ =>
          refine StepOk.yes _ 78 rfl rfl rfl rfl (fun _ _ h => h) [(7, none)] (by kernel_rfl) (fun af wf hbw hf Kf hKf => ?_)
          obtain ⟨g7, _⟩ := hf
          have h7 : af.tmps[7]?.getD undef = .pointer (some ⟨w4.heap.size, 0, none⟩) := g7
          clear g7
          refine wp_load_blk 70 (.tmp 7) rfl w4.heap.size 0 70 (hd n f) (hd n f) _ (by simp [Act.eval, h7]) (Blk.on (Blk.drew H5) hbw) (hd_self n f) Try.underlying70 rfl (by kernel_rfl) ?_
          exact hKf _ _ ((Below.refl _ _)) (rfl)
        | 16, _ =>
          refine StepOk.yes _ 79 rfl rfl rfl rfl (fun _ _ h => h) [(78, some 15)] (by kernel_rfl) (fun af wf hbw hf Kf hKf => ?_)
          obtain ⟨g78, _⟩ := hf
          have h78 : af.tmps[78]?.getD undef = .agg (hd n f) := g78
          clear g78
          go_simp
          refine (plainR_any n f _).mono ?_
          rintro e wN ⟨rfl, hb⟩
          exact hKf _ _ (hb) (rfl)
        | 17, _ =>
          refine StepOk.yes _ 80 rfl rfl rfl rfl (fun _ _ h => h) [(1, none)] (by kernel_rfl) (fun af wf hbw hf Kf hKf => ?_)
          obtain ⟨g1, _⟩ := hf
          have h1 : af.tmps[1]?.getD undef = .pointer (some ⟨w.heap.size, 0, none⟩) := g1
          clear g1
          refine wp_load_blk 66 (.tmp 1) rfl w.heap.size 0 66 (hd n f) (hd n f) _ (by simp [Act.eval, h1]) (Blk.on (Blk.drew H4) hbw) (hd_self n f) Try.underlying66 rfl (by kernel_rfl) ?_
          exact hKf _ _ ((Below.refl _ _)) (rfl)
        | 18, _ =>
          refine StepOk.yes _ 81 rfl rfl rfl rfl (fun _ _ h => h) [(79, some 16), (80, some 17)] (by kernel_rfl) (fun af wf hbw hf Kf hKf => ?_)
          obtain ⟨g79, g80, _⟩ := hf
          have h79 : af.tmps[79]?.getD undef = .agg (hd n f) := g79
          have h80 : af.tmps[80]?.getD undef = .agg (hd n f) := g80
          clear g79 g80
          have heq1 := eq_same n f
          go_simp
          exact hKf _ _ (Below.refl _ _) rfl
        | 19, _ =>
          refine StepOk.plain _ 82 rfl rfl rfl [(77, some 14), (81, some 18)] (by kernel_rfl) (fun af wf hbw hf Kf hKf => ?_)
          obtain ⟨g77, g81, _⟩ := hf
          have h77 : af.tmps[77]?.getD undef = .bool true := g77
          have h81 : af.tmps[81]?.getD undef = .bool true := g81
          clear g77 g81
          go_simp
          exact hKf _ _ (Below.refl _ _) rfl
        | 20, _ =>
          refine StepOk.plain _ 83 rfl rfl rfl [(82, some 19)] (by kernel_rfl) (fun af wf hbw hf Kf hKf => ?_)
          obtain ⟨g82, _⟩ := hf
          have h82 : af.tmps[82]?.getD undef = .bool true := g82
          clear g82
          go_simp
          exact hKf _ _ (Below.refl _ _) rfl
        | 21, _ =>
          refine StepOk.yes _ 84 rfl rfl rfl rfl (fun _ _ h => h) [] (by kernel_rfl) (fun af wf hbw hf Kf hKf => ?_)
          go_simp
          refine (hawake_any _).mono ?_
          rintro e wN ⟨rfl, hb⟩
          exact hKf _ _ (hb) (rfl)
        | 22, _ =>
          refine StepOk.plain _ 85 rfl rfl rfl [(83, some 20), (84, some 21)] (by kernel_rfl) (fun af wf hbw hf Kf hKf => ?_)
          obtain ⟨g83, g84, _⟩ := hf
          have h83 : af.tmps[83]?.getD undef = .bool true := g83
          have h84 : af.tmps[84]?.getD undef = .bool true := g84
          clear g83 g84
          go_simp
          exact hKf _ _ (Below.refl _ _) rfl
        | 23, _ =>
          refine StepOk.plain _ 2 rfl rfl rfl [(85, some 22)] (by kernel_rfl) (fun af wf hbw hf Kf hKf => ?_)
          obtain ⟨g85, _⟩ := hf
          have h85 : af.tmps[85]?.getD undef = .bool true := g85
          clear g85
          go_simp
          exact hKf _ _ (Below.refl _ _) rfl
        | i + 24, h => exact absurd h (by show ¬ (i + 24 < 24); omega)
      · intro af wF hbF hdF hsF hbaseF hfactF
        obtain ⟨T, dsF⟩ := af
        obtain rfl : dsF = _ := hdF
        have e0 := hbaseF 0 (not_dst (by kernel_rfl))
        simp only [List.getElem?_toArray, List.getElem?_cons_zero, Option.getD_some] at e0
        have e1 := hbaseF 1 (not_dst (by kernel_rfl))
        simp only [List.getElem?_toArray, List.getElem?_cons_zero, List.getElem?_cons_succ, Option.getD_some] at e1
        have e3 := hbaseF 3 (not_dst (by kernel_rfl))
        simp only [List.getElem?_toArray, List.getElem?_cons_zero, List.getElem?_cons_succ, Option.getD_some] at e3
        have e4 := hbaseF 4 (not_dst (by kernel_rfl))
        simp only [List.getElem?_toArray, List.getElem?_cons_zero, List.getElem?_cons_succ, Option.getD_some] at e4
        have e5 := hbaseF 5 (not_dst (by kernel_rfl))
        simp only [List.getElem?_toArray, List.getElem?_cons_zero, List.getElem?_cons_succ, Option.getD_some] at e5
        have e6 := hbaseF 6 (not_dst (by kernel_rfl))
        simp only [List.getElem?_toArray, List.getElem?_cons_zero, List.getElem?_cons_succ, Option.getD_some] at e6
        have e7 := hbaseF 7 (not_dst (by kernel_rfl))
        simp only [List.getElem?_toArray, List.getElem?_cons_zero, List.getElem?_cons_succ, Option.getD_some] at e7
        have e8 := hbaseF 8 (not_dst (by kernel_rfl))
        simp only [List.getElem?_toArray, List.getElem?_cons_zero, List.getElem?_cons_succ, Option.getD_some] at e8
        have e9 := hbaseF 9 (not_dst (by kernel_rfl))
        simp only [List.getElem?_toArray, List.getElem?_cons_zero, List.getElem?_cons_succ, Option.getD_some] at e9
        have e10 := hbaseF 10 (not_dst (by kernel_rfl))
        simp only [List.getElem?_toArray, List.getElem?_cons_zero, List.getElem?_cons_succ, Option.getD_some] at e10
        have e11 := hbaseF 11 (not_dst (by kernel_rfl))
        simp only [List.getElem?_toArray, List.getElem?_cons_zero, List.getElem?_cons_succ, Option.getD_some] at e11
        have e12 := hbaseF 12 (not_dst (by kernel_rfl))
        simp only [List.getElem?_toArray, List.getElem?_cons_zero, List.getElem?_cons_succ, Option.getD_some] at e12
        have e13 := hbaseF 13 (not_dst (by kernel_rfl))
        simp only [List.getElem?_toArray, List.getElem?_cons_zero, List.getElem?_cons_succ, Option.getD_some] at e13
        have e14 := hbaseF 14 (not_dst (by kernel_rfl))
        simp only [List.getElem?_toArray, List.getElem?_cons_zero, List.getElem?_cons_succ, Option.getD_some] at e14
        have e15 := hbaseF 15 (not_dst (by kernel_rfl))
        simp only [List.getElem?_toArray, List.getElem?_cons_zero, List.getElem?_cons_succ, Option.getD_some] at e15
        have e16 := hbaseF 16 (not_dst (by kernel_rfl))
        simp only [List.getElem?_toArray, List.getElem?_cons_zero, List.getElem?_cons_succ, Option.getD_some] at e16
        have e17 := hbaseF 17 (not_dst (by kernel_rfl))
        simp only [List.getElem?_toArray, List.getElem?_cons_zero, List.getElem?_cons_succ, Option.getD_some] at e17
        have e18 := hbaseF 18 (not_dst (by kernel_rfl))
        simp only [List.getElem?_toArray, List.getElem?_cons_zero, List.getElem?_cons_succ, Option.getD_some] at e18
        have e19 := hbaseF 19 (not_dst (by kernel_rfl))
        simp only [List.getElem?_toArray, List.getElem?_cons_zero, List.getElem?_cons_succ, Option.getD_some] at e19
        have e20 := hbaseF 20 (not_dst (by kernel_rfl))
        simp only [List.getElem?_toArray, List.getElem?_cons_zero, List.getElem?_cons_succ, Option.getD_some] at e20
        have e21 := hbaseF 21 (not_dst (by kernel_rfl))
        simp only [List.getElem?_toArray, List.getElem?_cons_zero, List.getElem?_cons_succ, Option.getD_some] at e21
        have e22 := hbaseF 22 (not_dst (by kernel_rfl))
        simp only [List.getElem?_toArray, List.getElem?_cons_zero, List.getElem?_cons_succ, Option.getD_some] at e22
        have e23 := hbaseF 23 (not_dst (by kernel_rfl))
        simp only [List.getElem?_toArray, List.getElem?_cons_zero, List.getElem?_cons_succ, Option.getD_some] at e23
        have e24 := hbaseF 24 (not_dst (by kernel_rfl))
        simp only [List.getElem?_toArray, List.getElem?_cons_zero, List.getElem?_cons_succ, Option.getD_some] at e24
        have e25 := hbaseF 25 (not_dst (by kernel_rfl))
        simp only [List.getElem?_toArray, List.getElem?_cons_zero, List.getElem?_cons_succ, Option.getD_some] at e25
        have e26 := hbaseF 26 (not_dst (by kernel_rfl))
        simp only [List.getElem?_toArray, List.getElem?_cons_zero, List.getElem?_cons_succ, Option.getD_some] at e26
        have e27 := hbaseF 27 (not_dst (by kernel_rfl))
        simp only [List.getElem?_toArray, List.getElem?_cons_zero, List.getElem?_cons_succ, Option.getD_some] at e27
        have e28 := hbaseF 28 (not_dst (by kernel_rfl))
        simp only [List.getElem?_toArray, List.getElem?_cons_zero, List.getElem?_cons_succ, Option.getD_some] at e28
        have e29 := hbaseF 29 (not_dst (by kernel_rfl))
        simp only [List.getElem?_toArray, List.getElem?_cons_zero, List.getElem?_cons_succ, Option.getD_some] at e29
        have e30 := hbaseF 30 (not_dst (by kernel_rfl))
        simp only [List.getElem?_toArray, List.getElem?_cons_zero, List.getElem?_cons_succ, Option.getD_some] at e30
        have e31 := hbaseF 31 (not_dst (by kernel_rfl))
        simp only [List.getElem?_toArray, List.getElem?_cons_zero, List.getElem?_cons_succ, Option.getD_some] at e31
        have e32 := hbaseF 32 (not_dst (by kernel_rfl))
        simp only [List.getElem?_toArray, List.getElem?_cons_zero, List.getElem?_cons_succ, Option.getD_some] at e32
        have e33 := hbaseF 33 (not_dst (by kernel_rfl))
        simp only [List.getElem?_toArray, List.getElem?_cons_zero, List.getElem?_cons_succ, Option.getD_some] at e33
        have e34 := hbaseF 34 (not_dst (by kernel_rfl))
        simp only [List.getElem?_toArray, List.getElem?_cons_zero, List.getElem?_cons_succ, Option.getD_some] at e34
        have e35 := hbaseF 35 (not_dst (by kernel_rfl))
        simp only [List.getElem?_toArray, List.getElem?_cons_zero, List.getElem?_cons_succ, Option.getD_some] at e35
        have e36 := hbaseF 36 (not_dst (by kernel_rfl))
        simp only [List.getElem?_toArray, List.getElem?_cons_zero, List.getElem?_cons_succ, Option.getD_some] at e36
        have e37 := hbaseF 37 (not_dst (by kernel_rfl))
        simp only [List.getElem?_toArray, List.getElem?_cons_zero, List.getElem?_cons_succ, Option.getD_some] at e37
        have e38 := hbaseF 38 (not_dst (by kernel_rfl))
        simp only [List.getElem?_toArray, List.getElem?_cons_zero, List.getElem?_cons_succ, Option.getD_some] at e38
        have e39 := hbaseF 39 (not_dst (by kernel_rfl))
        simp only [List.getElem?_toArray, List.getElem?_cons_zero, List.getElem?_cons_succ, Option.getD_some] at e39
        have e40 := hbaseF 40 (not_dst (by kernel_rfl))
        simp only [List.getElem?_toArray, List.getElem?_cons_zero, List.getElem?_cons_succ, Option.getD_some] at e40
        have e41 := hbaseF 41 (not_dst (by kernel_rfl))
        simp only [List.getElem?_toArray, List.getElem?_cons_zero, List.getElem?_cons_succ, Option.getD_some] at e41
        have e42 := hbaseF 42 (not_dst (by kernel_rfl))
        simp only [List.getElem?_toArray, List.getElem?_cons_zero, List.getElem?_cons_succ, Option.getD_some] at e42
        have e43 := hbaseF 43 (not_dst (by kernel_rfl))
        simp only [List.getElem?_toArray, List.getElem?_cons_zero, List.getElem?_cons_succ, Option.getD_some] at e43
        have e44 := hbaseF 44 (not_dst (by kernel_rfl))
        simp only [List.getElem?_toArray, List.getElem?_cons_zero, List.getElem?_cons_succ, Option.getD_some] at e44
        have e45 := hbaseF 45 (not_dst (by kernel_rfl))
        simp only [List.getElem?_toArray, List.getElem?_cons_zero, List.getElem?_cons_succ, Option.getD_some] at e45
        have e46 := hbaseF 46 (not_dst (by kernel_rfl))
        simp only [List.getElem?_toArray, List.getElem?_cons_zero, List.getElem?_cons_succ, Option.getD_some] at e46
        have e47 := hbaseF 47 (not_dst (by kernel_rfl))
        simp only [List.getElem?_toArray, List.getElem?_cons_zero, List.getElem?_cons_succ, Option.getD_some] at e47
        have e48 := hbaseF 48 (not_dst (by kernel_rfl))
        simp only [List.getElem?_toArray, List.getElem?_cons_zero, List.getElem?_cons_succ, Option.getD_some] at e48
        have e49 := hbaseF 49 (not_dst (by kernel_rfl))
        simp only [List.getElem?_toArray, List.getElem?_cons_zero, List.getElem?_cons_succ, Option.getD_some] at e49
        have e50 := hbaseF 50 (not_dst (by kernel_rfl))
        simp only [List.getElem?_toArray, List.getElem?_cons_zero, List.getElem?_cons_succ, Option.getD_some] at e50
        have e51 := hbaseF 51 (not_dst (by kernel_rfl))
        simp only [List.getElem?_toArray, List.getElem?_cons_zero, List.getElem?_cons_succ, Option.getD_some] at e51
        have e52 := hbaseF 52 (not_dst (by kernel_rfl))
        simp only [List.getElem?_toArray, List.getElem?_cons_zero, List.getElem?_cons_succ, Option.getD_some] at e52
        have e53 := hbaseF 53 (not_dst (by kernel_rfl))
        simp only [List.getElem?_toArray, List.getElem?_cons_zero, List.getElem?_cons_succ, Option.getD_some] at e53
        have e54 := hbaseF 54 (not_dst (by kernel_rfl))
        simp only [List.getElem?_toArray, List.getElem?_cons_zero, List.getElem?_cons_succ, Option.getD_some] at e54
        have e55 := hbaseF 55 (not_dst (by kernel_rfl))
        simp only [List.getElem?_toArray, List.getElem?_cons_zero, List.getElem?_cons_succ, Option.getD_some] at e55
        have e56 := hbaseF 56 (not_dst (by kernel_rfl))
        simp only [List.getElem?_toArray, List.getElem?_cons_zero, List.getElem?_cons_succ, Option.getD_some] at e56
        have e57 := hbaseF 57 (not_dst (by kernel_rfl))
        simp only [List.getElem?_toArray, List.getElem?_cons_zero, List.getElem?_cons_succ, Option.getD_some] at e57
        have e58 := hbaseF 58 (not_dst (by kernel_rfl))
        simp only [List.getElem?_toArray, List.getElem?_cons_zero, List.getElem?_cons_succ, Option.getD_some] at e58
        have e59 := hbaseF 59 (not_dst (by kernel_rfl))
        simp only [List.getElem?_toArray, List.getElem?_cons_zero, List.getElem?_cons_succ, Option.getD_some] at e59
        have e60 := hbaseF 60 (not_dst (by kernel_rfl))
        simp only [List.getElem?_toArray, List.getElem?_cons_zero, List.getElem?_cons_succ, Option.getD_some] at e60
        have e61 := hbaseF 61 (not_dst (by kernel_rfl))
        simp only [List.getElem?_toArray, List.getElem?_cons_zero, List.getElem?_cons_succ, Option.getD_some] at e61
        have e62 := hbaseF 62 (not_dst (by kernel_rfl))
        simp only [List.getElem?_toArray, List.getElem?_cons_zero, List.getElem?_cons_succ, Option.getD_some] at e62
        have e2 := hfactF 23 2 (by decide) rfl
        replace e2 : T[2]?.getD undef = .bool true := e2
        clear hbaseF hfactF
        have hT : T = #[T[0]?.getD undef, T[1]?.getD undef, T[2]?.getD undef, T[3]?.getD undef, T[4]?.getD undef, T[5]?.getD undef, T[6]?.getD undef, T[7]?.getD undef, T[8]?.getD undef, T[9]?.getD undef, T[10]?.getD undef, T[11]?.getD undef, T[12]?.getD undef, T[13]?.getD undef, T[14]?.getD undef, T[15]?.getD undef, T[16]?.getD undef, T[17]?.getD undef, T[18]?.getD undef, T[19]?.getD undef, T[20]?.getD undef, T[21]?.getD undef, T[22]?.getD undef, T[23]?.getD undef, T[24]?.getD undef, T[25]?.getD undef, T[26]?.getD undef, T[27]?.getD undef, T[28]?.getD undef, T[29]?.getD undef, T[30]?.getD undef, T[31]?.getD undef, T[32]?.getD undef, T[33]?.getD undef, T[34]?.getD undef, T[35]?.getD undef, T[36]?.getD undef, T[37]?.getD undef, T[38]?.getD undef, T[39]?.getD undef, T[40]?.getD undef, T[41]?.getD undef, T[42]?.getD undef, T[43]?.getD undef, T[44]?.getD undef, T[45]?.getD undef, T[46]?.getD undef, T[47]?.getD undef, T[48]?.getD undef, T[49]?.getD undef, T[50]?.getD undef, T[51]?.getD undef, T[52]?.getD undef, T[53]?.getD undef, T[54]?.getD undef, T[55]?.getD undef, T[56]?.getD undef, T[57]?.getD undef, T[58]?.getD undef, T[59]?.getD undef, T[60]?.getD undef, T[61]?.getD undef, T[62]?.getD undef, T[63]?.getD undef, T[64]?.getD undef, T[65]?.getD undef, T[66]?.getD undef, T[67]?.getD undef, T[68]?.getD undef, T[69]?.getD undef, T[70]?.getD undef, T[71]?.getD undef, T[72]?.getD undef, T[73]?.getD undef, T[74]?.getD undef, T[75]?.getD undef, T[76]?.getD undef, T[77]?.getD undef, T[78]?.getD undef, T[79]?.getD undef, T[80]?.getD undef, T[81]?.getD undef, T[82]?.getD undef, T[83]?.getD undef, T[84]?.getD undef, T[85]?.getD undef] := arr_eq T 86 hsF
        clear hsF
        rw [e0] at hT; clear e0
        rw [e1] at hT; clear e1
        rw [e2] at hT; clear e2
        rw [e3] at hT; clear e3
        rw [e4] at hT; clear e4
        rw [e5] at hT; clear e5
        rw [e6] at hT; clear e6
        rw [e7] at hT; clear e7
        rw [e8] at hT; clear e8
        rw [e9] at hT; clear e9
        rw [e10] at hT; clear e10
        rw [e11] at hT; clear e11
        rw [e12] at hT; clear e12
        rw [e13] at hT; clear e13
        rw [e14] at hT; clear e14
        rw [e15] at hT; clear e15
        rw [e16] at hT; clear e16
        rw [e17] at hT; clear e17
        rw [e18] at hT; clear e18
        rw [e19] at hT; clear e19
        rw [e20] at hT; clear e20
        rw [e21] at hT; clear e21
        rw [e22] at hT; clear e22
        rw [e23] at hT; clear e23
        rw [e24] at hT; clear e24
        rw [e25] at hT; clear e25
        rw [e26] at hT; clear e26
        rw [e27] at hT; clear e27
        rw [e28] at hT; clear e28
        rw [e29] at hT; clear e29
        rw [e30] at hT; clear e30
        rw [e31] at hT; clear e31
        rw [e32] at hT; clear e32
        rw [e33] at hT; clear e33
        rw [e34] at hT; clear e34
        rw [e35] at hT; clear e35
        rw [e36] at hT; clear e36
        rw [e37] at hT; clear e37
        rw [e38] at hT; clear e38
        rw [e39] at hT; clear e39
        rw [e40] at hT; clear e40
        rw [e41] at hT; clear e41
        rw [e42] at hT; clear e42
        rw [e43] at hT; clear e43
        rw [e44] at hT; clear e44
        rw [e45] at hT; clear e45
        rw [e46] at hT; clear e46
        rw [e47] at hT; clear e47
        rw [e48] at hT; clear e48
        rw [e49] at hT; clear e49
        rw [e50] at hT; clear e50
        rw [e51] at hT; clear e51
        rw [e52] at hT; clear e52
        rw [e53] at hT; clear e53
        rw [e54] at hT; clear e54
        rw [e55] at hT; clear e55
        rw [e56] at hT; clear e56
        rw [e57] at hT; clear e57
        rw [e58] at hT; clear e58
        rw [e59] at hT; clear e59
        rw [e60] at hT; clear e60
        rw [e61] at hT; clear e61
        rw [e62] at hT; clear e62
        generalize T[63]?.getD undef = u63 at hT
        generalize T[64]?.getD undef = u64 at hT
        generalize T[65]?.getD undef = u65 at hT
        generalize T[66]?.getD undef = u66 at hT
        generalize T[67]?.getD undef = u67 at hT
        generalize T[68]?.getD undef = u68 at hT
        generalize T[69]?.getD undef = u69 at hT
        generalize T[70]?.getD undef = u70 at hT
        generalize T[71]?.getD undef = u71 at hT
        generalize T[72]?.getD undef = u72 at hT
        generalize T[73]?.getD undef = u73 at hT
        generalize T[74]?.getD undef = u74 at hT
        generalize T[75]?.getD undef = u75 at hT
        generalize T[76]?.getD undef = u76 at hT
        generalize T[77]?.getD undef = u77 at hT
        generalize T[78]?.getD undef = u78 at hT
        generalize T[79]?.getD undef = u79 at hT
        generalize T[80]?.getD undef = u80 at hT
        generalize T[81]?.getD undef = u81 at hT
        generalize T[82]?.getD undef = u82 at hT
        generalize T[83]?.getD undef = u83 at hT
        generalize T[84]?.getD undef = u84 at hT
        generalize T[85]?.getD undef = u85 at hT
        subst hT
        go_wp2_with fail
        go_ret
        exact ⟨rfl, (by (have q_hbF := Below.size hbF; (try simp at q_hbF); have q_b4 := Below.size b4; (try simp at q_b4); repeat (first | exact Below.refl _ _ | (refine Below.trans ?_ (Below.mono hbF (by first | omega | (simp; omega) | simp))) | (refine Below.trans ?_ (Below.mono b4 (by first | omega | (simp; omega) | simp))) | (refine Below.setCell ?_ (by first | omega | (simp; omega) | simp) _) | (refine Below.alloc ?_ (by first | omega | (simp; omega) | simp) _) | apply Below.drew | apply below_drewN)))⟩
end Go.Proofs.Ytdnjlhcmihmgdaa
