/- Scripts: are two acts, or two scripts, the same, or like one another? -/
import Derived.Test.YthlgagjnlnakkaaScript2
import Derived.Laws.StructEq
namespace Go.Proofs.Ythlgagjnlnakkaa
open Go.RowKit

abbrev actV (f1 : Int) (f2 : Bool) (f3 f4 f5 f6 : Int) (A : Option Addr) (n c : Nat) : Value := .agg #[.int .i64 f1, .bool f2, .int .i64 f3, .int .i64 f4, .int .i64 f5, .int .i64 f6, .slice A n c]
abbrev restV (f1 : Int) (f2 : Bool) (f3 f4 f5 f6 : Int) (n : Nat) : Value := .agg #[.int .i64 f1, .int .i64 f3, .int .i64 f4, .int .i64 f5, .int .i64 f6, .int .i64 (n : Int), .bool f2]

theorem rest_any (f1 : Int) (f2 : Bool) (f3 f4 f5 f6 : Int) (A : Option Addr) (n c : Nat) (w : World) :
    Calls Try.prog 39 #[actV f1 f2 f3 f4 f5 f6 A n c] w fun e w' => e = .returned (restV f1 f2 f3 f4 f5 f6 n) ∧ Below w.heap.size w w' := by
  go_enter Try.func39, Try.ntmps39
  go_wp2_with fail
  have R1 : Blk ((w.alloc (.cells #[.int .i64 f1, .bool f2, .int .i64 f3, .int .i64 f4, .int .i64 f5, .int .i64 f6, .slice A n c] 34)).alloc (.cells #[.int .i64 f1, .int .i64 f3, .int .i64 f4, .int .i64 f5, .int .i64 f6, .int .i64 (n : Int), .bool f2] 69)) (w.heap.size + 1) 69 #[.int .i64 f1, .int .i64 f3, .int .i64 f4, .int .i64 f5, .int .i64 f6, .int .i64 (n : Int), .bool f2] := by simpa using Blk.new (w.alloc (.cells #[.int .i64 f1, .bool f2, .int .i64 f3, .int .i64 f4, .int .i64 f5, .int .i64 f6, .slice A n c] 34)) 69 #[.int .i64 f1, .int .i64 f3, .int .i64 f4, .int .i64 f5, .int .i64 f6, .int .i64 (n : Int), .bool f2]
  have e0 := R1.cell 0
  have e1 := R1.cell 1
  have e2 := R1.cell 2
  have e3 := R1.cell 3
  have e4 := R1.cell 4
  have e5 := R1.cell 5
  have e6 := R1.cell 6
  refine bodyPost_ret (v := restV f1 f2 f3 f4 f5 f6 n) (by simp [results, Try.results39, go_sem, e0, e1, e2, e3, e4, e5, e6]) rfl ⟨rfl, (by (repeat (first | exact Below.refl _ _ | (refine Below.setCell ?_ (by first | omega | (simp; omega) | simp) _) | (refine Below.alloc ?_ (by first | omega | (simp; omega) | simp) _) | apply Below.drew | apply below_drewN)))⟩


set_option maxHeartbeats 1000000 in
theorem equal_any (A B : Option Addr) (n m c d : Nat) (a b : List UInt8) (w : World) (ha : Rd w A n a) (hb : Rd w B m b) :
    Calls Try.prog 40 #[.slice A n c, .slice B m d] w fun e w' => e = .returned (.bool (decide (a = b))) ∧ w = w' := by
  have h1 := run_str (P := Try.prog) ha 30 5 9 c Try.underlying30 Try.underlying5 Try.underlying9
  have h2 := run_str (P := Try.prog) hb 30 5 9 d Try.underlying30 Try.underlying5 Try.underlying9
  have hq := Lib.hid (show ((str a).toList == (str b).toList) = decide (a = b) by rw [Bool.eq_iff_iff]; simp [str_toL])
  go_enter Try.func40, Try.ntmps40
  go_wp2_with fail
  go_ret
  exact ⟨ret_bool hq.out, rfl⟩

def eqRest (a b : ActF) (n m : Nat) : Bool := decide (a = b ∧ n = m)
theorem run_eql_rest (a1 : Int) (a2 : Bool) (a3 a4 a5 a6 : Int) (n : Nat) (b1 : Int) (b2 : Bool) (b3 b4 b5 b6 : Int) (m : Nat) : ∀ w : World, (binOp .eql 69 (restV a1 a2 a3 a4 a5 a6 n) (restV b1 b2 b3 b4 b5 b6 m)).run Try.prog w =
    .ok (.bool (eqRest (a1, a2, a3, a4, a5, a6) (b1, b2, b3, b4, b5, b6) n m)) w := by
  intro w
  unfold eqRest
  have u3 := Try.underlying3
  have u4 := Try.underlying4
  have ag3 := Try.isAgg3
  have z3 := Try.sizeOf3
  have ag4 := Try.isAgg4
  have z4 := Try.sizeOf4
  have hS : Try.prog.underlying 69 = some (.struct (Try.prog.fieldsOf 69)) := by kernel_rfl
  have hp : Try.prog.stoodInHeld 69 = false := by kernel_rfl
  rw [run_eql_struct, show (10000 : Nat) = 9999 + 1 from rfl, run_equalIn_agg w 9999 69 _ _ hS hp]
  simp only [Program.fieldsOf, Try.underlying69]
  go_simp
  by_cases h1 : a1 = b1
  · by_cases h3 : a3 = b3
    · by_cases h4 : a4 = b4
      · by_cases h5 : a5 = b5
        · by_cases h6 : a6 = b6
          · by_cases h7 : n = m
            · by_cases h2 : a2 = b2 <;> simp_all
            · have h7b : ¬ (n : Int) = (m : Int) := by omega
              simp_all
          · simp_all
        · simp_all
      · simp_all
    · simp_all
  · simp_all

section
variable {P : Program} {ops : Array Oper}
theorem yielded_undef {a : Act} {j d : Nat} (hd : dstOf ops j = some d) (h : a.tmps[d]?.getD undef = undef) : yielded ops a.tmps j = none := by
  unfold dstOf at hd
  unfold yielded
  rw [hd]
  show (match a.tmps[d]? with | some (.bool b) => some b | _ => none) = none
  cases h2 : a.tmps[d]? with
  | none => rfl
  | some v => rw [h2] at h; simp at h; subst h; rfl
/-- The rule for a guarded operation whose guard did not run. -/
theorem StepOk.nou {F : Nat → Value → World → Prop} {a0 : Act} {w0 : World} {k j t : Nat} {b : Bool} (o : Oper) (d : Tmp) (ho : ops[k]? = some o) (hd : o.dst = some d) (hg : o.guard = some (j, b)) (hj : dstOf ops j = some t) (hju : ∀ v w, F j v w → v = undef)
    (hs : [(t, some j)].all (srcOk ops k) = true) (hF : ∀ w, F k undef w) : StepOk P ops F a0 w0 k :=
  ⟨o, d, ho, hd, [(t, some j)], hs, fun a w hb hf K hK => by
    rw [if_neg (by simp [Region.wanted, hg, yielded_undef hj (hju _ _ hf.1)])]; exact hK _ _ (Below.refl _ _) (hF w)⟩
end

def likeA (li : Bool) (x y : ActD) : Bool := decide (x.1 = y.1 ∧ x.2.length = y.2.length) && ((li && decide (x.1.1 = 9)) || decide (x.2 = y.2))
theorem likeA_rest {li : Bool} {x y : ActD} (h : eqRest x.1 y.1 x.2.length y.2.length = false) : likeA li x y = false := by
  unfold likeA; unfold eqRest at h; rw [h]; rfl
theorem likeA_same {x y : ActD} (h : eqRest x.1 y.1 x.2.length y.2.length = true) : likeA false x y = decide (x.2 = y.2) := by
  unfold likeA; unfold eqRest at h; rw [h]; simp
theorem likeA_nine {x y : ActD} (h : eqRest x.1 y.1 x.2.length y.2.length = true) (h9 : x.1.1 = 9) : likeA true x y = true := by
  unfold likeA; unfold eqRest at h; rw [h]; simp [h9]
theorem likeA_other {x y : ActD} (h : eqRest x.1 y.1 x.2.length y.2.length = true) (h9 : x.1.1 ≠ 9) : likeA true x y = decide (x.2 = y.2) := by
  unfold likeA; unfold eqRest at h; rw [h]; simp [h9]

set_option maxRecDepth 100000 in
set_option maxHeartbeats 4000000 in
theorem actsame_any (f1 : Int) (f2 : Bool) (f3 f4 f5 f6 : Int) (A : Option Addr) (n c : Nat) (L : List UInt8) (y1 : Int) (y2 : Bool) (y3 y4 y5 y6 : Int) (B : Option Addr) (m d : Nat) (M : List UInt8) (w : World) (ha : Rd w A n L) (hb : Rd w B m M) :
    Calls Try.prog 21 #[actV f1 f2 f3 f4 f5 f6 A n c, actV y1 y2 y3 y4 y5 y6 B m d] w fun e w' => e = .returned (.bool (likeA false ((f1, f2, f3, f4, f5, f6), L) ((y1, y2, y3, y4, y5, y6), M))) ∧ Below w.heap.size w w' := by
  have hl1 := ha.len
  have hl2 := hb.len
  have P0 : Blk ((w.alloc (.cells #[.int .i64 f1, .bool f2, .int .i64 f3, .int .i64 f4, .int .i64 f5, .int .i64 f6, .slice A n c] 34)).alloc (.cells #[.int .i64 y1, .bool y2, .int .i64 y3, .int .i64 y4, .int .i64 y5, .int .i64 y6, .slice B m d] 34)) w.heap.size 34 #[.int .i64 f1, .bool f2, .int .i64 f3, .int .i64 f4, .int .i64 f5, .int .i64 f6, .slice A n c] := (Blk.new _ _ _).alloc _
  have Q0 : Blk ((w.alloc (.cells #[.int .i64 f1, .bool f2, .int .i64 f3, .int .i64 f4, .int .i64 f5, .int .i64 f6, .slice A n c] 34)).alloc (.cells #[.int .i64 y1, .bool y2, .int .i64 y3, .int .i64 y4, .int .i64 y5, .int .i64 y6, .slice B m d] 34)) (w.heap.size + 1) 34 #[.int .i64 y1, .bool y2, .int .i64 y3, .int .i64 y4, .int .i64 y5, .int .i64 y6, .slice B m d] := by
    simpa using Blk.new (w.alloc (.cells #[.int .i64 f1, .bool f2, .int .i64 f3, .int .i64 f4, .int .i64 f5, .int .i64 f6, .slice A n c] 34)) 34 #[.int .i64 y1, .bool y2, .int .i64 y3, .int .i64 y4, .int .i64 y5, .int .i64 y6, .slice B m d]
  have RA : Rd ((w.alloc (.cells #[.int .i64 f1, .bool f2, .int .i64 f3, .int .i64 f4, .int .i64 f5, .int .i64 f6, .slice A n c] 34)).alloc (.cells #[.int .i64 y1, .bool y2, .int .i64 y3, .int .i64 y4, .int .i64 y5, .int .i64 y6, .slice B m d] 34)) A n L := (ha.alloc _).alloc _
  have RB : Rd ((w.alloc (.cells #[.int .i64 f1, .bool f2, .int .i64 f3, .int .i64 f4, .int .i64 f5, .int .i64 f6, .slice A n c] 34)).alloc (.cells #[.int .i64 y1, .bool y2, .int .i64 y3, .int .i64 y4, .int .i64 y5, .int .i64 y6, .slice B m d] 34)) B m M := (hb.alloc _).alloc _
  cases hd : eqRest (f1, f2, f3, f4, f5, f6) (y1, y2, y3, y4, y5, y6) n m with
  | false =>
    have hr := Lib.hid (likeA_rest (li := false) (x := ((f1, f2, f3, f4, f5, f6), L)) (y := ((y1, y2, y3, y4, y5, y6), M)) (by rw [hl1, hl2]; exact hd))
    have hq := run_eql_rest f1 f2 f3 f4 f5 f6 n y1 y2 y3 y4 y5 y6 m
    rw [hd] at hq
    clear hd ha hb
    go_enter Try.func21, Try.ntmps21
    go_wp2_with fail
    refine wp_flows [(fun y_ _ => y_ = actV f1 f2 f3 f4 f5 f6 A n c), (fun y_ _ => y_ = restV f1 f2 f3 f4 f5 f6 n), (fun y_ _ => y_ = actV y1 y2 y3 y4 y5 y6 B m d), (fun y_ _ => y_ = restV y1 y2 y3 y4 y5 y6 m), (fun y_ _ => y_ = .bool false), (fun y_ _ => y_ = .bool false), (fun y_ _ => y_ = undef), (fun y_ _ => y_ = undef), (fun y_ _ => y_ = undef), (fun y_ _ => y_ = undef), (fun y_ _ => y_ = undef), (fun y_ _ => y_ = .bool false), (fun y_ _ => y_ = .bool false)] (by kernel_rfl) ⟨Stab.eq _, Stab.eq _, Stab.eq _, Stab.eq _, Stab.eq _, Stab.eq _, Stab.eq _, Stab.eq _, Stab.eq _, Stab.eq _, Stab.eq _, Stab.eq _, Stab.eq _, trivial⟩ (by kernel_rfl) (by rfl) ?_ ?_
    · intro kq hkq
      match kq, hkq with
      | 0, _ =>
        refine StepOk.plain _ 5 rfl rfl rfl [(2, none)] (by kernel_rfl) (fun af wf hbw hf Kf hKf => ?_)
        obtain ⟨g2, _⟩ := hf
        have h2 : af.tmps[2]?.getD undef = .pointer (some ⟨w.heap.size, 0, none⟩) := g2
        clear g2
        have cB0 := (Blk.on (Blk.drew (P0)) hbw).cell
        have cB1 := (Blk.on (Blk.drew (Q0)) hbw).cell
        go_simp
        exact hKf _ _ (Below.refl _ _) rfl
      | 1, _ =>
        refine StepOk.plain _ 6 rfl rfl rfl [(5, some 0)] (by kernel_rfl) (fun af wf hbw hf Kf hKf => ?_)
        obtain ⟨g5, _⟩ := hf
        have h5 : af.tmps[5]?.getD undef = actV f1 f2 f3 f4 f5 f6 A n c := g5
        clear g5
        go_simp
        refine (rest_any f1 f2 f3 f4 f5 f6 A n c _).mono ?_
        rintro e wN ⟨rfl, hb1⟩
        exact hKf _ _ (hb1) (rfl)
      | 2, _ =>
        refine StepOk.plain _ 7 rfl rfl rfl [(3, none)] (by kernel_rfl) (fun af wf hbw hf Kf hKf => ?_)
        obtain ⟨g3, _⟩ := hf
        have h3 : af.tmps[3]?.getD undef = .pointer (some ⟨w.heap.size + 1, 0, none⟩) := g3
        clear g3
        have cB0 := (Blk.on (Blk.drew (P0)) hbw).cell
        have cB1 := (Blk.on (Blk.drew (Q0)) hbw).cell
        go_simp
        exact hKf _ _ (Below.refl _ _) rfl
      | 3, _ =>
        refine StepOk.plain _ 8 rfl rfl rfl [(7, some 2)] (by kernel_rfl) (fun af wf hbw hf Kf hKf => ?_)
        obtain ⟨g7, _⟩ := hf
        have h7 : af.tmps[7]?.getD undef = actV y1 y2 y3 y4 y5 y6 B m d := g7
        clear g7
        go_simp
        refine (rest_any y1 y2 y3 y4 y5 y6 B m d _).mono ?_
        rintro e wN ⟨rfl, hb1⟩
        exact hKf _ _ (hb1) (rfl)
      | 4, _ =>
        refine StepOk.plain _ 9 rfl rfl rfl [(6, some 1), (8, some 3)] (by kernel_rfl) (fun af wf hbw hf Kf hKf => ?_)
        obtain ⟨g6, g8, _⟩ := hf
        have h6 : af.tmps[6]?.getD undef = restV f1 f2 f3 f4 f5 f6 n := g6
        have h8 : af.tmps[8]?.getD undef = restV y1 y2 y3 y4 y5 y6 m := g8
        clear g6 g8
        have hq4 := hq
        go_simp
        exact hKf _ _ (Below.refl _ _) rfl
      | 5, _ =>
        refine StepOk.plain _ 10 rfl rfl rfl [(9, some 4)] (by kernel_rfl) (fun af wf hbw hf Kf hKf => ?_)
        obtain ⟨g9, _⟩ := hf
        have h9 : af.tmps[9]?.getD undef = .bool false := g9
        clear g9
        go_simp
        exact hKf _ _ (Below.refl _ _) rfl
      | 6, _ => exact StepOk.no _ 11 rfl rfl rfl rfl (fun _ _ h => h) (by decide) (by kernel_rfl) (fun _ => rfl)
      | 7, _ => exact StepOk.no _ 12 rfl rfl rfl rfl (fun _ _ h => h) (by decide) (by kernel_rfl) (fun _ => rfl)
      | 8, _ => exact StepOk.no _ 13 rfl rfl rfl rfl (fun _ _ h => h) (by decide) (by kernel_rfl) (fun _ => rfl)
      | 9, _ => exact StepOk.no _ 14 rfl rfl rfl rfl (fun _ _ h => h) (by decide) (by kernel_rfl) (fun _ => rfl)
      | 10, _ => exact StepOk.no _ 15 rfl rfl rfl rfl (fun _ _ h => h) (by decide) (by kernel_rfl) (fun _ => rfl)
      | 11, _ =>
        refine StepOk.plain _ 16 rfl rfl rfl [(10, some 5), (15, some 10)] (by kernel_rfl) (fun af wf hbw hf Kf hKf => ?_)
        obtain ⟨g10, g15, _⟩ := hf
        have h10 : af.tmps[10]?.getD undef = .bool false := g10
        have h15 : af.tmps[15]?.getD undef = undef := g15
        clear g10 g15
        go_simp
        exact hKf _ _ (Below.refl _ _) rfl
      | 12, _ =>
        refine StepOk.plain _ 4 rfl rfl rfl [(16, some 11)] (by kernel_rfl) (fun af wf hbw hf Kf hKf => ?_)
        obtain ⟨g16, _⟩ := hf
        have h16 : af.tmps[16]?.getD undef = .bool false := g16
        clear g16
        go_simp
        exact hKf _ _ (Below.refl _ _) rfl
      | i + 13, h => exact absurd h (by show ¬ (i + 13 < 13); omega)
    · intro af wF hbF hdF hsF hbaseF hfactF
      obtain ⟨T, dsF⟩ := af
      obtain rfl : dsF = _ := hdF
      have e0 := hbaseF 0 (not_dst (by kernel_rfl))
      simp only [List.getElem?_toArray, List.getElem?_cons_zero, Option.getD_some] at e0
      have e1 := hbaseF 1 (not_dst (by kernel_rfl))
      simp only [List.getElem?_toArray, List.getElem?_cons_zero, List.getElem?_cons_succ, Option.getD_some] at e1
      have e2 := hbaseF 2 (not_dst (by kernel_rfl))
      simp only [List.getElem?_toArray, List.getElem?_cons_zero, List.getElem?_cons_succ, Option.getD_some] at e2
      have e3 := hbaseF 3 (not_dst (by kernel_rfl))
      simp only [List.getElem?_toArray, List.getElem?_cons_zero, List.getElem?_cons_succ, Option.getD_some] at e3
      have e4 := hfactF 12 4 (by decide) rfl
      replace e4 : T[4]?.getD undef = .bool false := e4
      clear hbaseF hfactF
      have hT : T = #[T[0]?.getD undef, T[1]?.getD undef, T[2]?.getD undef, T[3]?.getD undef, T[4]?.getD undef, T[5]?.getD undef, T[6]?.getD undef, T[7]?.getD undef, T[8]?.getD undef, T[9]?.getD undef, T[10]?.getD undef, T[11]?.getD undef, T[12]?.getD undef, T[13]?.getD undef, T[14]?.getD undef, T[15]?.getD undef, T[16]?.getD undef] := arr_eq T 17 hsF
      clear hsF
      rw [e0] at hT; clear e0
      rw [e1] at hT; clear e1
      rw [e2] at hT; clear e2
      rw [e3] at hT; clear e3
      rw [e4] at hT; clear e4
      generalize T[5]?.getD undef = u5 at hT
      generalize T[6]?.getD undef = u6 at hT
      generalize T[7]?.getD undef = u7 at hT
      generalize T[8]?.getD undef = u8 at hT
      generalize T[9]?.getD undef = u9 at hT
      generalize T[10]?.getD undef = u10 at hT
      generalize T[11]?.getD undef = u11 at hT
      generalize T[12]?.getD undef = u12 at hT
      generalize T[13]?.getD undef = u13 at hT
      generalize T[14]?.getD undef = u14 at hT
      generalize T[15]?.getD undef = u15 at hT
      generalize T[16]?.getD undef = u16 at hT
      subst hT
      go_wp2_with fail
      go_ret
      exact ⟨by rw [hr.out]; rfl, (by (have q_hbF := Below.size hbF; (try simp at q_hbF); repeat (first | exact Below.refl _ _ | (refine Below.trans ?_ (Below.mono hbF (by first | omega | (simp; omega) | simp))) | (refine Below.setCell ?_ (by first | omega | (simp; omega) | simp) _) | (refine Below.alloc ?_ (by first | omega | (simp; omega) | simp) _) | apply Below.drew | apply below_drewN)))⟩
  | true =>
    have hr := Lib.hid (likeA_same (x := ((f1, f2, f3, f4, f5, f6), L)) (y := ((y1, y2, y3, y4, y5, y6), M)) (by rw [hl1, hl2]; exact hd))
    have hq := run_eql_rest f1 f2 f3 f4 f5 f6 n y1 y2 y3 y4 y5 y6 m
    rw [hd] at hq
    obtain ⟨X, hX⟩ : ∃ X, X = decide (L = M) := ⟨_, rfl⟩
    have HX := Lib.hid hX
    clear hd ha hb hX
    go_enter Try.func21, Try.ntmps21
    go_wp2_with fail
    refine wp_flows [(fun y_ _ => y_ = actV f1 f2 f3 f4 f5 f6 A n c), (fun y_ _ => y_ = restV f1 f2 f3 f4 f5 f6 n), (fun y_ _ => y_ = actV y1 y2 y3 y4 y5 y6 B m d), (fun y_ _ => y_ = restV y1 y2 y3 y4 y5 y6 m), (fun y_ _ => y_ = .bool true), (fun y_ _ => y_ = .bool true), (fun y_ _ => y_ = .pointer (some ⟨w.heap.size, 6, none⟩)), (fun y_ _ => y_ = .slice A n c), (fun y_ _ => y_ = .pointer (some ⟨w.heap.size + 1, 6, none⟩)), (fun y_ _ => y_ = .slice B m d), (fun y_ _ => y_ = .bool X), (fun y_ _ => y_ = .bool X), (fun y_ _ => y_ = .bool X)] (by kernel_rfl) ⟨Stab.eq _, Stab.eq _, Stab.eq _, Stab.eq _, Stab.eq _, Stab.eq _, Stab.eq _, Stab.eq _, Stab.eq _, Stab.eq _, Stab.eq _, Stab.eq _, Stab.eq _, trivial⟩ (by kernel_rfl) (by rfl) ?_ ?_
    · intro kq hkq
      match kq, hkq with
      | 0, _ =>
        refine StepOk.plain _ 5 rfl rfl rfl [(2, none)] (by kernel_rfl) (fun af wf hbw hf Kf hKf => ?_)
        obtain ⟨g2, _⟩ := hf
        have h2 : af.tmps[2]?.getD undef = .pointer (some ⟨w.heap.size, 0, none⟩) := g2
        clear g2
        have cB0 := (Blk.on (Blk.drew (P0)) hbw).cell
        have cB1 := (Blk.on (Blk.drew (Q0)) hbw).cell
        go_simp
        exact hKf _ _ (Below.refl _ _) rfl
      | 1, _ =>
        refine StepOk.plain _ 6 rfl rfl rfl [(5, some 0)] (by kernel_rfl) (fun af wf hbw hf Kf hKf => ?_)
        obtain ⟨g5, _⟩ := hf
        have h5 : af.tmps[5]?.getD undef = actV f1 f2 f3 f4 f5 f6 A n c := g5
        clear g5
        go_simp
        refine (rest_any f1 f2 f3 f4 f5 f6 A n c _).mono ?_
        rintro e wN ⟨rfl, hb1⟩
        exact hKf _ _ (hb1) (rfl)
      | 2, _ =>
        refine StepOk.plain _ 7 rfl rfl rfl [(3, none)] (by kernel_rfl) (fun af wf hbw hf Kf hKf => ?_)
        obtain ⟨g3, _⟩ := hf
        have h3 : af.tmps[3]?.getD undef = .pointer (some ⟨w.heap.size + 1, 0, none⟩) := g3
        clear g3
        have cB0 := (Blk.on (Blk.drew (P0)) hbw).cell
        have cB1 := (Blk.on (Blk.drew (Q0)) hbw).cell
        go_simp
        exact hKf _ _ (Below.refl _ _) rfl
      | 3, _ =>
        refine StepOk.plain _ 8 rfl rfl rfl [(7, some 2)] (by kernel_rfl) (fun af wf hbw hf Kf hKf => ?_)
        obtain ⟨g7, _⟩ := hf
        have h7 : af.tmps[7]?.getD undef = actV y1 y2 y3 y4 y5 y6 B m d := g7
        clear g7
        go_simp
        refine (rest_any y1 y2 y3 y4 y5 y6 B m d _).mono ?_
        rintro e wN ⟨rfl, hb1⟩
        exact hKf _ _ (hb1) (rfl)
      | 4, _ =>
        refine StepOk.plain _ 9 rfl rfl rfl [(6, some 1), (8, some 3)] (by kernel_rfl) (fun af wf hbw hf Kf hKf => ?_)
        obtain ⟨g6, g8, _⟩ := hf
        have h6 : af.tmps[6]?.getD undef = restV f1 f2 f3 f4 f5 f6 n := g6
        have h8 : af.tmps[8]?.getD undef = restV y1 y2 y3 y4 y5 y6 m := g8
        clear g6 g8
        have hq4 := hq
        go_simp
        exact hKf _ _ (Below.refl _ _) rfl
      | 5, _ =>
        refine StepOk.plain _ 10 rfl rfl rfl [(9, some 4)] (by kernel_rfl) (fun af wf hbw hf Kf hKf => ?_)
        obtain ⟨g9, _⟩ := hf
        have h9 : af.tmps[9]?.getD undef = .bool true := g9
        clear g9
        go_simp
        exact hKf _ _ (Below.refl _ _) rfl
      | 6, _ =>
        refine StepOk.yes _ 11 rfl rfl rfl rfl (fun _ _ h => h) [(2, none)] (by kernel_rfl) (fun af wf hbw hf Kf hKf => ?_)
        obtain ⟨g2, _⟩ := hf
        have h2 : af.tmps[2]?.getD undef = .pointer (some ⟨w.heap.size, 0, none⟩) := g2
        clear g2
        go_simp
        exact hKf _ _ (Below.refl _ _) rfl
      | 7, _ =>
        refine StepOk.yes _ 12 rfl rfl rfl rfl (fun _ _ h => h) [(11, some 6)] (by kernel_rfl) (fun af wf hbw hf Kf hKf => ?_)
        obtain ⟨g11, _⟩ := hf
        have h11 : af.tmps[11]?.getD undef = .pointer (some ⟨w.heap.size, 6, none⟩) := g11
        clear g11
        have cB0 := (Blk.on (Blk.drew (P0)) hbw).cell
        have cB1 := (Blk.on (Blk.drew (Q0)) hbw).cell
        go_simp
        exact hKf _ _ (Below.refl _ _) rfl
      | 8, _ =>
        refine StepOk.yes _ 13 rfl rfl rfl rfl (fun _ _ h => h) [(3, none)] (by kernel_rfl) (fun af wf hbw hf Kf hKf => ?_)
        obtain ⟨g3, _⟩ := hf
        have h3 : af.tmps[3]?.getD undef = .pointer (some ⟨w.heap.size + 1, 0, none⟩) := g3
        clear g3
        go_simp
        exact hKf _ _ (Below.refl _ _) rfl
      | 9, _ =>
        refine StepOk.yes _ 14 rfl rfl rfl rfl (fun _ _ h => h) [(13, some 8)] (by kernel_rfl) (fun af wf hbw hf Kf hKf => ?_)
        obtain ⟨g13, _⟩ := hf
        have h13 : af.tmps[13]?.getD undef = .pointer (some ⟨w.heap.size + 1, 6, none⟩) := g13
        clear g13
        have cB0 := (Blk.on (Blk.drew (P0)) hbw).cell
        have cB1 := (Blk.on (Blk.drew (Q0)) hbw).cell
        go_simp
        exact hKf _ _ (Below.refl _ _) rfl
      | 10, _ =>
        refine StepOk.yes _ 15 rfl rfl rfl rfl (fun _ _ h => h) [(12, some 7), (14, some 9)] (by kernel_rfl) (fun af wf hbw hf Kf hKf => ?_)
        obtain ⟨g12, g14, _⟩ := hf
        have h12 : af.tmps[12]?.getD undef = .slice A n c := g12
        have h14 : af.tmps[14]?.getD undef = .slice B m d := g14
        clear g12 g14
        go_simp
        refine (equal_any A B n m c d L M _ (Rd.below (Rd.drew RA) hbw) (Rd.below (Rd.drew RB) hbw)).mono ?_
        rintro e wN ⟨rfl, rfl⟩
        exact hKf _ _ ((Below.refl _ _)) (congrArg Value.bool HX.out.symm)
      | 11, _ =>
        refine StepOk.plain _ 16 rfl rfl rfl [(10, some 5), (15, some 10)] (by kernel_rfl) (fun af wf hbw hf Kf hKf => ?_)
        obtain ⟨g10, g15, _⟩ := hf
        have h10 : af.tmps[10]?.getD undef = .bool true := g10
        have h15 : af.tmps[15]?.getD undef = .bool X := g15
        clear g10 g15
        go_simp
        exact hKf _ _ (Below.refl _ _) rfl
      | 12, _ =>
        refine StepOk.plain _ 4 rfl rfl rfl [(16, some 11)] (by kernel_rfl) (fun af wf hbw hf Kf hKf => ?_)
        obtain ⟨g16, _⟩ := hf
        have h16 : af.tmps[16]?.getD undef = .bool X := g16
        clear g16
        go_simp
        exact hKf _ _ (Below.refl _ _) rfl
      | i + 13, h => exact absurd h (by show ¬ (i + 13 < 13); omega)
    · intro af wF hbF hdF hsF hbaseF hfactF
      obtain ⟨T, dsF⟩ := af
      obtain rfl : dsF = _ := hdF
      have e0 := hbaseF 0 (not_dst (by kernel_rfl))
      simp only [List.getElem?_toArray, List.getElem?_cons_zero, Option.getD_some] at e0
      have e1 := hbaseF 1 (not_dst (by kernel_rfl))
      simp only [List.getElem?_toArray, List.getElem?_cons_zero, List.getElem?_cons_succ, Option.getD_some] at e1
      have e2 := hbaseF 2 (not_dst (by kernel_rfl))
      simp only [List.getElem?_toArray, List.getElem?_cons_zero, List.getElem?_cons_succ, Option.getD_some] at e2
      have e3 := hbaseF 3 (not_dst (by kernel_rfl))
      simp only [List.getElem?_toArray, List.getElem?_cons_zero, List.getElem?_cons_succ, Option.getD_some] at e3
      have e4 := hfactF 12 4 (by decide) rfl
      replace e4 : T[4]?.getD undef = .bool X := e4
      clear hbaseF hfactF
      have hT : T = #[T[0]?.getD undef, T[1]?.getD undef, T[2]?.getD undef, T[3]?.getD undef, T[4]?.getD undef, T[5]?.getD undef, T[6]?.getD undef, T[7]?.getD undef, T[8]?.getD undef, T[9]?.getD undef, T[10]?.getD undef, T[11]?.getD undef, T[12]?.getD undef, T[13]?.getD undef, T[14]?.getD undef, T[15]?.getD undef, T[16]?.getD undef] := arr_eq T 17 hsF
      clear hsF
      rw [e0] at hT; clear e0
      rw [e1] at hT; clear e1
      rw [e2] at hT; clear e2
      rw [e3] at hT; clear e3
      rw [e4] at hT; clear e4
      generalize T[5]?.getD undef = u5 at hT
      generalize T[6]?.getD undef = u6 at hT
      generalize T[7]?.getD undef = u7 at hT
      generalize T[8]?.getD undef = u8 at hT
      generalize T[9]?.getD undef = u9 at hT
      generalize T[10]?.getD undef = u10 at hT
      generalize T[11]?.getD undef = u11 at hT
      generalize T[12]?.getD undef = u12 at hT
      generalize T[13]?.getD undef = u13 at hT
      generalize T[14]?.getD undef = u14 at hT
      generalize T[15]?.getD undef = u15 at hT
      generalize T[16]?.getD undef = u16 at hT
      subst hT
      go_wp2_with fail
      go_ret
      exact ⟨by rw [hr.out, ← HX.out]; rfl, (by (have q_hbF := Below.size hbF; (try simp at q_hbF); repeat (first | exact Below.refl _ _ | (refine Below.trans ?_ (Below.mono hbF (by first | omega | (simp; omega) | simp))) | (refine Below.setCell ?_ (by first | omega | (simp; omega) | simp) _) | (refine Below.alloc ?_ (by first | omega | (simp; omega) | simp) _) | apply Below.drew | apply below_drewN)))⟩

set_option maxRecDepth 100000 in
set_option maxHeartbeats 4000000 in
theorem actlike_any (f1 : Int) (f2 : Bool) (f3 f4 f5 f6 : Int) (A : Option Addr) (n c : Nat) (L : List UInt8) (y1 : Int) (y2 : Bool) (y3 y4 y5 y6 : Int) (B : Option Addr) (m d : Nat) (M : List UInt8) (w : World) (ha : Rd w A n L) (hb : Rd w B m M) :
    Calls Try.prog 22 #[actV f1 f2 f3 f4 f5 f6 A n c, actV y1 y2 y3 y4 y5 y6 B m d] w fun e w' => e = .returned (.bool (likeA true ((f1, f2, f3, f4, f5, f6), L) ((y1, y2, y3, y4, y5, y6), M))) ∧ Below w.heap.size w w' := by
  have hl1 := ha.len
  have hl2 := hb.len
  have P0 : Blk ((w.alloc (.cells #[.int .i64 f1, .bool f2, .int .i64 f3, .int .i64 f4, .int .i64 f5, .int .i64 f6, .slice A n c] 34)).alloc (.cells #[.int .i64 y1, .bool y2, .int .i64 y3, .int .i64 y4, .int .i64 y5, .int .i64 y6, .slice B m d] 34)) w.heap.size 34 #[.int .i64 f1, .bool f2, .int .i64 f3, .int .i64 f4, .int .i64 f5, .int .i64 f6, .slice A n c] := (Blk.new _ _ _).alloc _
  have Q0 : Blk ((w.alloc (.cells #[.int .i64 f1, .bool f2, .int .i64 f3, .int .i64 f4, .int .i64 f5, .int .i64 f6, .slice A n c] 34)).alloc (.cells #[.int .i64 y1, .bool y2, .int .i64 y3, .int .i64 y4, .int .i64 y5, .int .i64 y6, .slice B m d] 34)) (w.heap.size + 1) 34 #[.int .i64 y1, .bool y2, .int .i64 y3, .int .i64 y4, .int .i64 y5, .int .i64 y6, .slice B m d] := by
    simpa using Blk.new (w.alloc (.cells #[.int .i64 f1, .bool f2, .int .i64 f3, .int .i64 f4, .int .i64 f5, .int .i64 f6, .slice A n c] 34)) 34 #[.int .i64 y1, .bool y2, .int .i64 y3, .int .i64 y4, .int .i64 y5, .int .i64 y6, .slice B m d]
  have RA : Rd ((w.alloc (.cells #[.int .i64 f1, .bool f2, .int .i64 f3, .int .i64 f4, .int .i64 f5, .int .i64 f6, .slice A n c] 34)).alloc (.cells #[.int .i64 y1, .bool y2, .int .i64 y3, .int .i64 y4, .int .i64 y5, .int .i64 y6, .slice B m d] 34)) A n L := (ha.alloc _).alloc _
  have RB : Rd ((w.alloc (.cells #[.int .i64 f1, .bool f2, .int .i64 f3, .int .i64 f4, .int .i64 f5, .int .i64 f6, .slice A n c] 34)).alloc (.cells #[.int .i64 y1, .bool y2, .int .i64 y3, .int .i64 y4, .int .i64 y5, .int .i64 y6, .slice B m d] 34)) B m M := (hb.alloc _).alloc _
  cases hd : eqRest (f1, f2, f3, f4, f5, f6) (y1, y2, y3, y4, y5, y6) n m with
  | false =>
    have hr := Lib.hid (likeA_rest (li := true) (x := ((f1, f2, f3, f4, f5, f6), L)) (y := ((y1, y2, y3, y4, y5, y6), M)) (by rw [hl1, hl2]; exact hd))
    have hq := run_eql_rest f1 f2 f3 f4 f5 f6 n y1 y2 y3 y4 y5 y6 m
    rw [hd] at hq
    clear hd ha hb
    go_enter Try.func22, Try.ntmps22
    go_wp2_with fail
    refine wp_flows [(fun y_ _ => y_ = actV f1 f2 f3 f4 f5 f6 A n c), (fun y_ _ => y_ = restV f1 f2 f3 f4 f5 f6 n), (fun y_ _ => y_ = actV y1 y2 y3 y4 y5 y6 B m d), (fun y_ _ => y_ = restV y1 y2 y3 y4 y5 y6 m), (fun y_ _ => y_ = .bool false), (fun y_ _ => y_ = .bool false), (fun y_ _ => y_ = undef), (fun y_ _ => y_ = undef), (fun y_ _ => y_ = undef), (fun y_ _ => y_ = undef), (fun y_ _ => y_ = undef), (fun y_ _ => y_ = undef), (fun y_ _ => y_ = undef), (fun y_ _ => y_ = undef), (fun y_ _ => y_ = undef), (fun y_ _ => y_ = undef), (fun y_ _ => y_ = .bool false), (fun y_ _ => y_ = .bool false)] (by kernel_rfl) ⟨Stab.eq _, Stab.eq _, Stab.eq _, Stab.eq _, Stab.eq _, Stab.eq _, Stab.eq _, Stab.eq _, Stab.eq _, Stab.eq _, Stab.eq _, Stab.eq _, Stab.eq _, Stab.eq _, Stab.eq _, Stab.eq _, Stab.eq _, Stab.eq _, trivial⟩ (by kernel_rfl) (by rfl) ?_ ?_
    · intro kq hkq
      match kq, hkq with
      | 0, _ =>
        refine StepOk.plain _ 5 rfl rfl rfl [(2, none)] (by kernel_rfl) (fun af wf hbw hf Kf hKf => ?_)
        obtain ⟨g2, _⟩ := hf
        have h2 : af.tmps[2]?.getD undef = .pointer (some ⟨w.heap.size, 0, none⟩) := g2
        clear g2
        have cB0 := (Blk.on (Blk.drew (P0)) hbw).cell
        have cB1 := (Blk.on (Blk.drew (Q0)) hbw).cell
        go_simp
        exact hKf _ _ (Below.refl _ _) rfl
      | 1, _ =>
        refine StepOk.plain _ 6 rfl rfl rfl [(5, some 0)] (by kernel_rfl) (fun af wf hbw hf Kf hKf => ?_)
        obtain ⟨g5, _⟩ := hf
        have h5 : af.tmps[5]?.getD undef = actV f1 f2 f3 f4 f5 f6 A n c := g5
        clear g5
        go_simp
        refine (rest_any f1 f2 f3 f4 f5 f6 A n c _).mono ?_
        rintro e wN ⟨rfl, hb1⟩
        exact hKf _ _ (hb1) (rfl)
      | 2, _ =>
        refine StepOk.plain _ 7 rfl rfl rfl [(3, none)] (by kernel_rfl) (fun af wf hbw hf Kf hKf => ?_)
        obtain ⟨g3, _⟩ := hf
        have h3 : af.tmps[3]?.getD undef = .pointer (some ⟨w.heap.size + 1, 0, none⟩) := g3
        clear g3
        have cB0 := (Blk.on (Blk.drew (P0)) hbw).cell
        have cB1 := (Blk.on (Blk.drew (Q0)) hbw).cell
        go_simp
        exact hKf _ _ (Below.refl _ _) rfl
      | 3, _ =>
        refine StepOk.plain _ 8 rfl rfl rfl [(7, some 2)] (by kernel_rfl) (fun af wf hbw hf Kf hKf => ?_)
        obtain ⟨g7, _⟩ := hf
        have h7 : af.tmps[7]?.getD undef = actV y1 y2 y3 y4 y5 y6 B m d := g7
        clear g7
        go_simp
        refine (rest_any y1 y2 y3 y4 y5 y6 B m d _).mono ?_
        rintro e wN ⟨rfl, hb1⟩
        exact hKf _ _ (hb1) (rfl)
      | 4, _ =>
        refine StepOk.plain _ 9 rfl rfl rfl [(6, some 1), (8, some 3)] (by kernel_rfl) (fun af wf hbw hf Kf hKf => ?_)
        obtain ⟨g6, g8, _⟩ := hf
        have h6 : af.tmps[6]?.getD undef = restV f1 f2 f3 f4 f5 f6 n := g6
        have h8 : af.tmps[8]?.getD undef = restV y1 y2 y3 y4 y5 y6 m := g8
        clear g6 g8
        have hq4 := hq
        go_simp
        exact hKf _ _ (Below.refl _ _) rfl
      | 5, _ =>
        refine StepOk.plain _ 10 rfl rfl rfl [(9, some 4)] (by kernel_rfl) (fun af wf hbw hf Kf hKf => ?_)
        obtain ⟨g9, _⟩ := hf
        have h9 : af.tmps[9]?.getD undef = .bool false := g9
        clear g9
        go_simp
        exact hKf _ _ (Below.refl _ _) rfl
      | 6, _ => exact StepOk.no _ 11 rfl rfl rfl rfl (fun _ _ h => h) (by decide) (by kernel_rfl) (fun _ => rfl)
      | 7, _ => exact StepOk.no _ 12 rfl rfl rfl rfl (fun _ _ h => h) (by decide) (by kernel_rfl) (fun _ => rfl)
      | 8, _ => exact StepOk.no _ 13 rfl rfl rfl rfl (fun _ _ h => h) (by decide) (by kernel_rfl) (fun _ => rfl)
      | 9, _ => exact StepOk.no _ 14 rfl rfl rfl rfl (fun _ _ h => h) (by decide) (by kernel_rfl) (fun _ => rfl)
      | 10, _ => exact StepOk.nou _ 15 rfl rfl rfl rfl (fun _ _ h => h) (by kernel_rfl) (fun _ => rfl)
      | 11, _ => exact StepOk.nou _ 16 rfl rfl rfl rfl (fun _ _ h => h) (by kernel_rfl) (fun _ => rfl)
      | 12, _ => exact StepOk.nou _ 17 rfl rfl rfl rfl (fun _ _ h => h) (by kernel_rfl) (fun _ => rfl)
      | 13, _ => exact StepOk.nou _ 18 rfl rfl rfl rfl (fun _ _ h => h) (by kernel_rfl) (fun _ => rfl)
      | 14, _ => exact StepOk.nou _ 19 rfl rfl rfl rfl (fun _ _ h => h) (by kernel_rfl) (fun _ => rfl)
      | 15, _ => exact StepOk.no _ 20 rfl rfl rfl rfl (fun _ _ h => h) (by decide) (by kernel_rfl) (fun _ => rfl)
      | 16, _ =>
        refine StepOk.plain _ 21 rfl rfl rfl [(10, some 5), (20, some 15)] (by kernel_rfl) (fun af wf hbw hf Kf hKf => ?_)
        obtain ⟨g10, g20, _⟩ := hf
        have h10 : af.tmps[10]?.getD undef = .bool false := g10
        have h20 : af.tmps[20]?.getD undef = undef := g20
        clear g10 g20
        go_simp
        exact hKf _ _ (Below.refl _ _) rfl
      | 17, _ =>
        refine StepOk.plain _ 4 rfl rfl rfl [(21, some 16)] (by kernel_rfl) (fun af wf hbw hf Kf hKf => ?_)
        obtain ⟨g21, _⟩ := hf
        have h21 : af.tmps[21]?.getD undef = .bool false := g21
        clear g21
        go_simp
        exact hKf _ _ (Below.refl _ _) rfl
      | i + 18, h => exact absurd h (by show ¬ (i + 18 < 18); omega)
    · intro af wF hbF hdF hsF hbaseF hfactF
      obtain ⟨T, dsF⟩ := af
      obtain rfl : dsF = _ := hdF
      have e0 := hbaseF 0 (not_dst (by kernel_rfl))
      simp only [List.getElem?_toArray, List.getElem?_cons_zero, Option.getD_some] at e0
      have e1 := hbaseF 1 (not_dst (by kernel_rfl))
      simp only [List.getElem?_toArray, List.getElem?_cons_zero, List.getElem?_cons_succ, Option.getD_some] at e1
      have e2 := hbaseF 2 (not_dst (by kernel_rfl))
      simp only [List.getElem?_toArray, List.getElem?_cons_zero, List.getElem?_cons_succ, Option.getD_some] at e2
      have e3 := hbaseF 3 (not_dst (by kernel_rfl))
      simp only [List.getElem?_toArray, List.getElem?_cons_zero, List.getElem?_cons_succ, Option.getD_some] at e3
      have e4 := hfactF 17 4 (by decide) rfl
      replace e4 : T[4]?.getD undef = .bool false := e4
      clear hbaseF hfactF
      have hT : T = #[T[0]?.getD undef, T[1]?.getD undef, T[2]?.getD undef, T[3]?.getD undef, T[4]?.getD undef, T[5]?.getD undef, T[6]?.getD undef, T[7]?.getD undef, T[8]?.getD undef, T[9]?.getD undef, T[10]?.getD undef, T[11]?.getD undef, T[12]?.getD undef, T[13]?.getD undef, T[14]?.getD undef, T[15]?.getD undef, T[16]?.getD undef, T[17]?.getD undef, T[18]?.getD undef, T[19]?.getD undef, T[20]?.getD undef, T[21]?.getD undef] := arr_eq T 22 hsF
      clear hsF
      rw [e0] at hT; clear e0
      rw [e1] at hT; clear e1
      rw [e2] at hT; clear e2
      rw [e3] at hT; clear e3
      rw [e4] at hT; clear e4
      generalize T[5]?.getD undef = u5 at hT
      generalize T[6]?.getD undef = u6 at hT
      generalize T[7]?.getD undef = u7 at hT
      generalize T[8]?.getD undef = u8 at hT
      generalize T[9]?.getD undef = u9 at hT
      generalize T[10]?.getD undef = u10 at hT
      generalize T[11]?.getD undef = u11 at hT
      generalize T[12]?.getD undef = u12 at hT
      generalize T[13]?.getD undef = u13 at hT
      generalize T[14]?.getD undef = u14 at hT
      generalize T[15]?.getD undef = u15 at hT
      generalize T[16]?.getD undef = u16 at hT
      generalize T[17]?.getD undef = u17 at hT
      generalize T[18]?.getD undef = u18 at hT
      generalize T[19]?.getD undef = u19 at hT
      generalize T[20]?.getD undef = u20 at hT
      generalize T[21]?.getD undef = u21 at hT
      subst hT
      go_wp2_with fail
      go_ret
      exact ⟨by rw [hr.out]; rfl, (by (have q_hbF := Below.size hbF; (try simp at q_hbF); repeat (first | exact Below.refl _ _ | (refine Below.trans ?_ (Below.mono hbF (by first | omega | (simp; omega) | simp))) | (refine Below.setCell ?_ (by first | omega | (simp; omega) | simp) _) | (refine Below.alloc ?_ (by first | omega | (simp; omega) | simp) _) | apply Below.drew | apply below_drewN)))⟩
  | true =>
    have hq := run_eql_rest f1 f2 f3 f4 f5 f6 n y1 y2 y3 y4 y5 y6 m
    rw [hd] at hq
    by_cases h9 : f1 = 9
    · subst h9
      have hr := Lib.hid (likeA_nine (x := ((9, f2, f3, f4, f5, f6), L)) (y := ((y1, y2, y3, y4, y5, y6), M)) (by rw [hl1, hl2]; exact hd) rfl)
      clear hd ha hb
      go_enter Try.func22, Try.ntmps22
      go_wp2_with fail
      refine wp_flows [(fun y_ _ => y_ = actV 9 f2 f3 f4 f5 f6 A n c), (fun y_ _ => y_ = restV 9 f2 f3 f4 f5 f6 n), (fun y_ _ => y_ = actV y1 y2 y3 y4 y5 y6 B m d), (fun y_ _ => y_ = restV y1 y2 y3 y4 y5 y6 m), (fun y_ _ => y_ = .bool true), (fun y_ _ => y_ = .bool true), (fun y_ _ => y_ = .pointer (some ⟨w.heap.size, 0, none⟩)), (fun y_ _ => y_ = .int .i64 9), (fun y_ _ => y_ = .bool true), (fun y_ _ => y_ = .bool true), (fun y_ _ => y_ = undef), (fun y_ _ => y_ = undef), (fun y_ _ => y_ = undef), (fun y_ _ => y_ = undef), (fun y_ _ => y_ = undef), (fun y_ _ => y_ = .bool true), (fun y_ _ => y_ = .bool true), (fun y_ _ => y_ = .bool true)] (by kernel_rfl) ⟨Stab.eq _, Stab.eq _, Stab.eq _, Stab.eq _, Stab.eq _, Stab.eq _, Stab.eq _, Stab.eq _, Stab.eq _, Stab.eq _, Stab.eq _, Stab.eq _, Stab.eq _, Stab.eq _, Stab.eq _, Stab.eq _, Stab.eq _, Stab.eq _, trivial⟩ (by kernel_rfl) (by rfl) ?_ ?_
      · intro kq hkq
        match kq, hkq with
        | 0, _ =>
          refine StepOk.plain _ 5 rfl rfl rfl [(2, none)] (by kernel_rfl) (fun af wf hbw hf Kf hKf => ?_)
          obtain ⟨g2, _⟩ := hf
          have h2 : af.tmps[2]?.getD undef = .pointer (some ⟨w.heap.size, 0, none⟩) := g2
          clear g2
          have cB0 := (Blk.on (Blk.drew (P0)) hbw).cell
          have cB1 := (Blk.on (Blk.drew (Q0)) hbw).cell
          go_simp
          exact hKf _ _ (Below.refl _ _) rfl
        | 1, _ =>
          refine StepOk.plain _ 6 rfl rfl rfl [(5, some 0)] (by kernel_rfl) (fun af wf hbw hf Kf hKf => ?_)
          obtain ⟨g5, _⟩ := hf
          have h5 : af.tmps[5]?.getD undef = actV 9 f2 f3 f4 f5 f6 A n c := g5
          clear g5
          go_simp
          refine (rest_any 9 f2 f3 f4 f5 f6 A n c _).mono ?_
          rintro e wN ⟨rfl, hb1⟩
          exact hKf _ _ (hb1) (rfl)
        | 2, _ =>
          refine StepOk.plain _ 7 rfl rfl rfl [(3, none)] (by kernel_rfl) (fun af wf hbw hf Kf hKf => ?_)
          obtain ⟨g3, _⟩ := hf
          have h3 : af.tmps[3]?.getD undef = .pointer (some ⟨w.heap.size + 1, 0, none⟩) := g3
          clear g3
          have cB0 := (Blk.on (Blk.drew (P0)) hbw).cell
          have cB1 := (Blk.on (Blk.drew (Q0)) hbw).cell
          go_simp
          exact hKf _ _ (Below.refl _ _) rfl
        | 3, _ =>
          refine StepOk.plain _ 8 rfl rfl rfl [(7, some 2)] (by kernel_rfl) (fun af wf hbw hf Kf hKf => ?_)
          obtain ⟨g7, _⟩ := hf
          have h7 : af.tmps[7]?.getD undef = actV y1 y2 y3 y4 y5 y6 B m d := g7
          clear g7
          go_simp
          refine (rest_any y1 y2 y3 y4 y5 y6 B m d _).mono ?_
          rintro e wN ⟨rfl, hb1⟩
          exact hKf _ _ (hb1) (rfl)
        | 4, _ =>
          refine StepOk.plain _ 9 rfl rfl rfl [(6, some 1), (8, some 3)] (by kernel_rfl) (fun af wf hbw hf Kf hKf => ?_)
          obtain ⟨g6, g8, _⟩ := hf
          have h6 : af.tmps[6]?.getD undef = restV 9 f2 f3 f4 f5 f6 n := g6
          have h8 : af.tmps[8]?.getD undef = restV y1 y2 y3 y4 y5 y6 m := g8
          clear g6 g8
          have hq4 := hq
          go_simp
          exact hKf _ _ (Below.refl _ _) rfl
        | 5, _ =>
          refine StepOk.plain _ 10 rfl rfl rfl [(9, some 4)] (by kernel_rfl) (fun af wf hbw hf Kf hKf => ?_)
          obtain ⟨g9, _⟩ := hf
          have h9 : af.tmps[9]?.getD undef = .bool true := g9
          clear g9
          go_simp
          exact hKf _ _ (Below.refl _ _) rfl
        | 6, _ =>
          refine StepOk.yes _ 11 rfl rfl rfl rfl (fun _ _ h => h) [(2, none)] (by kernel_rfl) (fun af wf hbw hf Kf hKf => ?_)
          obtain ⟨g2, _⟩ := hf
          have h2 : af.tmps[2]?.getD undef = .pointer (some ⟨w.heap.size, 0, none⟩) := g2
          clear g2
          go_simp
          exact hKf _ _ (Below.refl _ _) rfl
        | 7, _ =>
          refine StepOk.yes _ 12 rfl rfl rfl rfl (fun _ _ h => h) [(11, some 6)] (by kernel_rfl) (fun af wf hbw hf Kf hKf => ?_)
          obtain ⟨g11, _⟩ := hf
          have h11 : af.tmps[11]?.getD undef = .pointer (some ⟨w.heap.size, 0, none⟩) := g11
          clear g11
          have cB0 := (Blk.on (Blk.drew (P0)) hbw).cell
          have cB1 := (Blk.on (Blk.drew (Q0)) hbw).cell
          go_simp
          exact hKf _ _ (Below.refl _ _) rfl
        | 8, _ =>
          refine StepOk.yes _ 13 rfl rfl rfl rfl (fun _ _ h => h) [(12, some 7)] (by kernel_rfl) (fun af wf hbw hf Kf hKf => ?_)
          obtain ⟨g12, _⟩ := hf
          have h12 : af.tmps[12]?.getD undef = .int .i64 9 := g12
          clear g12
          go_simp
          exact hKf _ _ (Below.refl _ _) rfl
        | 9, _ =>
          refine StepOk.yes _ 14 rfl rfl rfl rfl (fun _ _ h => h) [(13, some 8)] (by kernel_rfl) (fun af wf hbw hf Kf hKf => ?_)
          obtain ⟨g13, _⟩ := hf
          have h13 : af.tmps[13]?.getD undef = .bool true := g13
          clear g13
          go_simp
          exact hKf _ _ (Below.refl _ _) rfl
        | 10, _ => exact StepOk.no _ 15 rfl rfl rfl rfl (fun _ _ h => h) (by decide) (by kernel_rfl) (fun _ => rfl)
        | 11, _ => exact StepOk.no _ 16 rfl rfl rfl rfl (fun _ _ h => h) (by decide) (by kernel_rfl) (fun _ => rfl)
        | 12, _ => exact StepOk.no _ 17 rfl rfl rfl rfl (fun _ _ h => h) (by decide) (by kernel_rfl) (fun _ => rfl)
        | 13, _ => exact StepOk.no _ 18 rfl rfl rfl rfl (fun _ _ h => h) (by decide) (by kernel_rfl) (fun _ => rfl)
        | 14, _ => exact StepOk.no _ 19 rfl rfl rfl rfl (fun _ _ h => h) (by decide) (by kernel_rfl) (fun _ => rfl)
        | 15, _ =>
          refine StepOk.yes _ 20 rfl rfl rfl rfl (fun _ _ h => h) [(14, some 9), (19, some 14)] (by kernel_rfl) (fun af wf hbw hf Kf hKf => ?_)
          obtain ⟨g14, g19, _⟩ := hf
          have h14 : af.tmps[14]?.getD undef = .bool true := g14
          have h19 : af.tmps[19]?.getD undef = undef := g19
          clear g14 g19
          go_simp
          exact hKf _ _ (Below.refl _ _) rfl
        | 16, _ =>
          refine StepOk.plain _ 21 rfl rfl rfl [(10, some 5), (20, some 15)] (by kernel_rfl) (fun af wf hbw hf Kf hKf => ?_)
          obtain ⟨g10, g20, _⟩ := hf
          have h10 : af.tmps[10]?.getD undef = .bool true := g10
          have h20 : af.tmps[20]?.getD undef = .bool true := g20
          clear g10 g20
          go_simp
          exact hKf _ _ (Below.refl _ _) rfl
        | 17, _ =>
          refine StepOk.plain _ 4 rfl rfl rfl [(21, some 16)] (by kernel_rfl) (fun af wf hbw hf Kf hKf => ?_)
          obtain ⟨g21, _⟩ := hf
          have h21 : af.tmps[21]?.getD undef = .bool true := g21
          clear g21
          go_simp
          exact hKf _ _ (Below.refl _ _) rfl
        | i + 18, h => exact absurd h (by show ¬ (i + 18 < 18); omega)
      · intro af wF hbF hdF hsF hbaseF hfactF
        obtain ⟨T, dsF⟩ := af
        obtain rfl : dsF = _ := hdF
        have e0 := hbaseF 0 (not_dst (by kernel_rfl))
        simp only [List.getElem?_toArray, List.getElem?_cons_zero, Option.getD_some] at e0
        have e1 := hbaseF 1 (not_dst (by kernel_rfl))
        simp only [List.getElem?_toArray, List.getElem?_cons_zero, List.getElem?_cons_succ, Option.getD_some] at e1
        have e2 := hbaseF 2 (not_dst (by kernel_rfl))
        simp only [List.getElem?_toArray, List.getElem?_cons_zero, List.getElem?_cons_succ, Option.getD_some] at e2
        have e3 := hbaseF 3 (not_dst (by kernel_rfl))
        simp only [List.getElem?_toArray, List.getElem?_cons_zero, List.getElem?_cons_succ, Option.getD_some] at e3
        have e4 := hfactF 17 4 (by decide) rfl
        replace e4 : T[4]?.getD undef = .bool true := e4
        clear hbaseF hfactF
        have hT : T = #[T[0]?.getD undef, T[1]?.getD undef, T[2]?.getD undef, T[3]?.getD undef, T[4]?.getD undef, T[5]?.getD undef, T[6]?.getD undef, T[7]?.getD undef, T[8]?.getD undef, T[9]?.getD undef, T[10]?.getD undef, T[11]?.getD undef, T[12]?.getD undef, T[13]?.getD undef, T[14]?.getD undef, T[15]?.getD undef, T[16]?.getD undef, T[17]?.getD undef, T[18]?.getD undef, T[19]?.getD undef, T[20]?.getD undef, T[21]?.getD undef] := arr_eq T 22 hsF
        clear hsF
        rw [e0] at hT; clear e0
        rw [e1] at hT; clear e1
        rw [e2] at hT; clear e2
        rw [e3] at hT; clear e3
        rw [e4] at hT; clear e4
        generalize T[5]?.getD undef = u5 at hT
        generalize T[6]?.getD undef = u6 at hT
        generalize T[7]?.getD undef = u7 at hT
        generalize T[8]?.getD undef = u8 at hT
        generalize T[9]?.getD undef = u9 at hT
        generalize T[10]?.getD undef = u10 at hT
        generalize T[11]?.getD undef = u11 at hT
        generalize T[12]?.getD undef = u12 at hT
        generalize T[13]?.getD undef = u13 at hT
        generalize T[14]?.getD undef = u14 at hT
        generalize T[15]?.getD undef = u15 at hT
        generalize T[16]?.getD undef = u16 at hT
        generalize T[17]?.getD undef = u17 at hT
        generalize T[18]?.getD undef = u18 at hT
        generalize T[19]?.getD undef = u19 at hT
        generalize T[20]?.getD undef = u20 at hT
        generalize T[21]?.getD undef = u21 at hT
        subst hT
        go_wp2_with fail
        go_ret
        exact ⟨by rw [hr.out]; rfl, (by (have q_hbF := Below.size hbF; (try simp at q_hbF); repeat (first | exact Below.refl _ _ | (refine Below.trans ?_ (Below.mono hbF (by first | omega | (simp; omega) | simp))) | (refine Below.setCell ?_ (by first | omega | (simp; omega) | simp) _) | (refine Below.alloc ?_ (by first | omega | (simp; omega) | simp) _) | apply Below.drew | apply below_drewN)))⟩
    · have hr := Lib.hid (likeA_other (x := ((f1, f2, f3, f4, f5, f6), L)) (y := ((y1, y2, y3, y4, y5, y6), M)) (by rw [hl1, hl2]; exact hd) h9)
      obtain ⟨X, hX⟩ : ∃ X, X = decide (L = M) := ⟨_, rfl⟩
      have HX := Lib.hid hX
      have k9 : (f1 == 9) = false := by simp [h9]
      clear hd ha hb hX h9
      go_enter Try.func22, Try.ntmps22
      go_wp2_with fail
      refine wp_flows [(fun y_ _ => y_ = actV f1 f2 f3 f4 f5 f6 A n c), (fun y_ _ => y_ = restV f1 f2 f3 f4 f5 f6 n), (fun y_ _ => y_ = actV y1 y2 y3 y4 y5 y6 B m d), (fun y_ _ => y_ = restV y1 y2 y3 y4 y5 y6 m), (fun y_ _ => y_ = .bool true), (fun y_ _ => y_ = .bool true), (fun y_ _ => y_ = .pointer (some ⟨w.heap.size, 0, none⟩)), (fun y_ _ => y_ = .int .i64 f1), (fun y_ _ => y_ = .bool false), (fun y_ _ => y_ = .bool false), (fun y_ _ => y_ = .pointer (some ⟨w.heap.size, 6, none⟩)), (fun y_ _ => y_ = .slice A n c), (fun y_ _ => y_ = .pointer (some ⟨w.heap.size + 1, 6, none⟩)), (fun y_ _ => y_ = .slice B m d), (fun y_ _ => y_ = .bool X), (fun y_ _ => y_ = .bool X), (fun y_ _ => y_ = .bool X), (fun y_ _ => y_ = .bool X)] (by kernel_rfl) ⟨Stab.eq _, Stab.eq _, Stab.eq _, Stab.eq _, Stab.eq _, Stab.eq _, Stab.eq _, Stab.eq _, Stab.eq _, Stab.eq _, Stab.eq _, Stab.eq _, Stab.eq _, Stab.eq _, Stab.eq _, Stab.eq _, Stab.eq _, Stab.eq _, trivial⟩ (by kernel_rfl) (by rfl) ?_ ?_
      · intro kq hkq
        match kq, hkq with
        | 0, _ =>
          refine StepOk.plain _ 5 rfl rfl rfl [(2, none)] (by kernel_rfl) (fun af wf hbw hf Kf hKf => ?_)
          obtain ⟨g2, _⟩ := hf
          have h2 : af.tmps[2]?.getD undef = .pointer (some ⟨w.heap.size, 0, none⟩) := g2
          clear g2
          have cB0 := (Blk.on (Blk.drew (P0)) hbw).cell
          have cB1 := (Blk.on (Blk.drew (Q0)) hbw).cell
          go_simp
          exact hKf _ _ (Below.refl _ _) rfl
        | 1, _ =>
          refine StepOk.plain _ 6 rfl rfl rfl [(5, some 0)] (by kernel_rfl) (fun af wf hbw hf Kf hKf => ?_)
          obtain ⟨g5, _⟩ := hf
          have h5 : af.tmps[5]?.getD undef = actV f1 f2 f3 f4 f5 f6 A n c := g5
          clear g5
          go_simp
          refine (rest_any f1 f2 f3 f4 f5 f6 A n c _).mono ?_
          rintro e wN ⟨rfl, hb1⟩
          exact hKf _ _ (hb1) (rfl)
        | 2, _ =>
          refine StepOk.plain _ 7 rfl rfl rfl [(3, none)] (by kernel_rfl) (fun af wf hbw hf Kf hKf => ?_)
          obtain ⟨g3, _⟩ := hf
          have h3 : af.tmps[3]?.getD undef = .pointer (some ⟨w.heap.size + 1, 0, none⟩) := g3
          clear g3
          have cB0 := (Blk.on (Blk.drew (P0)) hbw).cell
          have cB1 := (Blk.on (Blk.drew (Q0)) hbw).cell
          go_simp
          exact hKf _ _ (Below.refl _ _) rfl
        | 3, _ =>
          refine StepOk.plain _ 8 rfl rfl rfl [(7, some 2)] (by kernel_rfl) (fun af wf hbw hf Kf hKf => ?_)
          obtain ⟨g7, _⟩ := hf
          have h7 : af.tmps[7]?.getD undef = actV y1 y2 y3 y4 y5 y6 B m d := g7
          clear g7
          go_simp
          refine (rest_any y1 y2 y3 y4 y5 y6 B m d _).mono ?_
          rintro e wN ⟨rfl, hb1⟩
          exact hKf _ _ (hb1) (rfl)
        | 4, _ =>
          refine StepOk.plain _ 9 rfl rfl rfl [(6, some 1), (8, some 3)] (by kernel_rfl) (fun af wf hbw hf Kf hKf => ?_)
          obtain ⟨g6, g8, _⟩ := hf
          have h6 : af.tmps[6]?.getD undef = restV f1 f2 f3 f4 f5 f6 n := g6
          have h8 : af.tmps[8]?.getD undef = restV y1 y2 y3 y4 y5 y6 m := g8
          clear g6 g8
          have hq4 := hq
          go_simp
          exact hKf _ _ (Below.refl _ _) rfl
        | 5, _ =>
          refine StepOk.plain _ 10 rfl rfl rfl [(9, some 4)] (by kernel_rfl) (fun af wf hbw hf Kf hKf => ?_)
          obtain ⟨g9, _⟩ := hf
          have h9 : af.tmps[9]?.getD undef = .bool true := g9
          clear g9
          go_simp
          exact hKf _ _ (Below.refl _ _) rfl
        | 6, _ =>
          refine StepOk.yes _ 11 rfl rfl rfl rfl (fun _ _ h => h) [(2, none)] (by kernel_rfl) (fun af wf hbw hf Kf hKf => ?_)
          obtain ⟨g2, _⟩ := hf
          have h2 : af.tmps[2]?.getD undef = .pointer (some ⟨w.heap.size, 0, none⟩) := g2
          clear g2
          go_simp
          exact hKf _ _ (Below.refl _ _) rfl
        | 7, _ =>
          refine StepOk.yes _ 12 rfl rfl rfl rfl (fun _ _ h => h) [(11, some 6)] (by kernel_rfl) (fun af wf hbw hf Kf hKf => ?_)
          obtain ⟨g11, _⟩ := hf
          have h11 : af.tmps[11]?.getD undef = .pointer (some ⟨w.heap.size, 0, none⟩) := g11
          clear g11
          have cB0 := (Blk.on (Blk.drew (P0)) hbw).cell
          have cB1 := (Blk.on (Blk.drew (Q0)) hbw).cell
          go_simp
          exact hKf _ _ (Below.refl _ _) rfl
        | 8, _ =>
          refine StepOk.yes _ 13 rfl rfl rfl rfl (fun _ _ h => h) [(12, some 7)] (by kernel_rfl) (fun af wf hbw hf Kf hKf => ?_)
          obtain ⟨g12, _⟩ := hf
          have h12 : af.tmps[12]?.getD undef = .int .i64 f1 := g12
          clear g12
          have hq8 := k9
          go_simp
          exact hKf _ _ (Below.refl _ _) rfl
        | 9, _ =>
          refine StepOk.yes _ 14 rfl rfl rfl rfl (fun _ _ h => h) [(13, some 8)] (by kernel_rfl) (fun af wf hbw hf Kf hKf => ?_)
          obtain ⟨g13, _⟩ := hf
          have h13 : af.tmps[13]?.getD undef = .bool false := g13
          clear g13
          go_simp
          exact hKf _ _ (Below.refl _ _) rfl
        | 10, _ =>
          refine StepOk.yes _ 15 rfl rfl rfl rfl (fun _ _ h => h) [(2, none)] (by kernel_rfl) (fun af wf hbw hf Kf hKf => ?_)
          obtain ⟨g2, _⟩ := hf
          have h2 : af.tmps[2]?.getD undef = .pointer (some ⟨w.heap.size, 0, none⟩) := g2
          clear g2
          go_simp
          exact hKf _ _ (Below.refl _ _) rfl
        | 11, _ =>
          refine StepOk.yes _ 16 rfl rfl rfl rfl (fun _ _ h => h) [(15, some 10)] (by kernel_rfl) (fun af wf hbw hf Kf hKf => ?_)
          obtain ⟨g15, _⟩ := hf
          have h15 : af.tmps[15]?.getD undef = .pointer (some ⟨w.heap.size, 6, none⟩) := g15
          clear g15
          have cB0 := (Blk.on (Blk.drew (P0)) hbw).cell
          have cB1 := (Blk.on (Blk.drew (Q0)) hbw).cell
          go_simp
          exact hKf _ _ (Below.refl _ _) rfl
        | 12, _ =>
          refine StepOk.yes _ 17 rfl rfl rfl rfl (fun _ _ h => h) [(3, none)] (by kernel_rfl) (fun af wf hbw hf Kf hKf => ?_)
          obtain ⟨g3, _⟩ := hf
          have h3 : af.tmps[3]?.getD undef = .pointer (some ⟨w.heap.size + 1, 0, none⟩) := g3
          clear g3
          go_simp
          exact hKf _ _ (Below.refl _ _) rfl
        | 13, _ =>
          refine StepOk.yes _ 18 rfl rfl rfl rfl (fun _ _ h => h) [(17, some 12)] (by kernel_rfl) (fun af wf hbw hf Kf hKf => ?_)
          obtain ⟨g17, _⟩ := hf
          have h17 : af.tmps[17]?.getD undef = .pointer (some ⟨w.heap.size + 1, 6, none⟩) := g17
          clear g17
          have cB0 := (Blk.on (Blk.drew (P0)) hbw).cell
          have cB1 := (Blk.on (Blk.drew (Q0)) hbw).cell
          go_simp
          exact hKf _ _ (Below.refl _ _) rfl
        | 14, _ =>
          refine StepOk.yes _ 19 rfl rfl rfl rfl (fun _ _ h => h) [(16, some 11), (18, some 13)] (by kernel_rfl) (fun af wf hbw hf Kf hKf => ?_)
          obtain ⟨g16, g18, _⟩ := hf
          have h16 : af.tmps[16]?.getD undef = .slice A n c := g16
          have h18 : af.tmps[18]?.getD undef = .slice B m d := g18
          clear g16 g18
          go_simp
          refine (equal_any A B n m c d L M _ (Rd.below (Rd.drew RA) hbw) (Rd.below (Rd.drew RB) hbw)).mono ?_
          rintro e wN ⟨rfl, rfl⟩
          exact hKf _ _ ((Below.refl _ _)) (congrArg Value.bool HX.out.symm)
        | 15, _ =>
          refine StepOk.yes _ 20 rfl rfl rfl rfl (fun _ _ h => h) [(14, some 9), (19, some 14)] (by kernel_rfl) (fun af wf hbw hf Kf hKf => ?_)
          obtain ⟨g14, g19, _⟩ := hf
          have h14 : af.tmps[14]?.getD undef = .bool false := g14
          have h19 : af.tmps[19]?.getD undef = .bool X := g19
          clear g14 g19
          go_simp
          exact hKf _ _ (Below.refl _ _) rfl
        | 16, _ =>
          refine StepOk.plain _ 21 rfl rfl rfl [(10, some 5), (20, some 15)] (by kernel_rfl) (fun af wf hbw hf Kf hKf => ?_)
          obtain ⟨g10, g20, _⟩ := hf
          have h10 : af.tmps[10]?.getD undef = .bool true := g10
          have h20 : af.tmps[20]?.getD undef = .bool X := g20
          clear g10 g20
          go_simp
          exact hKf _ _ (Below.refl _ _) rfl
        | 17, _ =>
          refine StepOk.plain _ 4 rfl rfl rfl [(21, some 16)] (by kernel_rfl) (fun af wf hbw hf Kf hKf => ?_)
          obtain ⟨g21, _⟩ := hf
          have h21 : af.tmps[21]?.getD undef = .bool X := g21
          clear g21
          go_simp
          exact hKf _ _ (Below.refl _ _) rfl
        | i + 18, h => exact absurd h (by show ¬ (i + 18 < 18); omega)
      · intro af wF hbF hdF hsF hbaseF hfactF
        obtain ⟨T, dsF⟩ := af
        obtain rfl : dsF = _ := hdF
        have e0 := hbaseF 0 (not_dst (by kernel_rfl))
        simp only [List.getElem?_toArray, List.getElem?_cons_zero, Option.getD_some] at e0
        have e1 := hbaseF 1 (not_dst (by kernel_rfl))
        simp only [List.getElem?_toArray, List.getElem?_cons_zero, List.getElem?_cons_succ, Option.getD_some] at e1
        have e2 := hbaseF 2 (not_dst (by kernel_rfl))
        simp only [List.getElem?_toArray, List.getElem?_cons_zero, List.getElem?_cons_succ, Option.getD_some] at e2
        have e3 := hbaseF 3 (not_dst (by kernel_rfl))
        simp only [List.getElem?_toArray, List.getElem?_cons_zero, List.getElem?_cons_succ, Option.getD_some] at e3
        have e4 := hfactF 17 4 (by decide) rfl
        replace e4 : T[4]?.getD undef = .bool X := e4
        clear hbaseF hfactF
        have hT : T = #[T[0]?.getD undef, T[1]?.getD undef, T[2]?.getD undef, T[3]?.getD undef, T[4]?.getD undef, T[5]?.getD undef, T[6]?.getD undef, T[7]?.getD undef, T[8]?.getD undef, T[9]?.getD undef, T[10]?.getD undef, T[11]?.getD undef, T[12]?.getD undef, T[13]?.getD undef, T[14]?.getD undef, T[15]?.getD undef, T[16]?.getD undef, T[17]?.getD undef, T[18]?.getD undef, T[19]?.getD undef, T[20]?.getD undef, T[21]?.getD undef] := arr_eq T 22 hsF
        clear hsF
        rw [e0] at hT; clear e0
        rw [e1] at hT; clear e1
        rw [e2] at hT; clear e2
        rw [e3] at hT; clear e3
        rw [e4] at hT; clear e4
        generalize T[5]?.getD undef = u5 at hT
        generalize T[6]?.getD undef = u6 at hT
        generalize T[7]?.getD undef = u7 at hT
        generalize T[8]?.getD undef = u8 at hT
        generalize T[9]?.getD undef = u9 at hT
        generalize T[10]?.getD undef = u10 at hT
        generalize T[11]?.getD undef = u11 at hT
        generalize T[12]?.getD undef = u12 at hT
        generalize T[13]?.getD undef = u13 at hT
        generalize T[14]?.getD undef = u14 at hT
        generalize T[15]?.getD undef = u15 at hT
        generalize T[16]?.getD undef = u16 at hT
        generalize T[17]?.getD undef = u17 at hT
        generalize T[18]?.getD undef = u18 at hT
        generalize T[19]?.getD undef = u19 at hT
        generalize T[20]?.getD undef = u20 at hT
        generalize T[21]?.getD undef = u21 at hT
        subst hT
        go_wp2_with fail
        go_ret
        exact ⟨by rw [hr.out, ← HX.out]; rfl, (by (have q_hbF := Below.size hbF; (try simp at q_hbF); repeat (first | exact Below.refl _ _ | (refine Below.trans ?_ (Below.mono hbF (by first | omega | (simp; omega) | simp))) | (refine Below.setCell ?_ (by first | omega | (simp; omega) | simp) _) | (refine Below.alloc ?_ (by first | omega | (simp; omega) | simp) _) | apply Below.drew | apply below_drewN)))⟩
end Go.Proofs.Ythlgagjnlnakkaa
