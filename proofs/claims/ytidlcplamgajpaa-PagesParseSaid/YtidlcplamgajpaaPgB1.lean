/- Pages as bytes: one page; sixteen. -/
import Derived.Test.YtidlcplamgajpaaPgM
import Derived.Test.YtidlcplamgajpaaConcatB
import Derived.Test.YtidlcplamgajpaaFlow
import Derived.Test.YtidlcplamgajpaaPages5
namespace Go.Proofs.Ytidlcplamgajpaa
open Go.RowKit

/-- Values that are slices of bytes. -/
def AllRd (w : World) : List Value → List (List UInt8) → Prop
  | [], [] => True
  | v :: vs, l :: ls => (∃ A n c, v = .slice A n c ∧ Rd w A n l ∧ n ≤ c ∧ c ≤ maxLen) ∧ AllRd w vs ls
  | _, _ => False
theorem AllRd.at_ {w : World} : ∀ {vs : List Value} {ls : List (List UInt8)}, AllRd w vs ls → ∀ (k : Nat) (l : List UInt8), ls[k]? = some l → ∃ A c, vs[k]? = some (.slice A l.length c) ∧ Rd w A l.length l ∧ l.length ≤ c ∧ c ≤ maxLen
  | [], [], _, k, l, h => by simp at h
  | v :: vs, l :: ls, ⟨⟨A, n, c, e, hR, h2⟩, _⟩, 0, l', h => by
    simp at h
    subst h
    obtain rfl := hR.len
    exact ⟨A, c, by simp [e], hR, h2⟩
  | v :: vs, l :: ls, ⟨_, ha⟩, k + 1, l', h => by
    obtain ⟨A, c, e, h2⟩ := AllRd.at_ ha k l' (by simpa using h)
    exact ⟨A, c, by simpa using e, h2⟩
  | [], _ :: _, h, _, _, _ => h.elim
  | _ :: _, [], h, _, _, _ => h.elim
theorem RdSS.of_blk {w : World} {g : Nat} {T : TypeId} {cs : Array Value} {ls : List (List UInt8)} {n : Nat} (h : Blk w g T cs) (ha : AllRd w cs.toList ls) (hn : ls.length = n) : RdSS w (some ⟨g, 0, none⟩) n ls :=
  ⟨hn, fun _ => ⟨g, 0, rfl, h.lt, fun k l hk => by
    obtain ⟨A, c, e, h2⟩ := ha.at_ k l hk
    exact ⟨A, c, by rw [Nat.zero_add, h.cell k, ← Array.getElem?_toList]; exact e, h2⟩⟩⟩
def IsSS (n : Nat) (ls : List (List UInt8)) (v : Value) (w : World) : Prop := ∃ A c, v = .slice A n c ∧ RdSS w A n ls ∧ n ≤ c ∧ c ≤ maxLen
theorem Stab.ss (n : Nat) (ls : List (List UInt8)) : Stab (IsSS n ls) := fun _ _ _ hb ⟨A, c, e, h, h1⟩ => ⟨A, c, e, h.below hb, h1⟩
/-- Bytes of a call's own, in a slot. -/
def IsFrB (T : TypeId) (B : Nat) (L : List UInt8) (y : Value) (W : World) : Prop := ∃ A c, y = .slice A L.length c ∧ Fresh T B W (.slice A L.length c) L
theorem IsFrB.stab (T : TypeId) (B : Nat) (L : List UInt8) : Stab (IsFrB T B L) := fun _ _ _ hb ⟨A, c, e, h⟩ => ⟨A, c, e, h.below hb⟩
theorem IsFrB.of {T : TypeId} {B : Nat} {L : List UInt8} {y : Value} {W : World} (h : Fresh T B W y L) : IsFrB T B L y W := by
  obtain ⟨A, c, e, _⟩ := id h
  exact ⟨A, c, e, e ▸ h⟩
theorem wrap8 (v : Int) : IntKind.u8.wrap v = ((byteI v 0).toNat : Int) := by
  have := byteI_val v 0
  simp only [Int.pow_zero, Int.ediv_one] at this
  rw [this]
  simp [IntKind.wrap, IntKind.signed, IntKind.bits]
theorem wrap64 (v : Int) (h0 : 0 ≤ v) (h1 : v < 18446744073709551616) : IntKind.u64.wrap v = v := by
  simp [IntKind.wrap, IntKind.signed, IntKind.bits]
  omega
theorem Rd.two (w : World) (T : TypeId) (a b : UInt8) : Rd (w.alloc (.cells #[.int .u8 (a.toNat : Int), .int .u8 (b.toNat : Int)] T)) (some ⟨w.heap.size, 0, none⟩) 2 [a, b] :=
  Rd.of_blk (Blk.new w T _) rfl fun j c hj => by
    match j, hj with
    | 0, hj => simp at hj; subst hj; rfl
    | 1, hj => simp at hj; subst hj; rfl
set_option maxRecDepth 100000 in
set_option maxHeartbeats 4000000 in
theorem pbytes_any (a b c d s : Int) (w : World) (hx : roomPg (a, b, c, d, s)) :
    Calls Try.prog 49 #[.agg #[.int .i64 a, .int .i64 b, .int .i64 c, .int .i64 d, .int .u64 s]] w (Gives 5 w (pgL (a, b, c, d, s))) := by
  obtain ⟨⟨a0, a1⟩, ⟨b0, b1⟩, ⟨c0, c1⟩, ⟨d0, d1⟩, ⟨s0, s1⟩⟩ := hx
  simp only at a0 a1 b0 b1 c0 c1 d0 d1 s0 s1
  have B1 := Blk.new w 65 #[.int .i64 a, .int .i64 b, .int .i64 c, .int .i64 d, .int .u64 s]
  have hfl : [[byteI a 0, byteI b 0], putL 2 c, putL 4 d, putL 8 s].flatten = pgL (a, b, c, d, s) := by simp [pgL]
  have hpl := pgL_len (a, b, c, d, s)
  obtain ⟨PL, hPL⟩ : ∃ PL, PL = pgL (a, b, c, d, s) := ⟨_, rfl⟩
  rw [← hPL] at hfl hpl ⊢
  have HFL := Lib.hid hfl
  have HPL := Lib.hid hpl
  clear hPL hfl hpl
  go_enter Try.func49, Try.ntmps49
  go_wp2_with fail
  refine wp_flows [(fun y_ _ => y_ = .pointer (some ⟨w.heap.size, 0, none⟩)), (fun y_ _ => y_ = .int .i64 a), (fun y_ _ => y_ = .int .u8 ((byteI a 0).toNat : Int)), (fun y_ _ => y_ = .pointer (some ⟨w.heap.size, 1, none⟩)), (fun y_ _ => y_ = .int .i64 b), (fun y_ _ => y_ = .int .u8 ((byteI b 0).toNat : Int)), (IsB (2) ([byteI a 0, byteI b 0])), (fun y_ _ => y_ = .pointer (some ⟨w.heap.size, 2, none⟩)), (fun y_ _ => y_ = .int .i64 c), (fun y_ _ => y_ = .int .u64 c), (IsB (2) (putL 2 c)), (fun y_ _ => y_ = .pointer (some ⟨w.heap.size, 3, none⟩)), (fun y_ _ => y_ = .int .i64 d), (fun y_ _ => y_ = .int .u64 d), (IsB (4) (putL 4 d)), (fun y_ _ => y_ = .pointer (some ⟨w.heap.size, 4, none⟩)), (fun y_ _ => y_ = .int .u64 s), (IsB (8) (putL 8 s)), IsSS 4 [[byteI a 0, byteI b 0], putL 2 c, putL 4 d, putL 8 s], IsFrB 5 w.heap.size PL, IsFrB 5 w.heap.size PL] (by kernel_rfl) ⟨Stab.eq _, Stab.eq _, Stab.eq _, Stab.eq _, Stab.eq _, Stab.eq _, Stab.b _ _, Stab.eq _, Stab.eq _, Stab.eq _, Stab.b _ _, Stab.eq _, Stab.eq _, Stab.eq _, Stab.b _ _, Stab.eq _, Stab.eq _, Stab.b _ _, Stab.ss _ _, IsFrB.stab _ _ _, IsFrB.stab _ _ _, trivial⟩ (by kernel_rfl) (by rfl) ?_ ?_
  · intro kq hkq
    match kq, hkq with
    | 0, _ =>
      refine StepOk.plain _ 3 rfl rfl rfl [(1, none)] (by kernel_rfl) (fun af wf hbw hf Kf hKf => ?_)
      obtain ⟨g1, _⟩ := hf
      have h1 : af.tmps[1]?.getD undef = .pointer (some ⟨w.heap.size, 0, none⟩) := g1
      clear g1
      go_simp
      exact hKf _ _ (Below.refl _ _) rfl
    | 1, _ =>
      refine StepOk.plain _ 4 rfl rfl rfl [(3, some 0)] (by kernel_rfl) (fun af wf hbw hf Kf hKf => ?_)
      obtain ⟨g3, _⟩ := hf
      have h3 : af.tmps[3]?.getD undef = .pointer (some ⟨w.heap.size, 0, none⟩) := g3
      clear g3
      have cB0 := (Blk.on (Blk.drew (B1)) hbw).cell
      go_simp
      exact hKf _ _ (Below.refl _ _) rfl
    | 2, _ =>
      refine StepOk.plain _ 5 rfl rfl rfl [(4, some 1)] (by kernel_rfl) (fun af wf hbw hf Kf hKf => ?_)
      obtain ⟨g4, _⟩ := hf
      have h4 : af.tmps[4]?.getD undef = .int .i64 a := g4
      clear g4
      have hw8 := wrap8 a
      go_simp
      exact hKf _ _ (Below.refl _ _) rfl
    | 3, _ =>
      refine StepOk.plain _ 6 rfl rfl rfl [(1, none)] (by kernel_rfl) (fun af wf hbw hf Kf hKf => ?_)
      obtain ⟨g1, _⟩ := hf
      have h1 : af.tmps[1]?.getD undef = .pointer (some ⟨w.heap.size, 0, none⟩) := g1
      clear g1
      go_simp
      exact hKf _ _ (Below.refl _ _) rfl
    | 4, _ =>
      refine StepOk.plain _ 7 rfl rfl rfl [(6, some 3)] (by kernel_rfl) (fun af wf hbw hf Kf hKf => ?_)
      obtain ⟨g6, _⟩ := hf
      have h6 : af.tmps[6]?.getD undef = .pointer (some ⟨w.heap.size, 1, none⟩) := g6
      clear g6
      have cB0 := (Blk.on (Blk.drew (B1)) hbw).cell
      go_simp
      exact hKf _ _ (Below.refl _ _) rfl
    | 5, _ =>
      refine StepOk.plain _ 8 rfl rfl rfl [(7, some 4)] (by kernel_rfl) (fun af wf hbw hf Kf hKf => ?_)
      obtain ⟨g7, _⟩ := hf
      have h7 : af.tmps[7]?.getD undef = .int .i64 b := g7
      clear g7
      have hw8 := wrap8 b
      go_simp
      exact hKf _ _ (Below.refl _ _) rfl
    | 6, _ =>
      refine StepOk.plain _ 9 rfl rfl rfl [(5, some 2), (8, some 5)] (by kernel_rfl) (fun af wf hbw hf Kf hKf => ?_)
      obtain ⟨g5, g8, _⟩ := hf
      have h5 : af.tmps[5]?.getD undef = .int .u8 ((byteI a 0).toNat : Int) := g5
      have h8 : af.tmps[8]?.getD undef = .int .u8 ((byteI b 0).toNat : Int) := g8
      clear g5 g8
      go_simp
      exact hKf _ _ ((Below.refl _ _).alloc (Nat.le_refl _) _) (⟨_, _, rfl, Rd.two _ _ _ _, Nat.le_refl _, by unfold maxLen; omega⟩)
    | 7, _ =>
      refine StepOk.plain _ 10 rfl rfl rfl [(1, none)] (by kernel_rfl) (fun af wf hbw hf Kf hKf => ?_)
      obtain ⟨g1, _⟩ := hf
      have h1 : af.tmps[1]?.getD undef = .pointer (some ⟨w.heap.size, 0, none⟩) := g1
      clear g1
      go_simp
      exact hKf _ _ (Below.refl _ _) rfl
    | 8, _ =>
      refine StepOk.plain _ 11 rfl rfl rfl [(10, some 7)] (by kernel_rfl) (fun af wf hbw hf Kf hKf => ?_)
      obtain ⟨g10, _⟩ := hf
      have h10 : af.tmps[10]?.getD undef = .pointer (some ⟨w.heap.size, 2, none⟩) := g10
      clear g10
      have cB0 := (Blk.on (Blk.drew (B1)) hbw).cell
      go_simp
      exact hKf _ _ (Below.refl _ _) rfl
    | 9, _ =>
      refine StepOk.plain _ 12 rfl rfl rfl [(11, some 8)] (by kernel_rfl) (fun af wf hbw hf Kf hKf => ?_)
      obtain ⟨g11, _⟩ := hf
      have h11 : af.tmps[11]?.getD undef = .int .i64 c := g11
      clear g11
      have hw9 := wrap64 c c0 (by omega)
      go_simp
      exact hKf _ _ (Below.refl _ _) rfl
    | 10, _ =>
      refine StepOk.plain _ 13 rfl rfl rfl [(12, some 9)] (by kernel_rfl) (fun af wf hbw hf Kf hKf => ?_)
      obtain ⟨g12, _⟩ := hf
      have h12 : af.tmps[12]?.getD undef = .int .u64 c := g12
      clear g12
      go_simp
      refine (put_any 2 c _ (by omega) (by omega) c0 (by omega)).mono ?_
      rintro e wN ⟨r, rfl, hF, hb⟩
      exact hKf _ _ (hb) (IsB.of hF (putL_len _ _))
    | 11, _ =>
      refine StepOk.plain _ 14 rfl rfl rfl [(1, none)] (by kernel_rfl) (fun af wf hbw hf Kf hKf => ?_)
      obtain ⟨g1, _⟩ := hf
      have h1 : af.tmps[1]?.getD undef = .pointer (some ⟨w.heap.size, 0, none⟩) := g1
      clear g1
      go_simp
      exact hKf _ _ (Below.refl _ _) rfl
    | 12, _ =>
      refine StepOk.plain _ 15 rfl rfl rfl [(14, some 11)] (by kernel_rfl) (fun af wf hbw hf Kf hKf => ?_)
      obtain ⟨g14, _⟩ := hf
      have h14 : af.tmps[14]?.getD undef = .pointer (some ⟨w.heap.size, 3, none⟩) := g14
      clear g14
      have cB0 := (Blk.on (Blk.drew (B1)) hbw).cell
      go_simp
      exact hKf _ _ (Below.refl _ _) rfl
    | 13, _ =>
      refine StepOk.plain _ 16 rfl rfl rfl [(15, some 12)] (by kernel_rfl) (fun af wf hbw hf Kf hKf => ?_)
      obtain ⟨g15, _⟩ := hf
      have h15 : af.tmps[15]?.getD undef = .int .i64 d := g15
      clear g15
      have hw9 := wrap64 d d0 (by omega)
      go_simp
      exact hKf _ _ (Below.refl _ _) rfl
    | 14, _ =>
      refine StepOk.plain _ 17 rfl rfl rfl [(16, some 13)] (by kernel_rfl) (fun af wf hbw hf Kf hKf => ?_)
      obtain ⟨g16, _⟩ := hf
      have h16 : af.tmps[16]?.getD undef = .int .u64 d := g16
      clear g16
      go_simp
      refine (put_any 4 d _ (by omega) (by omega) d0 (by omega)).mono ?_
      rintro e wN ⟨r, rfl, hF, hb⟩
      exact hKf _ _ (hb) (IsB.of hF (putL_len _ _))
    | 15, _ =>
      refine StepOk.plain _ 18 rfl rfl rfl [(1, none)] (by kernel_rfl) (fun af wf hbw hf Kf hKf => ?_)
      obtain ⟨g1, _⟩ := hf
      have h1 : af.tmps[1]?.getD undef = .pointer (some ⟨w.heap.size, 0, none⟩) := g1
      clear g1
      go_simp
      exact hKf _ _ (Below.refl _ _) rfl
    | 16, _ =>
      refine StepOk.plain _ 19 rfl rfl rfl [(18, some 15)] (by kernel_rfl) (fun af wf hbw hf Kf hKf => ?_)
      obtain ⟨g18, _⟩ := hf
      have h18 : af.tmps[18]?.getD undef = .pointer (some ⟨w.heap.size, 4, none⟩) := g18
      clear g18
      have cB0 := (Blk.on (Blk.drew (B1)) hbw).cell
      go_simp
      exact hKf _ _ (Below.refl _ _) rfl
    | 17, _ =>
      refine StepOk.plain _ 20 rfl rfl rfl [(19, some 16)] (by kernel_rfl) (fun af wf hbw hf Kf hKf => ?_)
      obtain ⟨g19, _⟩ := hf
      have h19 : af.tmps[19]?.getD undef = .int .u64 s := g19
      clear g19
      go_simp
      refine (put_any 8 s _ (by omega) (by omega) s0 (by omega)).mono ?_
      rintro e wN ⟨r, rfl, hF, hb⟩
      exact hKf _ _ (hb) (IsB.of hF (putL_len _ _))
    | 18, _ =>
      refine StepOk.plain _ 21 rfl rfl rfl [(9, some 6), (13, some 10), (17, some 14), (20, some 17)] (by kernel_rfl) (fun af wf hbw hf Kf hKf => ?_)
      obtain ⟨g9, g13, g17, g20, _⟩ := hf
      obtain ⟨A9, c9, h9, hR9, hn9, hm9⟩ : IsB (2) ([byteI a 0, byteI b 0]) (af.tmps[9]?.getD undef) wf := g9
      obtain ⟨A13, c13, h13, hR13, hn13, hm13⟩ : IsB (2) (putL 2 c) (af.tmps[13]?.getD undef) wf := g13
      obtain ⟨A17, c17, h17, hR17, hn17, hm17⟩ : IsB (4) (putL 4 d) (af.tmps[17]?.getD undef) wf := g17
      obtain ⟨A20, c20, h20, hR20, hn20, hm20⟩ : IsB (8) (putL 8 s) (af.tmps[20]?.getD undef) wf := g20
      go_simp
      exact hKf _ _ ((Below.refl _ _).alloc (Nat.le_refl _) _) (⟨_, _, rfl, RdSS.of_blk (Blk.new _ _ _) ⟨⟨_, _, _, rfl, hR9.alloc _, hn9, hm9⟩, ⟨_, _, _, rfl, hR13.alloc _, hn13, hm13⟩, ⟨_, _, _, rfl, hR17.alloc _, hn17, hm17⟩, ⟨_, _, _, rfl, hR20.alloc _, hn20, hm20⟩, trivial⟩ rfl, by omega, by unfold maxLen; omega⟩)
    | 19, _ =>
      refine StepOk.plain _ 22 rfl rfl rfl [(21, some 18)] (by kernel_rfl) (fun af wf hbw hf Kf hKf => ?_)
      obtain ⟨g21, _⟩ := hf
      have g21 : IsSS 4 [[byteI a 0, byteI b 0], putL 2 c, putL 4 d, putL 8 s] (af.tmps[21]?.getD undef) wf := g21
      obtain ⟨A21, c21, h21, hS21, hn21, hm21⟩ := g21
      go_simp
      refine (concat_any _ 4 _ _ _ hS21 (by omega) (by rw [HFL.out, HPL.out]; omega)).mono ?_
      rintro e wN ⟨r, rfl, hF, hb⟩
      exact hKf _ _ (hb) (IsFrB.of (HFL.out ▸ hF.from_ (Nat.le_trans (by simp) hbw.size)))
    | 20, _ =>
      refine StepOk.plain _ 2 rfl rfl rfl [(22, some 19)] (by kernel_rfl) (fun af wf hbw hf Kf hKf => ?_)
      obtain ⟨g22, _⟩ := hf
      have g22 : IsFrB 5 w.heap.size PL (af.tmps[22]?.getD undef) wf := g22
      obtain ⟨A22, c22, h22, hF22⟩ := g22
      go_simp
      exact hKf _ _ (Below.refl _ _) (⟨A22, c22, rfl, hF22⟩)
    | i + 21, h => exact absurd h (by show ¬ (i + 21 < 21); omega)
  · intro af wF hbF hdF hsF hbaseF hfactF
    obtain ⟨T, dsF⟩ := af
    obtain rfl : dsF = _ := hdF
    have e2 := hfactF 20 2 (by decide) rfl
    replace e2 : IsFrB 5 w.heap.size PL (T[2]?.getD undef) wF := e2
    have hT := frame_back T [2, 3, 4, 5, 6, 7, 8, 9, 10, 11, 12, 13, 14, 15, 16, 17, 18, 19, 20, 21, 22] hbaseF hsF (by kernel_rfl)
    simp only [List.foldl_cons, List.foldl_nil, List.setIfInBounds_toArray, List.set_cons_zero, List.set_cons_succ] at hT
    clear hbaseF hfactF hsF
    generalize T[2]?.getD undef = u2 at hT e2
    generalize T[3]?.getD undef = u3 at hT
    generalize T[4]?.getD undef = u4 at hT
    generalize T[5]?.getD undef = u5 at hT
    generalize T[6]?.getD undef = u6 at hT
    generalize T[7]?.getD undef = u7 at hT
    generalize T[8]?.getD undef = u8 at hT
    generalize T[9]?.getD undef = u9 at hT
    generalize T[10]?.getD undef = u10 at hT
    generalize T[11]?.getD undef = u11 at hT
    generalize T[12]?.getD undef = u12 at hT
    generalize T[13]?.getD undef = u13 at hT
    generalize T[14]?.getD undef = u14 at hT
    generalize T[15]?.getD undef = u15 at hT
    generalize T[16]?.getD undef = u16 at hT
    generalize T[17]?.getD undef = u17 at hT
    generalize T[18]?.getD undef = u18 at hT
    generalize T[19]?.getD undef = u19 at hT
    generalize T[20]?.getD undef = u20 at hT
    generalize T[21]?.getD undef = u21 at hT
    generalize T[22]?.getD undef = u22 at hT
    subst hT
    obtain ⟨A9, c9, rfl, hF9⟩ := e2
    go_wp2_with fail
    go_ret
    exact ⟨_, rfl, hF9, (by (have q_hbF := Below.size hbF; (try simp at q_hbF); repeat (first | exact Below.refl _ _ | (refine Below.trans ?_ (Below.mono hbF (by first | omega | (simp; omega) | simp))) | (refine Below.setCell ?_ (by first | omega | (simp; omega) | simp) _) | (refine Below.alloc ?_ (by first | omega | (simp; omega) | simp) _) | apply Below.drew | apply below_drewN)))⟩
end Go.Proofs.Ytidlcplamgajpaa
