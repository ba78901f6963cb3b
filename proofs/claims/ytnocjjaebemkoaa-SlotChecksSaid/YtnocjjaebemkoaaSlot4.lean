/- Slots: bytes laid and cleared in a page of one's own. -/
import Derived.Test.YtnocjjaebemkoaaSlot3
import Derived.Test.YtnocjjaebemkoaaConcatB
import Derived.Test.YtnocjjaebemkoaaFlow
namespace Go.Proofs.Ytnocjjaebemkoaa
open Go.RowKit

theorem Fresh.lay_ {T : TypeId} {B : Nat} {w : World} {l : List UInt8} {A : Option Addr} {n c : Nat} (h : Fresh T B w (.slice A n c) l) (hn : l.length = n) {g : Nat} {cur : Array Value} (hA : A = some ⟨g, 0, none⟩) (hB : Blk w g T cur) (off : Nat) (x : List UInt8) (hfit : off + x.length ≤ n) :
    Fresh T B (w.setRow g (lay cur off x)) (.slice A n c) (layL l off x) := by
  obtain ⟨A', c', hv, hown⟩ := h
  injection hv with h1 h2 h3
  subst h1 h3 hA
  have hl : (layL l off x).length = n := by rw [layL_len _ _ _ (by omega)]; exact hn
  refine ⟨_, c, by rw [hl], ?_⟩
  rcases hown.2 with ⟨h0, _⟩ | ⟨g', cap, cur', hv, hg, hh, hnc, hcm, hsz, hx⟩
  · cases h0
  · injection hv with h1 _ h3
    injection h1 with h1
    injection h1 with h1
    subst h1 h3
    have e : cur = cur' := by unfold Blk at hB; rw [hB] at hh; injection hh with hh; injection hh
    subst e
    rw [Nat.mul_one] at hx hsz
    rw [hn] at hx hnc
    refine ⟨by simp, .inr ⟨g, c, _, by rw [hl], hg, hB.row _, by omega, hcm, by rw [lay_size _ _ _ (by omega)]; simpa using hsz, ?_⟩⟩
    rw [Nat.mul_one, hl]
    have eC : cur.toList = l.map bv ++ cur.toList.drop n := by rw [← hx, List.take_append_drop]
    show (lay cur off x).toList.take n = _
    unfold lay layL
    rw [List.toList_toArray, eC]
    have hL : (l.map bv).length = n := by simpa using hn
    have e2 : (l.map bv ++ cur.toList.drop n).take off = (l.map bv).take off := List.take_append_of_le_length (by omega)
    have e3 : (l.map bv ++ cur.toList.drop n).drop (off + x.length) = (l.map bv).drop (off + x.length) ++ cur.toList.drop n := List.drop_append_of_le_length (by omega)
    rw [e2, e3, ← List.append_assoc, List.take_left' (by simp; omega), List.map_append, List.map_append, List.map_take, List.map_drop]
theorem lay_nil (cur : Array Value) (off : Nat) : lay cur off [] = cur := by simp [lay]
/-- Bytes are cleared. -/
theorem run_clear_bytes {P : Program} {w : World} {g : Nat} {T t e : TypeId} {cur : Array Value} (ht : P.underlying t = some (.slice e)) (hi : (P.info? e).map (fun i => (i.zero, i.size, i.bytes)) = some (some (.int .u8 0), 1, 1)) (hB : Blk w g T cur) (o m c : Nat) (hfit : o + m ≤ cur.size) :
    ∀ ty, (Builtin.clear_ #[t] ty #[.slice (some ⟨g, o, none⟩) m c]).run P w = .ok (.tuple #[]) (w.setRow g (lay cur o (List.replicate m 0))) := by
  intro ty
  obtain ⟨i, h1, h2, h3, h4⟩ := info_parts hi
  have hz : ∀ W : World, (zeroValue e).run P W = .ok (.int .u8 0) W := fun W => by simp [zeroValue, typeInfo, h1, h2]
  have hzc : Builtin.zeroCells (Value.int .u8 0).cells m = (List.replicate m (Value.int .u8 0)).toArray := zeroCells_map m
  rcases Nat.eq_zero_or_pos m with h0 | h0
  · subst h0
    rw [List.replicate_zero, lay_nil, setRow_self w g cur T (0, 0) hB]
    simp [Builtin.clear_, run_underlying ht]
  · obtain ⟨V, hV⟩ : ∃ V, V = List.replicate m (Value.int .u8 0) := ⟨_, rfl⟩
    have hlen : V.length = m := by rw [hV]; simp
    have hone : ∀ u ∈ V, u.oneCell' = true := by
      intro u hu
      rw [hV] at hu
      rw [List.eq_of_mem_replicate hu]
      rfl
    have e1 : (List.replicate m (0 : UInt8)).map bv = V := by rw [List.map_replicate, hV]; rfl
    have hst := run_storeCells_at P g o T V 0 cur w hB (by rw [hlen]; omega) hone
    rw [hlen, Nat.add_zero] at hst
    rw [← hV] at hzc
    unfold lay
    rw [e1, List.length_replicate]
    clear hV e1
    obtain ⟨q, rfl⟩ : ∃ q, m = q + 1 := ⟨m - 1, by omega⟩
    simp [Builtin.clear_, run_underlying ht, hz, hzc]
    rw [hst]
    simp
theorem run_clear_nil {P : Program} {t e : TypeId} (ht : P.underlying t = some (.slice e)) : ∀ (w : World) ty, (Builtin.clear_ #[t] ty #[.slice none 0 0]).run P w = .ok (.tuple #[]) w := by
  intro w ty
  simp [Builtin.clear_, run_underlying ht]
def AllRd (w : World) : List Value → List (List UInt8) → Prop
  | [], [] => True
  | v :: vs, l :: ls => (∃ A n c, v = .slice A n c ∧ Rd w A n l ∧ n ≤ c ∧ c ≤ maxLen) ∧ AllRd w vs ls
  | _, _ => False
theorem AllRd.at_ {w : World} : ∀ {vs : List Value} {ls : List (List UInt8)}, AllRd w vs ls → ∀ (k : Nat) (l : List UInt8), ls[k]? = some l → ∃ A c, vs[k]? = some (.slice A l.length c) ∧ Rd w A l.length l ∧ l.length ≤ c ∧ c ≤ maxLen
  | [], [], _, k, l, h => by simp at h
  | v :: vs, l :: ls, ⟨⟨A, n, c, e, hR, h2⟩, _⟩, 0, l', h => by
    simp at h
    subst h
    obtain rfl := hR.len
    exact ⟨A, c, by simp [e], hR, h2⟩
  | v :: vs, l :: ls, ⟨_, ha⟩, k + 1, l', h => by
    obtain ⟨A, c, e, h2⟩ := AllRd.at_ ha k l' (by simpa using h)
    exact ⟨A, c, by simpa using e, h2⟩
  | [], _ :: _, h, _, _, _ => h.elim
  | _ :: _, [], h, _, _, _ => h.elim
theorem RdSS.of_blk {w : World} {g : Nat} {T : TypeId} {cs : Array Value} {ls : List (List UInt8)} {n : Nat} (h : Blk w g T cs) (ha : AllRd w cs.toList ls) (hn : ls.length = n) : RdSS w (some ⟨g, 0, none⟩) n ls :=
  ⟨hn, fun _ => ⟨g, 0, rfl, h.lt, fun k l hk => by
    obtain ⟨A, c, e, h2⟩ := ha.at_ k l hk
    exact ⟨A, c, by rw [Nat.zero_add, h.cell k, ← Array.getElem?_toList]; exact e, h2⟩⟩⟩

/-- What a slot that is not free tells. -/
theorem may_facts {c : Int} {z N k : Nat} (hc : ClassOK c z N) {p : List UInt8} (hm : mayP c p = true) (hk : k < N) (hf : freeW (win z p k) = false) : 0 < lenW (win z p k) ∧ lenW (win z p k) + 8 ≤ z ∧ 0 < serW (win z p k) := by
  have hp := (mayP_true hm).1
  rw [mayP_class hc hp] at hm
  unfold checkP at hm
  rw [Bool.and_eq_true, List.all_eq_true] at hm
  have h1 := hm.1 k (List.mem_range.2 hk)
  unfold mayW at h1
  rw [hf, if_neg (by decide)] at h1
  have hl := win_len z p k (by rw [hp]; exact hc.at_ hk)
  rw [hl] at h1
  simp only [Bool.and_eq_true, decide_eq_true_eq] at h1
  have := hc.z16
  omega

/-- What Get says of a slot with an object. -/
def GotObj (o : Ob) (w : World) (e : Ending) (w' : World) : Prop := ∃ A, e = .returned (.tuple #[.int .u64 o.1, .slice A o.2.length o.2.length, .int .i64 0]) ∧ Rd w' A o.2.length o.2 ∧ Below w.heap.size w w'
set_option maxHeartbeats 1000000 in
theorem get_no (A : Option Addr) (n cp : Nat) (c k x : Int) (w : World) (hx : x = 4 ∨ x = 6) (ho : Calls Try.prog 43 #[.slice A n cp, .int .i64 c, .int .i64 k] w (NoObj x w)) :
    Calls Try.prog 32 #[.slice A n cp, .int .i64 c, .int .i64 k] w fun e w' => e = .returned (.tuple #[.int .u64 0, .slice none 0 0, .int .i64 x]) ∧ Below w.heap.size w w' := by
  rcases hx with rfl | rfl
  all_goals
    go_enter Try.func32, Try.ntmps32
    go_wp2_with fail
    refine ho.mono ?_
    rintro e w1 ⟨rfl, hb1⟩
    go_wp2_with fail
    go_ret3
    exact ⟨rfl, hb1⟩
set_option maxHeartbeats 2000000 in
theorem get_yes {c : Int} {z N : Nat} (hc : ClassOK c z N) (A : Option Addr) (cp : Nat) (p : List UInt8) (k : Nat) (w : World) (hr : Rd w A 256 p) (hn : 256 ≤ cp) (hcp : cp ≤ maxLen) (hm : mayP c p = true) (hk : k < N) (hf : freeW (win z p k) = false) :
    Calls Try.prog 32 #[.slice A 256 cp, .int .i64 c, .int .i64 k] w (GotObj (objW (win z p k)) w) := by
  have hfit := hc.at_ hk
  have hz1 := hc.z128
  have hz2 := hc.z16
  obtain ⟨hL0, hL1, _⟩ := may_facts hc hm hk hf
  have hlen := hr.len
  have hO := object_yes hc A cp p k w hr hn hcp hm hk hf
  have hwl := win_len z p k (by rw [hlen]; exact hfit)
  obtain ⟨s, hs⟩ : ∃ s, s = win z p k := ⟨_, rfl⟩
  rw [← hs] at hL0 hL1 hwl ⊢
  obtain ⟨L, hL⟩ : ∃ L, L = lenW s := ⟨_, rfl⟩
  have hol : (objW s).2.length = L := by unfold objW; simp; omega
  rw [← hL] at hL0 hL1
  go_enter Try.func32, Try.ntmps32
  go_wp2_with fail
  refine hO.mono ?_
  rintro e w1 ⟨g, c1, rfl, hF1, hb1⟩
  obtain ⟨A1, c1', e1, hR1, hown1, hn1, hm1⟩ := hF1.rdn 256 hlen
  injection e1 with e1 e2 e3
  subst e1 e3
  have hR := hR1.win k hfit (by omega)
  rw [← hs, Nat.zero_add] at hR
  obtain ⟨K, hK⟩ : ∃ K, K = k * z := ⟨_, rfl⟩
  rw [← hK] at hR ⊢
  have hS1 := serial_any g K z z s w1 hR (by omega) (Nat.le_refl _) (by omega)
  have hS2 := wsize_any g K z z s w1 hR (by omega) (Nat.le_refl _) (by omega)
  rw [← hL] at hS2
  have hcut := hR.cut (k := 8) (m := 8 + L) (cap := 8 + L) (by omega) (by omega) (by omega)
  rw [if_neg (by omega), Option.map_some, addr_add, Nat.add_sub_cancel_left] at hcut
  have eo : objW s = ((serW s : Int), (s.take (8 + L)).drop 8) := by rw [hL]; rfl
  clear hm hf hs hK hO hwl
  obtain ⟨S, hS⟩ : ∃ S, S = serW s := ⟨_, rfl⟩
  rw [← hS] at hS1 eo
  have HO := Lib.hid eo
  have HL := Lib.hid hL.symm
  have HSe := Lib.hid hS.symm
  have q1 : (8 + L : Int) ≤ z := by omega
  clear hS hL eo
  go_wp2_with fail
  refine wp_flows [(fun y_ _ => y_ = .slice (some ⟨g, K, none⟩) z z), (fun y_ _ => y_ = .int .u64 (S : Int)), (fun y_ _ => y_ = .slice (some ⟨g, K, none⟩) z z), (fun y_ _ => y_ = .slice (some ⟨g, K, none⟩) z z), (fun y_ _ => y_ = .int .i64 (L : Int)), (fun y_ _ => y_ = .int .i64 ((8 + L : Nat) : Int)), (fun y_ _ => y_ = .slice (some ⟨g, K, none⟩) z z), (fun y_ _ => y_ = .int .i64 (L : Int)), (fun y_ _ => y_ = .int .i64 ((8 + L : Nat) : Int)), (fun y_ _ => y_ = .slice (some ⟨g, K + 8, none⟩) L L), (fun y_ _ => y_ = .int .u64 (S : Int)), (fun y_ _ => y_ = .slice (some ⟨g, K + 8, none⟩) L L), (fun y_ _ => y_ = .int .i64 0)] (by kernel_rfl) ⟨Stab.eq _, Stab.eq _, Stab.eq _, Stab.eq _, Stab.eq _, Stab.eq _, Stab.eq _, Stab.eq _, Stab.eq _, Stab.eq _, Stab.eq _, Stab.eq _, Stab.eq _, trivial⟩ (by kernel_rfl) (by rfl) ?_ ?_
  · intro kq hkq
    match kq, hkq with
    | 0, _ =>
      refine StepOk.plain _ 23 rfl rfl rfl [(10, none)] (by kernel_rfl) (fun af wf hbw hf Kf hKf => ?_)
      obtain ⟨g10, _⟩ := hf
      have h10 : af.tmps[10]?.getD undef = .slice (some ⟨g, K, none⟩) z z := g10
      clear g10
      go_simp
      exact hKf _ _ (Below.refl _ _) rfl
    | 1, _ =>
      refine StepOk.plain _ 24 rfl rfl rfl [(23, some 0)] (by kernel_rfl) (fun af wf hbw hf Kf hKf => ?_)
      obtain ⟨g23, _⟩ := hf
      have h23 : af.tmps[23]?.getD undef = .slice (some ⟨g, K, none⟩) z z := g23
      clear g23
      go_simp
      refine (serial_any g K z z s _ (Rd.below (Rd.drew hR) hbw) (by omega) (Nat.le_refl _) (by omega)).mono ?_
      rintro e wN ⟨rfl, rfl⟩
      exact hKf _ _ (Below.refl _ _) (congrArg (fun q : Nat => Value.int .u64 (q : Int)) HSe.out)
    | 2, _ =>
      refine StepOk.plain _ 25 rfl rfl rfl [(10, none)] (by kernel_rfl) (fun af wf hbw hf Kf hKf => ?_)
      obtain ⟨g10, _⟩ := hf
      have h10 : af.tmps[10]?.getD undef = .slice (some ⟨g, K, none⟩) z z := g10
      clear g10
      go_simp
      exact hKf _ _ (Below.refl _ _) rfl
    | 3, _ =>
      refine StepOk.plain _ 26 rfl rfl rfl [(10, none)] (by kernel_rfl) (fun af wf hbw hf Kf hKf => ?_)
      obtain ⟨g10, _⟩ := hf
      have h10 : af.tmps[10]?.getD undef = .slice (some ⟨g, K, none⟩) z z := g10
      clear g10
      go_simp
      exact hKf _ _ (Below.refl _ _) rfl
    | 4, _ =>
      refine StepOk.plain _ 27 rfl rfl rfl [(26, some 3)] (by kernel_rfl) (fun af wf hbw hf Kf hKf => ?_)
      obtain ⟨g26, _⟩ := hf
      have h26 : af.tmps[26]?.getD undef = .slice (some ⟨g, K, none⟩) z z := g26
      clear g26
      go_simp
      refine (wsize_any g K z z s _ (Rd.below (Rd.drew hR) hbw) (by omega) (Nat.le_refl _) (by omega)).mono ?_
      rintro e wN ⟨rfl, rfl⟩
      exact hKf _ _ (Below.refl _ _) (congrArg (fun q : Nat => Value.int .i64 (q : Int)) HL.out)
    | 5, _ =>
      refine StepOk.plain _ 28 rfl rfl rfl [(27, some 4)] (by kernel_rfl) (fun af wf hbw hf Kf hKf => ?_)
      obtain ⟨g27, _⟩ := hf
      have h27 : af.tmps[27]?.getD undef = .int .i64 (L : Int) := g27
      clear g27
      have hwr : IntKind.i64.wrap (8 + (L : Int)) = 8 + (L : Int) := IntWalk.i64_in _ (by omega)
      go_simp
      exact hKf _ _ (Below.refl _ _) rfl
    | 6, _ =>
      refine StepOk.plain _ 29 rfl rfl rfl [(10, none)] (by kernel_rfl) (fun af wf hbw hf Kf hKf => ?_)
      obtain ⟨g10, _⟩ := hf
      have h10 : af.tmps[10]?.getD undef = .slice (some ⟨g, K, none⟩) z z := g10
      clear g10
      go_simp
      exact hKf _ _ (Below.refl _ _) rfl
    | 7, _ =>
      refine StepOk.plain _ 30 rfl rfl rfl [(29, some 6)] (by kernel_rfl) (fun af wf hbw hf Kf hKf => ?_)
      obtain ⟨g29, _⟩ := hf
      have h29 : af.tmps[29]?.getD undef = .slice (some ⟨g, K, none⟩) z z := g29
      clear g29
      go_simp
      refine (wsize_any g K z z s _ (Rd.below (Rd.drew hR) hbw) (by omega) (Nat.le_refl _) (by omega)).mono ?_
      rintro e wN ⟨rfl, rfl⟩
      exact hKf _ _ (Below.refl _ _) (congrArg (fun q : Nat => Value.int .i64 (q : Int)) HL.out)
    | 8, _ =>
      refine StepOk.plain _ 31 rfl rfl rfl [(30, some 7)] (by kernel_rfl) (fun af wf hbw hf Kf hKf => ?_)
      obtain ⟨g30, _⟩ := hf
      have h30 : af.tmps[30]?.getD undef = .int .i64 (L : Int) := g30
      clear g30
      have hwr : IntKind.i64.wrap (8 + (L : Int)) = 8 + (L : Int) := IntWalk.i64_in _ (by omega)
      go_simp
      exact hKf _ _ (Below.refl _ _) rfl
    | 9, _ =>
      refine StepOk.plain _ 32 rfl rfl rfl [(25, some 2), (28, some 5), (31, some 8)] (by kernel_rfl) (fun af wf hbw hf Kf hKf => ?_)
      obtain ⟨g25, g28, g31, _⟩ := hf
      have h25 : af.tmps[25]?.getD undef = .slice (some ⟨g, K, none⟩) z z := g25
      have h28 : af.tmps[28]?.getD undef = .int .i64 ((8 + L : Nat) : Int) := g28
      have h31 : af.tmps[31]?.getD undef = .int .i64 ((8 + L : Nat) : Int) := g31
      clear g25 g28 g31
      have q2 : (0 : Int) ≤ 8 + L := by omega
      have q3 : max (8 + (L : Int)) 0 = 8 + L := by omega
      have q4 : (8 + (L : Int)).toNat = 8 + L := by omega
      have q5 : (8 : Int) ≤ 8 + L := by omega
      have q6 : ¬ L = 0 := by omega
      go_simp
      exact hKf _ _ (Below.refl _ _) rfl
    | 10, _ =>
      refine StepOk.plain _ 6 rfl rfl rfl [(24, some 1)] (by kernel_rfl) (fun af wf hbw hf Kf hKf => ?_)
      obtain ⟨g24, _⟩ := hf
      have h24 : af.tmps[24]?.getD undef = .int .u64 (S : Int) := g24
      clear g24
      go_simp
      exact hKf _ _ (Below.refl _ _) rfl
    | 11, _ =>
      refine StepOk.plain _ 7 rfl rfl rfl [(32, some 9)] (by kernel_rfl) (fun af wf hbw hf Kf hKf => ?_)
      obtain ⟨g32, _⟩ := hf
      have h32 : af.tmps[32]?.getD undef = .slice (some ⟨g, K + 8, none⟩) L L := g32
      clear g32
      go_simp
      exact hKf _ _ (Below.refl _ _) rfl
    | 12, _ =>
      refine StepOk.plain _ 8 rfl rfl rfl [] (by kernel_rfl) (fun af wf hbw hf Kf hKf => ?_)
      go_simp
      exact hKf _ _ (Below.refl _ _) rfl
    | i + 13, h => exact absurd h (by show ¬ (i + 13 < 13); omega)
  · intro af wF hbF hdF hsF hbaseF hfactF
    obtain ⟨T, dsF⟩ := af
    obtain rfl : dsF = _ := hdF
    have e6 := hfactF 10 6 (by decide) rfl
    replace e6 : T[6]?.getD undef = .int .u64 (S : Int) := e6
    have e7 := hfactF 11 7 (by decide) rfl
    replace e7 : T[7]?.getD undef = .slice (some ⟨g, K + 8, none⟩) L L := e7
    have e8 := hfactF 12 8 (by decide) rfl
    replace e8 : T[8]?.getD undef = .int .i64 0 := e8
    have hT := frame_back T [6, 7, 8, 23, 24, 25, 26, 27, 28, 29, 30, 31, 32] hbaseF hsF (by kernel_rfl)
    simp only [List.foldl_cons, List.foldl_nil, List.setIfInBounds_toArray, List.set_cons_zero, List.set_cons_succ] at hT
    clear hbaseF hfactF hsF
    rw [e6] at hT; clear e6
    rw [e7] at hT; clear e7
    rw [e8] at hT; clear e8
    generalize T[23]?.getD undef = u23 at hT
    generalize T[24]?.getD undef = u24 at hT
    generalize T[25]?.getD undef = u25 at hT
    generalize T[26]?.getD undef = u26 at hT
    generalize T[27]?.getD undef = u27 at hT
    generalize T[28]?.getD undef = u28 at hT
    generalize T[29]?.getD undef = u29 at hT
    generalize T[30]?.getD undef = u30 at hT
    generalize T[31]?.getD undef = u31 at hT
    generalize T[32]?.getD undef = u32 at hT
    subst hT
    go_wp2_with fail
    go_ret3
    refine ⟨some ⟨g, K + 8, none⟩, ?_, ?_, (by (have q_hbF := Below.size hbF; (try simp at q_hbF); have q_hb1 := Below.size hb1; (try simp at q_hb1); repeat (first | exact Below.refl _ _ | (refine Below.trans ?_ (Below.mono hbF (by first | omega | (simp; omega) | simp))) | (refine Below.trans ?_ (Below.mono hb1 (by first | omega | (simp; omega) | simp))) | (refine Below.setCell ?_ (by first | omega | (simp; omega) | simp) _) | (refine Below.alloc ?_ (by first | omega | (simp; omega) | simp) _) | apply Below.drew | apply below_drewN)))⟩
    · rw [hol, HO.out]
      rfl
    · rw [hol, HO.out]
      exact hcut.below hbF
end Go.Proofs.Ytnocjjaebemkoaa
