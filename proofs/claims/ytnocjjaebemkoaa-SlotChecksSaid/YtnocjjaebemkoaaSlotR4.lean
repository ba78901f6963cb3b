/- Slots, by the document: Objects. -/
import Derived.Test.YtnocjjaebemkoaaSlotR3
import Derived.Test.YtnocjjaebemkoaaSlot2
import Derived.Test.YtnocjjaebemkoaaConv
namespace Go.Proofs.Ytnocjjaebemkoaa
open Go.RowKit

/-- An object in a cell, whose bytes are stored. -/
def ObInv (T T8 : TypeId) (g B : Nat) (S : Int) (n : Nat) (L : List UInt8) : Nat → Value → World → Prop
  | 0, _, W => Blk W g T #[.int .u64 S, .slice none 0 0]
  | _ + 1, _, W => ∃ A c, Blk W g T #[.int .u64 S, .slice A n c] ∧ RdX B T8 W A n L ∧ n ≤ c ∧ c ≤ maxLen
theorem ObInv.stab {T T8 : TypeId} {g B : Nat} {S : Int} {n : Nat} {L : List UInt8} : ∀ i u w w', Below w.heap.size w w' → ObInv T T8 g B S n L i u w → ObInv T T8 g B S n L i u w'
  | 0, _, _, _, hb, h => h.on hb
  | _ + 1, _, _, _, hb, ⟨A, c, h1, h2, h3⟩ => ⟨A, c, h1.on hb, h2.below hb, h3⟩
/-- What Objects says. -/
def RObjs (T2 T8 : TypeId) (z N : Nat) (p : List UInt8) (M : Bool) (w : World) (e : Ending) (w' : World) : Prop :=
  ∃ v, e = .returned (.tuple #[v, .bool M]) ∧ (M = true → OwnR obK T2 w.heap.size w.heap.size T8 w' v (objsL z p N)) ∧ (M = false → v = .slice none 0 0) ∧ Below w.heap.size w w'
theorem RObjs.no {T2 T8 : TypeId} {z N : Nat} {p : List UInt8} {M : Bool} {w w' : World} (hM : M = false) (hb : Below w.heap.size w w') : RObjs T2 T8 z N p M w (.returned (.tuple #[.slice none 0 0, .bool false])) w' :=
  ⟨_, by rw [hM], (fun h => by rw [hM] at h; cases h), (fun _ => rfl), hb⟩
theorem RObjs.yes {T2 T8 : TypeId} {z N : Nat} {p : List UInt8} {M : Bool} {w w' : World} {v : Value} (hM : M = true) (hO : OwnR obK T2 w.heap.size w.heap.size T8 w' v (objsL z p N)) (hb : Below w.heap.size w w') : RObjs T2 T8 z N p M w (.returned (.tuple #[v, .bool true])) w' :=
  ⟨_, by rw [hM], (fun _ => hO), (fun h => by rw [hM] at h; cases h), hb⟩
def goodK (z : Nat) (p : List UInt8) (k : Nat) : Prop := ∀ j, j < k → goodW z (win z p j) = true
theorem goodK_step {z : Nat} {p : List UInt8} {k : Nat} (h : goodK z p k) (hk : goodW z (win z p k) = true) : goodK z p (k + 1) := by
  intro j hj
  rcases Nat.lt_or_ge j k with h1 | h1
  · exact h j h1
  · obtain rfl : j = k := by omega
    exact hk
theorem goodP_no {z N k : Nat} {p : List UInt8} (hk : k < N) (h : goodW z (win z p k) = false) : goodP z N p = false := by
  unfold goodP
  have : ((List.range N).all fun k => goodW z (win z p k)) = false := by
    rw [List.all_eq_false]
    exact ⟨k, List.mem_range.2 hk, by rw [h]; simp⟩
  rw [this, Bool.false_and]
theorem goodP_all {z N : Nat} {p : List UInt8} (h : goodK z p N) : goodP z N p = decide (pageL z (objsL z p N) = p) := by
  unfold goodP
  have : ((List.range N).all fun k => goodW z (win z p k)) = true := by
    rw [List.all_eq_true]
    exact fun k hk => h k (List.mem_range.1 hk)
  rw [this, Bool.true_and]

set_option maxHeartbeats 1000000 in
theorem robjects_len (A : Option Addr) (n cp : Nat) (c : Int) (w : World) (h : n ≠ 256) :
    Calls Try.prog 21 #[.slice A n cp, .int .i64 c] w fun e w' => e = .returned (.tuple #[.slice none 0 0, .bool false]) ∧ w = w' := by
  have hq : ((n : Int) != 256) = true := by simp; omega
  go_enter Try.func21, Try.ntmps21
  go_wp2_with fail
  go_ret2
  exact ⟨rfl, rfl⟩
set_option maxHeartbeats 1000000 in
theorem robjects_size (A : Option Addr) (cp : Nat) (c : Int) (w : World) (h : sizeI c = 0) :
    Calls Try.prog 21 #[.slice A 256 cp, .int .i64 c] w fun e w' => e = .returned (.tuple #[.slice none 0 0, .bool false]) ∧ w = w' := by
  have hS := rsize_any c w
  rw [h] at hS
  go_enter Try.func21, Try.ntmps21
  go_wp2_with fail
  refine hS.mono ?_
  rintro e w1 ⟨rfl, rfl⟩
  go_wp2_with fail
  go_ret2
  exact ⟨rfl, rfl⟩
set_option maxRecDepth 100000 in
set_option maxHeartbeats 16000000 in
theorem robjects_class {c : Int} {z N : Nat} (hc : ClassOK c z N) (A : Option Addr) (cp : Nat) (p : List UInt8) (w : World) (hr : Rd w A 256 p) (hn : 256 ≤ cp) :
    Calls Try.prog 21 #[.slice A 256 cp, .int .i64 c] w (RObjs 62 5 z N p (mayP c p) w) := by
  have hlen := hr.len
  have hm := mayP_class hc hlen
  rw [check_good z N p hlen (by have := hc.z16; omega) hc.fit] at hm
  obtain ⟨M, hM⟩ : ∃ M, M = mayP c p := ⟨_, rfl⟩
  rw [← hM] at hm ⊢
  have HM := Lib.hid hm
  have hS := fun W => rsize_any c W
  have hN := fun W => rslots_any c W
  have hcz := hc.size
  have hz1 := hc.z128
  have hz2 := hc.z16
  have hN1 := hc.few
  rw [hc.slots] at hN
  obtain ⟨S0, hS0⟩ : ∃ S0, S0 = sizeI c := ⟨_, rfl⟩
  rw [← hS0] at hS hcz
  obtain rfl : S0 = (z : Int) - 8 := by omega
  obtain ⟨b, off, rfl, hb, _⟩ := hr.2 (by omega)
  have hq0 : ((z : Int) - 8 == 0) = false := by simp; omega
  clear hM hm hS0 hcz
  go_enter Try.func21, Try.ntmps21
  go_wp2_with fail
  refine (hS _).mono ?_
  rintro e w1 ⟨rfl, rfl⟩
  go_wp2_with fail
  refine (hS _).mono ?_
  rintro e w1 ⟨rfl, rfl⟩
  go_wp2_with fail
  go_loopw [7, 8] (fun v i wr => ∃ k : Nat, k ≤ N ∧ i = .int .i64 k ∧ OwnR obK 62 w.heap.size w.heap.size 5 wr v (objsL z p k) ∧ Hid (goodK z p k) ∧ Below w.heap.size w wr) (fun _ i _ => N - (intOf i).toNat)
  case atStart => exact ⟨0, by omega, rfl, OwnR.nil _, Lib.hid (fun j hj => absurd hj (by omega)), Below.refl _ _⟩
  case round =>
    obtain ⟨k, hk, rfl, hO, hG, hbel⟩ := hrel
    have hbz := hbel.size
    by_cases hlt : k < N
    · have hfit := hc.at_ hlt
      have hRw := (hr.below hbel).win k hfit (by omega)
      have hwl := win_len z p k (by rw [hlen]; exact hfit)
      have hst := Lib.hid (objsL_step z p k)
      have hnn := Lib.hid (fun h => goodP_no (z := z) (N := N) (p := p) (k := k) hlt h)
      have hgg := Lib.hid (fun h => goodK_step (k := k) hG.out h)
      obtain ⟨s, hs⟩ : ∃ s, s = win z p k := ⟨_, rfl⟩
      rw [← hs] at hRw hwl hst hnn hgg
      obtain ⟨K, hK⟩ : ∃ K, K = k * z := ⟨_, rfl⟩
      rw [← hK] at hfit hRw
      have hmul : (k : Int) * (z : Int) = (K : Int) := by rw [hK]; push_cast; rfl
      have hcK : ¬ cp = K := by omega
      have hg1 := rget_short (some ⟨b, off + K, none⟩) 2 (cp - K) (s.take 2) wr (hRw.head 2 (by omega)) (by omega)
      have hcut := hRw.cut (k := 2) (m := 8) (cap := cp - K) (by omega) (by omega) (by omega)
      rw [if_neg (by omega), Option.map_some, addr_add] at hcut
      have hg2 := rget_short (some ⟨b, off + K + 2, none⟩) 6 (cp - K - 2) ((s.take 8).drop 2) wr hcut (by omega)
      have hL := lenW_lt s
      have hSr := serW_lt s
      have HL1 : (getL (s.take 2) : Int) = (lenW s : Int) := rfl
      have HS1 : (getL ((s.take 8).drop 2) : Int) = (serW s : Int) := rfl
      rw [HL1] at hg1
      rw [HS1] at hg2
      have hgw : goodW z s = (decide (lenW s ≤ z - 8) && (decide (lenW s = 0) == decide (serW s = 0))) := rfl
      have hob : objW s = ((serW s : Int), (s.take (8 + lenW s)).drop 8) := rfl
      rw [hob] at hst
      obtain ⟨L, hL0⟩ : ∃ L, L = lenW s := ⟨_, rfl⟩
      obtain ⟨S, hS1⟩ : ∃ S, S = serW s := ⟨_, rfl⟩
      rw [← hL0] at hL hg1 hgw hst
      rw [← hS1] at hSr hg2 hgw hst
      have HGW := Lib.hid hgw
      clear hcut HL1 HS1 hgw hob hL0 hS1 hs hK hG
      go_wp2_with fail
      refine (hN _).mono ?_
      rintro e w1 ⟨rfl, rfl⟩
      go_wp2_with fail
      refine hg1.mono ?_
      rintro e w1 ⟨rfl, rfl⟩
      go_wp2_with fail
      refine hg2.mono ?_
      rintro e w1 ⟨rfl, rfl⟩
      have hB := Blk.new wr 62 #[.int .u64 (S : Int), .slice none 0 0]
      have hcx := hB.cell
      clear hg1 hg2
      by_cases h1 : L + 8 ≤ z
      · by_cases h2 : L = 0
        · by_cases h3 : S = 0
          · have hG' := Lib.hid (hgg.out (by rw [HGW.out]; simp [h2, h3]))
            have q2 : ((L : Int) == 0) = true := by simp [h2]
            have q3 : ((S : Int) == 0) = true := by simp [h3]
            clear h2 h3
            obtain ⟨by_, hby⟩ : ∃ by_, by_ = (s.take (8 + L)).drop 8 := ⟨_, rfl⟩
            have hbl : by_.length = L := by rw [hby, List.length_drop, List.length_take]; omega
            have hcut := hRw.cut (k := 8) (m := 8 + L) (cap := cp - K) (by omega) (by omega) (by omega)
            rw [if_neg (by omega), Option.map_some, addr_add, Nat.add_sub_cancel_left, ← hby] at hcut
            rw [← hby] at hst
            clear hnn HGW hgg hby hcx
            have hBd : Below wr.heap.size wr (wr.alloc (.cells #[.int .u64 ((S : Nat) : Int), .slice none 0 0] 62)) := (by (repeat (first | exact Below.refl _ _ | (refine Below.setCell ?_ (by first | omega | (simp; omega) | simp) _) | (refine Below.alloc ?_ (by first | omega | (simp; omega) | simp) _) | apply Below.drew | apply below_drewN)))
            have hcut2 := hcut.below hBd
            have hzn : wr.heap.size < (wr.alloc (.cells #[.int .u64 ((S : Nat) : Int), .slice none 0 0] 62)).heap.size := hB.lt
            go_wp2_with fail
            obtain ⟨wa, hwa⟩ : ∃ wa, wa = wr.alloc (.cells #[.int .u64 ((S : Nat) : Int), .slice none 0 0] 62) := ⟨_, rfl⟩
            rw [← hwa] at hB hBd hcut2 hzn ⊢
            have hRx : RdN wa [wr.heap.size] (some ⟨b, off + K + 8, none⟩) L by_ := ⟨hcut2, fun ad hn hA hx => by
              simp at hx
              injection hA with hA
              have h9 : b = wr.heap.size := by rw [← hA] at hx; exact hx
              have := hbel.size
              omega⟩
            clear hwa hcut hRw
            refine wp_flv [(fun y_ _ => y_ = .pointer (some ⟨wr.heap.size, 1, none⟩)), (fun y_ _ => y_ = .slice none 0 0), (fun y_ _ => y_ = .slice (some ⟨b, off + K, none⟩) z (cp - K)), (fun y_ _ => y_ = .int .i64 (L : Int)), (fun y_ _ => y_ = .int .i64 (8 + L)), (fun y_ _ => y_ = .slice (some ⟨b, off + K + 8, none⟩) L (cp - K - 8)), IsRow [wr.heap.size] wa.heap.size 5 L by_, (fun y_ _ => y_ = .pointer (some ⟨wr.heap.size, 1, none⟩)), (fun _ _ => True)] [wr.heap.size] (ObInv 62 5 wr.heap.size w.heap.size (S : Int) L by_) [8] (by kernel_rfl) ⟨StabW.eq _ _, StabW.eq _ _, StabW.eq _ _, StabW.eq _ _, StabW.eq _ _, StabW.eq _ _, IsRow.stab _ _ _ _ _, StabW.eq _ _, StabW.any _, trivial⟩ (ObInv.stab) (hB) (by kernel_rfl) (by kernel_rfl) (by kernel_rfl) (by rfl) ?_ ?_
            · intro kq hkq
              match kq, hkq with
              | 0, _ =>
                refine StepV.plain _ rfl rfl rfl [(11, none)] (by kernel_rfl) (fun af wf hbw hz hf Kf hKf => ?_)
                obtain ⟨g11, _⟩ := hf
                have h11 : af.tmps[11]?.getD undef = .pointer (some ⟨wr.heap.size, 0, none⟩) := g11
                clear g11
                go_simp
                exact hKf _ _ (Below.refl _ _) rfl
              | 1, _ =>
                refine StepV.plain _ rfl rfl rfl [(59, some 0)] (by kernel_rfl) (fun af wf hbw hz hf Kf hKf => ?_)
                obtain ⟨g59, _⟩ := hf
                have h59 : af.tmps[59]?.getD undef = .pointer (some ⟨wr.heap.size, 1, none⟩) := g59
                clear g59
                obtain ⟨_, hz0⟩ := hz 8 rfl (by kernel_rfl)
                have cB9 := Blk.cell hz0
                go_simp
                exact hKf _ _ (Below.refl _ _) rfl
              | 2, _ =>
                refine StepV.plain _ rfl rfl rfl [(9, none)] (by kernel_rfl) (fun af wf hbw hz hf Kf hKf => ?_)
                obtain ⟨g9, _⟩ := hf
                have h9 : af.tmps[9]?.getD undef = .slice (some ⟨b, off + K, none⟩) z (cp - K) := g9
                clear g9
                go_simp
                exact hKf _ _ (Below.refl _ _) rfl
              | 3, _ =>
                refine StepV.plain _ rfl rfl rfl [(10, none)] (by kernel_rfl) (fun af wf hbw hz hf Kf hKf => ?_)
                obtain ⟨g10, _⟩ := hf
                have h10 : af.tmps[10]?.getD undef = .int .i64 (L : Int) := g10
                clear g10
                go_simp
                exact hKf _ _ (Below.refl _ _) rfl
              | 4, _ =>
                refine StepV.plain _ rfl rfl rfl [(62, some 3)] (by kernel_rfl) (fun af wf hbw hz hf Kf hKf => ?_)
                obtain ⟨g62, _⟩ := hf
                have h62 : af.tmps[62]?.getD undef = .int .i64 (L : Int) := g62
                clear g62
                have hwr : IntKind.i64.wrap (8 + (L : Int)) = 8 + (L : Int) := IntWalk.i64_in _ (by omega)
                go_simp
                exact hKf _ _ (Below.refl _ _) rfl
              | 5, _ =>
                refine StepV.plain _ rfl rfl rfl [(61, some 2), (63, some 4)] (by kernel_rfl) (fun af wf hbw hz hf Kf hKf => ?_)
                obtain ⟨g61, g63, _⟩ := hf
                have h61 : af.tmps[61]?.getD undef = .slice (some ⟨b, off + K, none⟩) z (cp - K) := g61
                have h63 : af.tmps[63]?.getD undef = .int .i64 (8 + L) := g63
                clear g61 g63
                have r1 : (0 : Int) ≤ 8 + L := by omega
                have r2 : (8 : Int) + L ≤ ((cp - K : Nat) : Int) := by omega
                have r3 : max (8 + (L : Int)) 0 = 8 + L := by omega
                have r4 : (8 + (L : Int)).toNat = 8 + L := by omega
                have r5 : (8 : Int) ≤ 8 + L := by omega
                have r6 : ¬ cp - K = 8 := by omega
                go_simp
                exact hKf _ _ (Below.refl _ _) rfl
              | 6, _ =>
                refine StepV.plain _ rfl rfl rfl [(60, some 1), (64, some 5)] (by kernel_rfl) (fun af wf hbw hz hf Kf hKf => ?_)
                obtain ⟨g60, g64, _⟩ := hf
                have h60 : af.tmps[60]?.getD undef = .slice none 0 0 := g60
                have h64 : af.tmps[64]?.getD undef = .slice (some ⟨b, off + K + 8, none⟩) L (cp - K - 8) := g64
                clear g60 g64
                have hRf := RdN.kept (RdN.drew hRx) hbw (fun _ h_ => h_)
                refine wp_append_bytes wf (.tmp 60) (.tmp 64) _ rfl wf.heap.size 5 Try.underlying32 info8 (.slice none 0 0) [] (by simp [Act.eval, h60]) (Fresh.nil _ _ _) (some ⟨b, off + K + 8, none⟩) L (cp - K - 8) by_ (by simp [Act.eval, h64]) hRf.1 (by simp; omega) (Nat.le_refl _) ?_; intro v6 w6 hF6 hg6 hb6; rw [List.nil_append] at hF6
                exact hKf _ _ (hb6) (IsRow.of (hF6.from_ hbw.size) (by simpa using hzn) hbl)
              | 7, _ =>
                refine StepV.plain _ rfl rfl rfl [(11, none)] (by kernel_rfl) (fun af wf hbw hz hf Kf hKf => ?_)
                obtain ⟨g11, _⟩ := hf
                have h11 : af.tmps[11]?.getD undef = .pointer (some ⟨wr.heap.size, 0, none⟩) := g11
                clear g11
                go_simp
                exact hKf _ _ (Below.refl _ _) rfl
              | 8, _ =>
                refine StepV.chain 0 _ rfl rfl rfl (by decide) [(66, some 7), (65, some 6)] (by kernel_rfl) (fun af wf hbw hiv hf Kf hKf => ?_)
                obtain ⟨uv, hiv, hlast⟩ := hiv
                obtain ⟨g66, g65, _⟩ := hf
                have h66 : af.tmps[66]?.getD undef = .pointer (some ⟨wr.heap.size, 1, none⟩) := g66
                have g65 : IsRow [wr.heap.size] wa.heap.size 5 L by_ (af.tmps[65]?.getD undef) wf := g65
                obtain ⟨hz65, A65, c65, h65, hF65, hn65, hm65⟩ := g65
                clear g66
                have cB9 := Blk.cell hiv
                have fB9 := Blk.frozen hiv
                go_simp
                exact hKf undef _ ((Kept.setCell (p := ⟨wr.heap.size, 1, none⟩) (.refl _ _) (by simp) _)) (⟨A65, c65, by simpa using Blk.set_ hiv 1 _, (RdX.fresh hF65 hbl).set_ hiv (by decide) (by omega) 1 _, hn65, hm65⟩) (trivial)
              | i + 9, h => exact absurd h (by show ¬ (i + 9 < 9); omega)
            · intro af wF hbF hiF hdF hsF hbaseF hfactF
              obtain ⟨T, dsF⟩ := af
              obtain rfl : dsF = _ := hdF
              have e0 := hbaseF 0 (not_dst (by kernel_rfl))
              simp only [List.getElem?_toArray, List.getElem?_cons_zero, Option.getD_some] at e0
              have e1 := hbaseF 1 (not_dst (by kernel_rfl))
              simp only [List.getElem?_toArray, List.getElem?_cons_zero, List.getElem?_cons_succ, Option.getD_some] at e1
              have e2 := hbaseF 2 (not_dst (by kernel_rfl))
              simp only [List.getElem?_toArray, List.getElem?_cons_zero, List.getElem?_cons_succ, Option.getD_some] at e2
              have e3 := hbaseF 3 (not_dst (by kernel_rfl))
              simp only [List.getElem?_toArray, List.getElem?_cons_zero, List.getElem?_cons_succ, Option.getD_some] at e3
              have e4 := hbaseF 4 (not_dst (by kernel_rfl))
              simp only [List.getElem?_toArray, List.getElem?_cons_zero, List.getElem?_cons_succ, Option.getD_some] at e4
              have e5 := hbaseF 5 (not_dst (by kernel_rfl))
              simp only [List.getElem?_toArray, List.getElem?_cons_zero, List.getElem?_cons_succ, Option.getD_some] at e5
              have e6 := hbaseF 6 (not_dst (by kernel_rfl))
              simp only [List.getElem?_toArray, List.getElem?_cons_zero, List.getElem?_cons_succ, Option.getD_some] at e6
              have e7 := hbaseF 7 (not_dst (by kernel_rfl))
              simp only [List.getElem?_toArray, List.getElem?_cons_zero, List.getElem?_cons_succ, Option.getD_some] at e7
              have e8 := hbaseF 8 (not_dst (by kernel_rfl))
              simp only [List.getElem?_toArray, List.getElem?_cons_zero, List.getElem?_cons_succ, Option.getD_some] at e8
              have e9 := hbaseF 9 (not_dst (by kernel_rfl))
              simp only [List.getElem?_toArray, List.getElem?_cons_zero, List.getElem?_cons_succ, Option.getD_some] at e9
              have e10 := hbaseF 10 (not_dst (by kernel_rfl))
              simp only [List.getElem?_toArray, List.getElem?_cons_zero, List.getElem?_cons_succ, Option.getD_some] at e10
              have e11 := hbaseF 11 (not_dst (by kernel_rfl))
              simp only [List.getElem?_toArray, List.getElem?_cons_zero, List.getElem?_cons_succ, Option.getD_some] at e11
              have e12 := hbaseF 12 (not_dst (by kernel_rfl))
              simp only [List.getElem?_toArray, List.getElem?_cons_zero, List.getElem?_cons_succ, Option.getD_some] at e12
              have e13 := hbaseF 13 (not_dst (by kernel_rfl))
              simp only [List.getElem?_toArray, List.getElem?_cons_zero, List.getElem?_cons_succ, Option.getD_some] at e13
              have e14 := hbaseF 14 (not_dst (by kernel_rfl))
              simp only [List.getElem?_toArray, List.getElem?_cons_zero, List.getElem?_cons_succ, Option.getD_some] at e14
              have e15 := hbaseF 15 (not_dst (by kernel_rfl))
              simp only [List.getElem?_toArray, List.getElem?_cons_zero, List.getElem?_cons_succ, Option.getD_some] at e15
              have e16 := hbaseF 16 (not_dst (by kernel_rfl))
              simp only [List.getElem?_toArray, List.getElem?_cons_zero, List.getElem?_cons_succ, Option.getD_some] at e16
              have e17 := hbaseF 17 (not_dst (by kernel_rfl))
              simp only [List.getElem?_toArray, List.getElem?_cons_zero, List.getElem?_cons_succ, Option.getD_some] at e17
              have e18 := hbaseF 18 (not_dst (by kernel_rfl))
              simp only [List.getElem?_toArray, List.getElem?_cons_zero, List.getElem?_cons_succ, Option.getD_some] at e18
              have e19 := hbaseF 19 (not_dst (by kernel_rfl))
              simp only [List.getElem?_toArray, List.getElem?_cons_zero, List.getElem?_cons_succ, Option.getD_some] at e19
              have e20 := hbaseF 20 (not_dst (by kernel_rfl))
              simp only [List.getElem?_toArray, List.getElem?_cons_zero, List.getElem?_cons_succ, Option.getD_some] at e20
              have e21 := hbaseF 21 (not_dst (by kernel_rfl))
              simp only [List.getElem?_toArray, List.getElem?_cons_zero, List.getElem?_cons_succ, Option.getD_some] at e21
              have e22 := hbaseF 22 (not_dst (by kernel_rfl))
              simp only [List.getElem?_toArray, List.getElem?_cons_zero, List.getElem?_cons_succ, Option.getD_some] at e22
              have e23 := hbaseF 23 (not_dst (by kernel_rfl))
              simp only [List.getElem?_toArray, List.getElem?_cons_zero, List.getElem?_cons_succ, Option.getD_some] at e23
              have e24 := hbaseF 24 (not_dst (by kernel_rfl))
              simp only [List.getElem?_toArray, List.getElem?_cons_zero, List.getElem?_cons_succ, Option.getD_some] at e24
              have e25 := hbaseF 25 (not_dst (by kernel_rfl))
              simp only [List.getElem?_toArray, List.getElem?_cons_zero, List.getElem?_cons_succ, Option.getD_some] at e25
              have e26 := hbaseF 26 (not_dst (by kernel_rfl))
              simp only [List.getElem?_toArray, List.getElem?_cons_zero, List.getElem?_cons_succ, Option.getD_some] at e26
              have e27 := hbaseF 27 (not_dst (by kernel_rfl))
              simp only [List.getElem?_toArray, List.getElem?_cons_zero, List.getElem?_cons_succ, Option.getD_some] at e27
              have e28 := hbaseF 28 (not_dst (by kernel_rfl))
              simp only [List.getElem?_toArray, List.getElem?_cons_zero, List.getElem?_cons_succ, Option.getD_some] at e28
              have e29 := hbaseF 29 (not_dst (by kernel_rfl))
              simp only [List.getElem?_toArray, List.getElem?_cons_zero, List.getElem?_cons_succ, Option.getD_some] at e29
              have e30 := hbaseF 30 (not_dst (by kernel_rfl))
              simp only [List.getElem?_toArray, List.getElem?_cons_zero, List.getElem?_cons_succ, Option.getD_some] at e30
              have e31 := hbaseF 31 (not_dst (by kernel_rfl))
              simp only [List.getElem?_toArray, List.getElem?_cons_zero, List.getElem?_cons_succ, Option.getD_some] at e31
              have e32 := hbaseF 32 (not_dst (by kernel_rfl))
              simp only [List.getElem?_toArray, List.getElem?_cons_zero, List.getElem?_cons_succ, Option.getD_some] at e32
              have e33 := hbaseF 33 (not_dst (by kernel_rfl))
              simp only [List.getElem?_toArray, List.getElem?_cons_zero, List.getElem?_cons_succ, Option.getD_some] at e33
              have e34 := hbaseF 34 (not_dst (by kernel_rfl))
              simp only [List.getElem?_toArray, List.getElem?_cons_zero, List.getElem?_cons_succ, Option.getD_some] at e34
              have e35 := hbaseF 35 (not_dst (by kernel_rfl))
              simp only [List.getElem?_toArray, List.getElem?_cons_zero, List.getElem?_cons_succ, Option.getD_some] at e35
              have e36 := hbaseF 36 (not_dst (by kernel_rfl))
              simp only [List.getElem?_toArray, List.getElem?_cons_zero, List.getElem?_cons_succ, Option.getD_some] at e36
              have e37 := hbaseF 37 (not_dst (by kernel_rfl))
              simp only [List.getElem?_toArray, List.getElem?_cons_zero, List.getElem?_cons_succ, Option.getD_some] at e37
              have e38 := hbaseF 38 (not_dst (by kernel_rfl))
              simp only [List.getElem?_toArray, List.getElem?_cons_zero, List.getElem?_cons_succ, Option.getD_some] at e38
              have e39 := hbaseF 39 (not_dst (by kernel_rfl))
              simp only [List.getElem?_toArray, List.getElem?_cons_zero, List.getElem?_cons_succ, Option.getD_some] at e39
              have e40 := hbaseF 40 (not_dst (by kernel_rfl))
              simp only [List.getElem?_toArray, List.getElem?_cons_zero, List.getElem?_cons_succ, Option.getD_some] at e40
              have e41 := hbaseF 41 (not_dst (by kernel_rfl))
              simp only [List.getElem?_toArray, List.getElem?_cons_zero, List.getElem?_cons_succ, Option.getD_some] at e41
              have e42 := hbaseF 42 (not_dst (by kernel_rfl))
              simp only [List.getElem?_toArray, List.getElem?_cons_zero, List.getElem?_cons_succ, Option.getD_some] at e42
              have e43 := hbaseF 43 (not_dst (by kernel_rfl))
              simp only [List.getElem?_toArray, List.getElem?_cons_zero, List.getElem?_cons_succ, Option.getD_some] at e43
              have e44 := hbaseF 44 (not_dst (by kernel_rfl))
              simp only [List.getElem?_toArray, List.getElem?_cons_zero, List.getElem?_cons_succ, Option.getD_some] at e44
              have e45 := hbaseF 45 (not_dst (by kernel_rfl))
              simp only [List.getElem?_toArray, List.getElem?_cons_zero, List.getElem?_cons_succ, Option.getD_some] at e45
              have e46 := hbaseF 46 (not_dst (by kernel_rfl))
              simp only [List.getElem?_toArray, List.getElem?_cons_zero, List.getElem?_cons_succ, Option.getD_some] at e46
              have e47 := hbaseF 47 (not_dst (by kernel_rfl))
              simp only [List.getElem?_toArray, List.getElem?_cons_zero, List.getElem?_cons_succ, Option.getD_some] at e47
              have e48 := hbaseF 48 (not_dst (by kernel_rfl))
              simp only [List.getElem?_toArray, List.getElem?_cons_zero, List.getElem?_cons_succ, Option.getD_some] at e48
              have e49 := hbaseF 49 (not_dst (by kernel_rfl))
              simp only [List.getElem?_toArray, List.getElem?_cons_zero, List.getElem?_cons_succ, Option.getD_some] at e49
              have e50 := hbaseF 50 (not_dst (by kernel_rfl))
              simp only [List.getElem?_toArray, List.getElem?_cons_zero, List.getElem?_cons_succ, Option.getD_some] at e50
              have e51 := hbaseF 51 (not_dst (by kernel_rfl))
              simp only [List.getElem?_toArray, List.getElem?_cons_zero, List.getElem?_cons_succ, Option.getD_some] at e51
              have e52 := hbaseF 52 (not_dst (by kernel_rfl))
              simp only [List.getElem?_toArray, List.getElem?_cons_zero, List.getElem?_cons_succ, Option.getD_some] at e52
              have e53 := hbaseF 53 (not_dst (by kernel_rfl))
              simp only [List.getElem?_toArray, List.getElem?_cons_zero, List.getElem?_cons_succ, Option.getD_some] at e53
              have e54 := hbaseF 54 (not_dst (by kernel_rfl))
              simp only [List.getElem?_toArray, List.getElem?_cons_zero, List.getElem?_cons_succ, Option.getD_some] at e54
              have e55 := hbaseF 55 (not_dst (by kernel_rfl))
              simp only [List.getElem?_toArray, List.getElem?_cons_zero, List.getElem?_cons_succ, Option.getD_some] at e55
              have e56 := hbaseF 56 (not_dst (by kernel_rfl))
              simp only [List.getElem?_toArray, List.getElem?_cons_zero, List.getElem?_cons_succ, Option.getD_some] at e56
              have e57 := hbaseF 57 (not_dst (by kernel_rfl))
              simp only [List.getElem?_toArray, List.getElem?_cons_zero, List.getElem?_cons_succ, Option.getD_some] at e57
              have e58 := hbaseF 58 (not_dst (by kernel_rfl))
              simp only [List.getElem?_toArray, List.getElem?_cons_zero, List.getElem?_cons_succ, Option.getD_some] at e58
              have e67 := hbaseF 67 (not_dst (by kernel_rfl))
              simp only [List.getElem?_toArray, List.getElem?_cons_zero, List.getElem?_cons_succ, Option.getD_some] at e67
              have e68 := hbaseF 68 (not_dst (by kernel_rfl))
              simp only [List.getElem?_toArray, List.getElem?_cons_zero, List.getElem?_cons_succ, Option.getD_some] at e68
              have e69 := hbaseF 69 (not_dst (by kernel_rfl))
              simp only [List.getElem?_toArray, List.getElem?_cons_zero, List.getElem?_cons_succ, Option.getD_some] at e69
              have e70 := hbaseF 70 (not_dst (by kernel_rfl))
              simp only [List.getElem?_toArray, List.getElem?_cons_zero, List.getElem?_cons_succ, Option.getD_some] at e70
              have e71 := hbaseF 71 (not_dst (by kernel_rfl))
              simp only [List.getElem?_toArray, List.getElem?_cons_zero, List.getElem?_cons_succ, Option.getD_some] at e71
              have e72 := hbaseF 72 (not_dst (by kernel_rfl))
              simp only [List.getElem?_toArray, List.getElem?_cons_zero, List.getElem?_cons_succ, Option.getD_some] at e72
              have e73 := hbaseF 73 (not_dst (by kernel_rfl))
              simp only [List.getElem?_toArray, List.getElem?_cons_zero, List.getElem?_cons_succ, Option.getD_some] at e73
              have e74 := hbaseF 74 (not_dst (by kernel_rfl))
              simp only [List.getElem?_toArray, List.getElem?_cons_zero, List.getElem?_cons_succ, Option.getD_some] at e74
              have e75 := hbaseF 75 (not_dst (by kernel_rfl))
              simp only [List.getElem?_toArray, List.getElem?_cons_zero, List.getElem?_cons_succ, Option.getD_some] at e75
              have e76 := hbaseF 76 (not_dst (by kernel_rfl))
              simp only [List.getElem?_toArray, List.getElem?_cons_zero, List.getElem?_cons_succ, Option.getD_some] at e76
              have e77 := hbaseF 77 (not_dst (by kernel_rfl))
              simp only [List.getElem?_toArray, List.getElem?_cons_zero, List.getElem?_cons_succ, Option.getD_some] at e77
              have e78 := hbaseF 78 (not_dst (by kernel_rfl))
              simp only [List.getElem?_toArray, List.getElem?_cons_zero, List.getElem?_cons_succ, Option.getD_some] at e78
              clear hbaseF hfactF
              have hT : T = #[T[0]?.getD undef, T[1]?.getD undef, T[2]?.getD undef, T[3]?.getD undef, T[4]?.getD undef, T[5]?.getD undef, T[6]?.getD undef, T[7]?.getD undef, T[8]?.getD undef, T[9]?.getD undef, T[10]?.getD undef, T[11]?.getD undef, T[12]?.getD undef, T[13]?.getD undef, T[14]?.getD undef, T[15]?.getD undef, T[16]?.getD undef, T[17]?.getD undef, T[18]?.getD undef, T[19]?.getD undef, T[20]?.getD undef, T[21]?.getD undef, T[22]?.getD undef, T[23]?.getD undef, T[24]?.getD undef, T[25]?.getD undef, T[26]?.getD undef, T[27]?.getD undef, T[28]?.getD undef, T[29]?.getD undef, T[30]?.getD undef, T[31]?.getD undef, T[32]?.getD undef, T[33]?.getD undef, T[34]?.getD undef, T[35]?.getD undef, T[36]?.getD undef, T[37]?.getD undef, T[38]?.getD undef, T[39]?.getD undef, T[40]?.getD undef, T[41]?.getD undef, T[42]?.getD undef, T[43]?.getD undef, T[44]?.getD undef, T[45]?.getD undef, T[46]?.getD undef, T[47]?.getD undef, T[48]?.getD undef, T[49]?.getD undef, T[50]?.getD undef, T[51]?.getD undef, T[52]?.getD undef, T[53]?.getD undef, T[54]?.getD undef, T[55]?.getD undef, T[56]?.getD undef, T[57]?.getD undef, T[58]?.getD undef, T[59]?.getD undef, T[60]?.getD undef, T[61]?.getD undef, T[62]?.getD undef, T[63]?.getD undef, T[64]?.getD undef, T[65]?.getD undef, T[66]?.getD undef, T[67]?.getD undef, T[68]?.getD undef, T[69]?.getD undef, T[70]?.getD undef, T[71]?.getD undef, T[72]?.getD undef, T[73]?.getD undef, T[74]?.getD undef, T[75]?.getD undef, T[76]?.getD undef, T[77]?.getD undef, T[78]?.getD undef] := arr_eq T 79 hsF
              clear hsF
              rw [e0] at hT; clear e0
              rw [e1] at hT; clear e1
              rw [e2] at hT; clear e2
              rw [e3] at hT; clear e3
              rw [e4] at hT; clear e4
              rw [e5] at hT; clear e5
              rw [e6] at hT; clear e6
              rw [e7] at hT; clear e7
              rw [e8] at hT; clear e8
              rw [e9] at hT; clear e9
              rw [e10] at hT; clear e10
              rw [e11] at hT; clear e11
              rw [e12] at hT; clear e12
              rw [e13] at hT; clear e13
              rw [e14] at hT; clear e14
              rw [e15] at hT; clear e15
              rw [e16] at hT; clear e16
              rw [e17] at hT; clear e17
              rw [e18] at hT; clear e18
              rw [e19] at hT; clear e19
              rw [e20] at hT; clear e20
              rw [e21] at hT; clear e21
              rw [e22] at hT; clear e22
              rw [e23] at hT; clear e23
              rw [e24] at hT; clear e24
              rw [e25] at hT; clear e25
              rw [e26] at hT; clear e26
              rw [e27] at hT; clear e27
              rw [e28] at hT; clear e28
              rw [e29] at hT; clear e29
              rw [e30] at hT; clear e30
              rw [e31] at hT; clear e31
              rw [e32] at hT; clear e32
              rw [e33] at hT; clear e33
              rw [e34] at hT; clear e34
              rw [e35] at hT; clear e35
              rw [e36] at hT; clear e36
              rw [e37] at hT; clear e37
              rw [e38] at hT; clear e38
              rw [e39] at hT; clear e39
              rw [e40] at hT; clear e40
              rw [e41] at hT; clear e41
              rw [e42] at hT; clear e42
              rw [e43] at hT; clear e43
              rw [e44] at hT; clear e44
              rw [e45] at hT; clear e45
              rw [e46] at hT; clear e46
              rw [e47] at hT; clear e47
              rw [e48] at hT; clear e48
              rw [e49] at hT; clear e49
              rw [e50] at hT; clear e50
              rw [e51] at hT; clear e51
              rw [e52] at hT; clear e52
              rw [e53] at hT; clear e53
              rw [e54] at hT; clear e54
              rw [e55] at hT; clear e55
              rw [e56] at hT; clear e56
              rw [e57] at hT; clear e57
              rw [e58] at hT; clear e58
              generalize T[59]?.getD undef = u59 at hT
              generalize T[60]?.getD undef = u60 at hT
              generalize T[61]?.getD undef = u61 at hT
              generalize T[62]?.getD undef = u62 at hT
              generalize T[63]?.getD undef = u63 at hT
              generalize T[64]?.getD undef = u64 at hT
              generalize T[65]?.getD undef = u65 at hT
              generalize T[66]?.getD undef = u66 at hT
              rw [e67] at hT; clear e67
              rw [e68] at hT; clear e68
              rw [e69] at hT; clear e69
              rw [e70] at hT; clear e70
              rw [e71] at hT; clear e71
              rw [e72] at hT; clear e72
              rw [e73] at hT; clear e73
              rw [e74] at hT; clear e74
              rw [e75] at hT; clear e75
              rw [e76] at hT; clear e76
              rw [e77] at hT; clear e77
              rw [e78] at hT; clear e78
              subst hT
              obtain ⟨_, A9, c9, hB9, hX9, hn9, hm9⟩ := hiF
              have cB9 := hB9.cell
              have hbrF : Below wr.heap.size wr wF := hBd.trans (hbF.below (by omega) (by simp))
              obtain ⟨hs, hFr, hAll⟩ := hO.below hbrF
              have hsl : hs.length = k := by rw [hAll.1, objsL_len]
              have hzF := hbrF.size
              have hAl2 := hAll.below ((Below.refl wF.heap.size wF).alloc (Nat.le_refl _) (.cells #[.int .u64 ((S : Nat) : Int), .slice A9 L c9] 62))
              have hX10 := hX9.below ((Below.refl wF.heap.size wF).alloc (Nat.le_refl _) (.cells #[.int .u64 ((S : Nat) : Int), .slice A9 L c9] 62))
              have hFr2 := hFr.alloc (.cells #[.int .u64 ((S : Nat) : Int), .slice A9 L c9] 62)
              have hbx := RdG.boxed (E := obE) wF 62 ((((S : Nat) : Int)), A9, L, c9) #[.int .u64 ((S : Nat) : Int), .slice A9 L c9] rfl
              clear hB9 hB hBd hcut2 hRx hX9 hAll hFr hO
              go_wp2_with (at_builtin; refine wpList_append_G (E := obE) _ rfl (.tmp 67) (.tmp 69) _ rfl w.heap.size 62 Try.underlying35 infoOb rfl u7 hs rfl hFr2 (some ⟨wF.heap.size, 0, none⟩) 1 1 [((((S : Nat) : Int)), A9, L, c9)] rfl hbx (by omega) (by omega) (by simp; omega) ?_; intro v10 w10 hF10 hg10 hb10)
              go_roundw
              case rel =>
                obtain ⟨_, _, e0, hown⟩ := hFr2
                exact ⟨k + 1, by omega, by go_num, ⟨_, hF10, by rw [hst.out]; exact hAl2.more (show RItem obK _ _ _ _ _ from ⟨rfl, hX10, hn9, hm9⟩) hown (Nat.le_refl _) (by decide) hg10⟩, hG', (hbel.trans (hbrF.mono hbz)).trans ((show Below w.heap.size wF _ from (Below.refl _ _).alloc (by omega) _).trans hb10)⟩
              case measure => simp [intOf] <;> omega
          · have hF : M = false := by rw [HM.out]; exact hnn.out (by rw [HGW.out]; simp [h2, h3])
            subst h2
            have q3 : ((S : Int) == 0) = false := by simpa using h3
            clear HM hnn HGW hgg hst
            subst hF
            go_wp2_with fail
            go_ret2
            exact RObjs.no rfl (by (have q_hbel := Below.size hbel; (try simp at q_hbel); repeat (first | exact Below.refl _ _ | (refine Below.trans ?_ (Below.mono hbel (by first | omega | (simp; omega) | simp))) | (refine Below.setCell ?_ (by first | omega | (simp; omega) | simp) _) | (refine Below.alloc ?_ (by first | omega | (simp; omega) | simp) _) | apply Below.drew | apply below_drewN)))
        · by_cases h3 : S = 0
          · have hF : M = false := by rw [HM.out]; exact hnn.out (by rw [HGW.out]; simp [h2, h3])
            subst h3
            have q2 : ((L : Int) == 0) = false := by simpa using h2
            clear HM hnn HGW hgg hst
            subst hF
            go_wp2_with fail
            go_ret2
            exact RObjs.no rfl (by (have q_hbel := Below.size hbel; (try simp at q_hbel); repeat (first | exact Below.refl _ _ | (refine Below.trans ?_ (Below.mono hbel (by first | omega | (simp; omega) | simp))) | (refine Below.setCell ?_ (by first | omega | (simp; omega) | simp) _) | (refine Below.alloc ?_ (by first | omega | (simp; omega) | simp) _) | apply Below.drew | apply below_drewN)))
          · have hG' := Lib.hid (hgg.out (by rw [HGW.out]; simp [h2, h3]; omega))
            have q2 : ((L : Int) == 0) = false := by simpa using h2
            have q3 : ((S : Int) == 0) = false := by simpa using h3
            clear h2 h3
            obtain ⟨by_, hby⟩ : ∃ by_, by_ = (s.take (8 + L)).drop 8 := ⟨_, rfl⟩
            have hbl : by_.length = L := by rw [hby, List.length_drop, List.length_take]; omega
            have hcut := hRw.cut (k := 8) (m := 8 + L) (cap := cp - K) (by omega) (by omega) (by omega)
            rw [if_neg (by omega), Option.map_some, addr_add, Nat.add_sub_cancel_left, ← hby] at hcut
            rw [← hby] at hst
            clear hnn HGW hgg hby hcx
            have hBd : Below wr.heap.size wr (wr.alloc (.cells #[.int .u64 ((S : Nat) : Int), .slice none 0 0] 62)) := (by (repeat (first | exact Below.refl _ _ | (refine Below.setCell ?_ (by first | omega | (simp; omega) | simp) _) | (refine Below.alloc ?_ (by first | omega | (simp; omega) | simp) _) | apply Below.drew | apply below_drewN)))
            have hcut2 := hcut.below hBd
            have hzn : wr.heap.size < (wr.alloc (.cells #[.int .u64 ((S : Nat) : Int), .slice none 0 0] 62)).heap.size := hB.lt
            go_wp2_with fail
            obtain ⟨wa, hwa⟩ : ∃ wa, wa = wr.alloc (.cells #[.int .u64 ((S : Nat) : Int), .slice none 0 0] 62) := ⟨_, rfl⟩
            rw [← hwa] at hB hBd hcut2 hzn ⊢
            have hRx : RdN wa [wr.heap.size] (some ⟨b, off + K + 8, none⟩) L by_ := ⟨hcut2, fun ad hn hA hx => by
              simp at hx
              injection hA with hA
              have h9 : b = wr.heap.size := by rw [← hA] at hx; exact hx
              have := hbel.size
              omega⟩
            clear hwa hcut hRw
            refine wp_flv [(fun y_ _ => y_ = .pointer (some ⟨wr.heap.size, 1, none⟩)), (fun y_ _ => y_ = .slice none 0 0), (fun y_ _ => y_ = .slice (some ⟨b, off + K, none⟩) z (cp - K)), (fun y_ _ => y_ = .int .i64 (L : Int)), (fun y_ _ => y_ = .int .i64 (8 + L)), (fun y_ _ => y_ = .slice (some ⟨b, off + K + 8, none⟩) L (cp - K - 8)), IsRow [wr.heap.size] wa.heap.size 5 L by_, (fun y_ _ => y_ = .pointer (some ⟨wr.heap.size, 1, none⟩)), (fun _ _ => True)] [wr.heap.size] (ObInv 62 5 wr.heap.size w.heap.size (S : Int) L by_) [8] (by kernel_rfl) ⟨StabW.eq _ _, StabW.eq _ _, StabW.eq _ _, StabW.eq _ _, StabW.eq _ _, StabW.eq _ _, IsRow.stab _ _ _ _ _, StabW.eq _ _, StabW.any _, trivial⟩ (ObInv.stab) (hB) (by kernel_rfl) (by kernel_rfl) (by kernel_rfl) (by rfl) ?_ ?_
            · intro kq hkq
              match kq, hkq with
              | 0, _ =>
                refine StepV.plain _ rfl rfl rfl [(11, none)] (by kernel_rfl) (fun af wf hbw hz hf Kf hKf => ?_)
                obtain ⟨g11, _⟩ := hf
                have h11 : af.tmps[11]?.getD undef = .pointer (some ⟨wr.heap.size, 0, none⟩) := g11
                clear g11
                go_simp
                exact hKf _ _ (Below.refl _ _) rfl
              | 1, _ =>
                refine StepV.plain _ rfl rfl rfl [(59, some 0)] (by kernel_rfl) (fun af wf hbw hz hf Kf hKf => ?_)
                obtain ⟨g59, _⟩ := hf
                have h59 : af.tmps[59]?.getD undef = .pointer (some ⟨wr.heap.size, 1, none⟩) := g59
                clear g59
                obtain ⟨_, hz0⟩ := hz 8 rfl (by kernel_rfl)
                have cB9 := Blk.cell hz0
                go_simp
                exact hKf _ _ (Below.refl _ _) rfl
              | 2, _ =>
                refine StepV.plain _ rfl rfl rfl [(9, none)] (by kernel_rfl) (fun af wf hbw hz hf Kf hKf => ?_)
                obtain ⟨g9, _⟩ := hf
                have h9 : af.tmps[9]?.getD undef = .slice (some ⟨b, off + K, none⟩) z (cp - K) := g9
                clear g9
                go_simp
                exact hKf _ _ (Below.refl _ _) rfl
              | 3, _ =>
                refine StepV.plain _ rfl rfl rfl [(10, none)] (by kernel_rfl) (fun af wf hbw hz hf Kf hKf => ?_)
                obtain ⟨g10, _⟩ := hf
                have h10 : af.tmps[10]?.getD undef = .int .i64 (L : Int) := g10
                clear g10
                go_simp
                exact hKf _ _ (Below.refl _ _) rfl
              | 4, _ =>
                refine StepV.plain _ rfl rfl rfl [(62, some 3)] (by kernel_rfl) (fun af wf hbw hz hf Kf hKf => ?_)
                obtain ⟨g62, _⟩ := hf
                have h62 : af.tmps[62]?.getD undef = .int .i64 (L : Int) := g62
                clear g62
                have hwr : IntKind.i64.wrap (8 + (L : Int)) = 8 + (L : Int) := IntWalk.i64_in _ (by omega)
                go_simp
                exact hKf _ _ (Below.refl _ _) rfl
              | 5, _ =>
                refine StepV.plain _ rfl rfl rfl [(61, some 2), (63, some 4)] (by kernel_rfl) (fun af wf hbw hz hf Kf hKf => ?_)
                obtain ⟨g61, g63, _⟩ := hf
                have h61 : af.tmps[61]?.getD undef = .slice (some ⟨b, off + K, none⟩) z (cp - K) := g61
                have h63 : af.tmps[63]?.getD undef = .int .i64 (8 + L) := g63
                clear g61 g63
                have r1 : (0 : Int) ≤ 8 + L := by omega
                have r2 : (8 : Int) + L ≤ ((cp - K : Nat) : Int) := by omega
                have r3 : max (8 + (L : Int)) 0 = 8 + L := by omega
                have r4 : (8 + (L : Int)).toNat = 8 + L := by omega
                have r5 : (8 : Int) ≤ 8 + L := by omega
                have r6 : ¬ cp - K = 8 := by omega
                go_simp
                exact hKf _ _ (Below.refl _ _) rfl
              | 6, _ =>
                refine StepV.plain _ rfl rfl rfl [(60, some 1), (64, some 5)] (by kernel_rfl) (fun af wf hbw hz hf Kf hKf => ?_)
                obtain ⟨g60, g64, _⟩ := hf
                have h60 : af.tmps[60]?.getD undef = .slice none 0 0 := g60
                have h64 : af.tmps[64]?.getD undef = .slice (some ⟨b, off + K + 8, none⟩) L (cp - K - 8) := g64
                clear g60 g64
                have hRf := RdN.kept (RdN.drew hRx) hbw (fun _ h_ => h_)
                refine wp_append_bytes wf (.tmp 60) (.tmp 64) _ rfl wf.heap.size 5 Try.underlying32 info8 (.slice none 0 0) [] (by simp [Act.eval, h60]) (Fresh.nil _ _ _) (some ⟨b, off + K + 8, none⟩) L (cp - K - 8) by_ (by simp [Act.eval, h64]) hRf.1 (by simp; omega) (Nat.le_refl _) ?_; intro v6 w6 hF6 hg6 hb6; rw [List.nil_append] at hF6
                exact hKf _ _ (hb6) (IsRow.of (hF6.from_ hbw.size) (by simpa using hzn) hbl)
              | 7, _ =>
                refine StepV.plain _ rfl rfl rfl [(11, none)] (by kernel_rfl) (fun af wf hbw hz hf Kf hKf => ?_)
                obtain ⟨g11, _⟩ := hf
                have h11 : af.tmps[11]?.getD undef = .pointer (some ⟨wr.heap.size, 0, none⟩) := g11
                clear g11
                go_simp
                exact hKf _ _ (Below.refl _ _) rfl
              | 8, _ =>
                refine StepV.chain 0 _ rfl rfl rfl (by decide) [(66, some 7), (65, some 6)] (by kernel_rfl) (fun af wf hbw hiv hf Kf hKf => ?_)
                obtain ⟨uv, hiv, hlast⟩ := hiv
                obtain ⟨g66, g65, _⟩ := hf
                have h66 : af.tmps[66]?.getD undef = .pointer (some ⟨wr.heap.size, 1, none⟩) := g66
                have g65 : IsRow [wr.heap.size] wa.heap.size 5 L by_ (af.tmps[65]?.getD undef) wf := g65
                obtain ⟨hz65, A65, c65, h65, hF65, hn65, hm65⟩ := g65
                clear g66
                have cB9 := Blk.cell hiv
                have fB9 := Blk.frozen hiv
                go_simp
                exact hKf undef _ ((Kept.setCell (p := ⟨wr.heap.size, 1, none⟩) (.refl _ _) (by simp) _)) (⟨A65, c65, by simpa using Blk.set_ hiv 1 _, (RdX.fresh hF65 hbl).set_ hiv (by decide) (by omega) 1 _, hn65, hm65⟩) (trivial)
              | i + 9, h => exact absurd h (by show ¬ (i + 9 < 9); omega)
            · intro af wF hbF hiF hdF hsF hbaseF hfactF
              obtain ⟨T, dsF⟩ := af
              obtain rfl : dsF = _ := hdF
              have e0 := hbaseF 0 (not_dst (by kernel_rfl))
              simp only [List.getElem?_toArray, List.getElem?_cons_zero, Option.getD_some] at e0
              have e1 := hbaseF 1 (not_dst (by kernel_rfl))
              simp only [List.getElem?_toArray, List.getElem?_cons_zero, List.getElem?_cons_succ, Option.getD_some] at e1
              have e2 := hbaseF 2 (not_dst (by kernel_rfl))
              simp only [List.getElem?_toArray, List.getElem?_cons_zero, List.getElem?_cons_succ, Option.getD_some] at e2
              have e3 := hbaseF 3 (not_dst (by kernel_rfl))
              simp only [List.getElem?_toArray, List.getElem?_cons_zero, List.getElem?_cons_succ, Option.getD_some] at e3
              have e4 := hbaseF 4 (not_dst (by kernel_rfl))
              simp only [List.getElem?_toArray, List.getElem?_cons_zero, List.getElem?_cons_succ, Option.getD_some] at e4
              have e5 := hbaseF 5 (not_dst (by kernel_rfl))
              simp only [List.getElem?_toArray, List.getElem?_cons_zero, List.getElem?_cons_succ, Option.getD_some] at e5
              have e6 := hbaseF 6 (not_dst (by kernel_rfl))
              simp only [List.getElem?_toArray, List.getElem?_cons_zero, List.getElem?_cons_succ, Option.getD_some] at e6
              have e7 := hbaseF 7 (not_dst (by kernel_rfl))
              simp only [List.getElem?_toArray, List.getElem?_cons_zero, List.getElem?_cons_succ, Option.getD_some] at e7
              have e8 := hbaseF 8 (not_dst (by kernel_rfl))
              simp only [List.getElem?_toArray, List.getElem?_cons_zero, List.getElem?_cons_succ, Option.getD_some] at e8
              have e9 := hbaseF 9 (not_dst (by kernel_rfl))
              simp only [List.getElem?_toArray, List.getElem?_cons_zero, List.getElem?_cons_succ, Option.getD_some] at e9
              have e10 := hbaseF 10 (not_dst (by kernel_rfl))
              simp only [List.getElem?_toArray, List.getElem?_cons_zero, List.getElem?_cons_succ, Option.getD_some] at e10
              have e11 := hbaseF 11 (not_dst (by kernel_rfl))
              simp only [List.getElem?_toArray, List.getElem?_cons_zero, List.getElem?_cons_succ, Option.getD_some] at e11
              have e12 := hbaseF 12 (not_dst (by kernel_rfl))
              simp only [List.getElem?_toArray, List.getElem?_cons_zero, List.getElem?_cons_succ, Option.getD_some] at e12
              have e13 := hbaseF 13 (not_dst (by kernel_rfl))
              simp only [List.getElem?_toArray, List.getElem?_cons_zero, List.getElem?_cons_succ, Option.getD_some] at e13
              have e14 := hbaseF 14 (not_dst (by kernel_rfl))
              simp only [List.getElem?_toArray, List.getElem?_cons_zero, List.getElem?_cons_succ, Option.getD_some] at e14
              have e15 := hbaseF 15 (not_dst (by kernel_rfl))
              simp only [List.getElem?_toArray, List.getElem?_cons_zero, List.getElem?_cons_succ, Option.getD_some] at e15
              have e16 := hbaseF 16 (not_dst (by kernel_rfl))
              simp only [List.getElem?_toArray, List.getElem?_cons_zero, List.getElem?_cons_succ, Option.getD_some] at e16
              have e17 := hbaseF 17 (not_dst (by kernel_rfl))
              simp only [List.getElem?_toArray, List.getElem?_cons_zero, List.getElem?_cons_succ, Option.getD_some] at e17
              have e18 := hbaseF 18 (not_dst (by kernel_rfl))
              simp only [List.getElem?_toArray, List.getElem?_cons_zero, List.getElem?_cons_succ, Option.getD_some] at e18
              have e19 := hbaseF 19 (not_dst (by kernel_rfl))
              simp only [List.getElem?_toArray, List.getElem?_cons_zero, List.getElem?_cons_succ, Option.getD_some] at e19
              have e20 := hbaseF 20 (not_dst (by kernel_rfl))
              simp only [List.getElem?_toArray, List.getElem?_cons_zero, List.getElem?_cons_succ, Option.getD_some] at e20
              have e21 := hbaseF 21 (not_dst (by kernel_rfl))
              simp only [List.getElem?_toArray, List.getElem?_cons_zero, List.getElem?_cons_succ, Option.getD_some] at e21
              have e22 := hbaseF 22 (not_dst (by kernel_rfl))
              simp only [List.getElem?_toArray, List.getElem?_cons_zero, List.getElem?_cons_succ, Option.getD_some] at e22
              have e23 := hbaseF 23 (not_dst (by kernel_rfl))
              simp only [List.getElem?_toArray, List.getElem?_cons_zero, List.getElem?_cons_succ, Option.getD_some] at e23
              have e24 := hbaseF 24 (not_dst (by kernel_rfl))
              simp only [List.getElem?_toArray, List.getElem?_cons_zero, List.getElem?_cons_succ, Option.getD_some] at e24
              have e25 := hbaseF 25 (not_dst (by kernel_rfl))
              simp only [List.getElem?_toArray, List.getElem?_cons_zero, List.getElem?_cons_succ, Option.getD_some] at e25
              have e26 := hbaseF 26 (not_dst (by kernel_rfl))
              simp only [List.getElem?_toArray, List.getElem?_cons_zero, List.getElem?_cons_succ, Option.getD_some] at e26
              have e27 := hbaseF 27 (not_dst (by kernel_rfl))
              simp only [List.getElem?_toArray, List.getElem?_cons_zero, List.getElem?_cons_succ, Option.getD_some] at e27
              have e28 := hbaseF 28 (not_dst (by kernel_rfl))
              simp only [List.getElem?_toArray, List.getElem?_cons_zero, List.getElem?_cons_succ, Option.getD_some] at e28
              have e29 := hbaseF 29 (not_dst (by kernel_rfl))
              simp only [List.getElem?_toArray, List.getElem?_cons_zero, List.getElem?_cons_succ, Option.getD_some] at e29
              have e30 := hbaseF 30 (not_dst (by kernel_rfl))
              simp only [List.getElem?_toArray, List.getElem?_cons_zero, List.getElem?_cons_succ, Option.getD_some] at e30
              have e31 := hbaseF 31 (not_dst (by kernel_rfl))
              simp only [List.getElem?_toArray, List.getElem?_cons_zero, List.getElem?_cons_succ, Option.getD_some] at e31
              have e32 := hbaseF 32 (not_dst (by kernel_rfl))
              simp only [List.getElem?_toArray, List.getElem?_cons_zero, List.getElem?_cons_succ, Option.getD_some] at e32
              have e33 := hbaseF 33 (not_dst (by kernel_rfl))
              simp only [List.getElem?_toArray, List.getElem?_cons_zero, List.getElem?_cons_succ, Option.getD_some] at e33
              have e34 := hbaseF 34 (not_dst (by kernel_rfl))
              simp only [List.getElem?_toArray, List.getElem?_cons_zero, List.getElem?_cons_succ, Option.getD_some] at e34
              have e35 := hbaseF 35 (not_dst (by kernel_rfl))
              simp only [List.getElem?_toArray, List.getElem?_cons_zero, List.getElem?_cons_succ, Option.getD_some] at e35
              have e36 := hbaseF 36 (not_dst (by kernel_rfl))
              simp only [List.getElem?_toArray, List.getElem?_cons_zero, List.getElem?_cons_succ, Option.getD_some] at e36
              have e37 := hbaseF 37 (not_dst (by kernel_rfl))
              simp only [List.getElem?_toArray, List.getElem?_cons_zero, List.getElem?_cons_succ, Option.getD_some] at e37
              have e38 := hbaseF 38 (not_dst (by kernel_rfl))
              simp only [List.getElem?_toArray, List.getElem?_cons_zero, List.getElem?_cons_succ, Option.getD_some] at e38
              have e39 := hbaseF 39 (not_dst (by kernel_rfl))
              simp only [List.getElem?_toArray, List.getElem?_cons_zero, List.getElem?_cons_succ, Option.getD_some] at e39
              have e40 := hbaseF 40 (not_dst (by kernel_rfl))
              simp only [List.getElem?_toArray, List.getElem?_cons_zero, List.getElem?_cons_succ, Option.getD_some] at e40
              have e41 := hbaseF 41 (not_dst (by kernel_rfl))
              simp only [List.getElem?_toArray, List.getElem?_cons_zero, List.getElem?_cons_succ, Option.getD_some] at e41
              have e42 := hbaseF 42 (not_dst (by kernel_rfl))
              simp only [List.getElem?_toArray, List.getElem?_cons_zero, List.getElem?_cons_succ, Option.getD_some] at e42
              have e43 := hbaseF 43 (not_dst (by kernel_rfl))
              simp only [List.getElem?_toArray, List.getElem?_cons_zero, List.getElem?_cons_succ, Option.getD_some] at e43
              have e44 := hbaseF 44 (not_dst (by kernel_rfl))
              simp only [List.getElem?_toArray, List.getElem?_cons_zero, List.getElem?_cons_succ, Option.getD_some] at e44
              have e45 := hbaseF 45 (not_dst (by kernel_rfl))
              simp only [List.getElem?_toArray, List.getElem?_cons_zero, List.getElem?_cons_succ, Option.getD_some] at e45
              have e46 := hbaseF 46 (not_dst (by kernel_rfl))
              simp only [List.getElem?_toArray, List.getElem?_cons_zero, List.getElem?_cons_succ, Option.getD_some] at e46
              have e47 := hbaseF 47 (not_dst (by kernel_rfl))
              simp only [List.getElem?_toArray, List.getElem?_cons_zero, List.getElem?_cons_succ, Option.getD_some] at e47
              have e48 := hbaseF 48 (not_dst (by kernel_rfl))
              simp only [List.getElem?_toArray, List.getElem?_cons_zero, List.getElem?_cons_succ, Option.getD_some] at e48
              have e49 := hbaseF 49 (not_dst (by kernel_rfl))
              simp only [List.getElem?_toArray, List.getElem?_cons_zero, List.getElem?_cons_succ, Option.getD_some] at e49
              have e50 := hbaseF 50 (not_dst (by kernel_rfl))
              simp only [List.getElem?_toArray, List.getElem?_cons_zero, List.getElem?_cons_succ, Option.getD_some] at e50
              have e51 := hbaseF 51 (not_dst (by kernel_rfl))
              simp only [List.getElem?_toArray, List.getElem?_cons_zero, List.getElem?_cons_succ, Option.getD_some] at e51
              have e52 := hbaseF 52 (not_dst (by kernel_rfl))
              simp only [List.getElem?_toArray, List.getElem?_cons_zero, List.getElem?_cons_succ, Option.getD_some] at e52
              have e53 := hbaseF 53 (not_dst (by kernel_rfl))
              simp only [List.getElem?_toArray, List.getElem?_cons_zero, List.getElem?_cons_succ, Option.getD_some] at e53
              have e54 := hbaseF 54 (not_dst (by kernel_rfl))
              simp only [List.getElem?_toArray, List.getElem?_cons_zero, List.getElem?_cons_succ, Option.getD_some] at e54
              have e55 := hbaseF 55 (not_dst (by kernel_rfl))
              simp only [List.getElem?_toArray, List.getElem?_cons_zero, List.getElem?_cons_succ, Option.getD_some] at e55
              have e56 := hbaseF 56 (not_dst (by kernel_rfl))
              simp only [List.getElem?_toArray, List.getElem?_cons_zero, List.getElem?_cons_succ, Option.getD_some] at e56
              have e57 := hbaseF 57 (not_dst (by kernel_rfl))
              simp only [List.getElem?_toArray, List.getElem?_cons_zero, List.getElem?_cons_succ, Option.getD_some] at e57
              have e58 := hbaseF 58 (not_dst (by kernel_rfl))
              simp only [List.getElem?_toArray, List.getElem?_cons_zero, List.getElem?_cons_succ, Option.getD_some] at e58
              have e67 := hbaseF 67 (not_dst (by kernel_rfl))
              simp only [List.getElem?_toArray, List.getElem?_cons_zero, List.getElem?_cons_succ, Option.getD_some] at e67
              have e68 := hbaseF 68 (not_dst (by kernel_rfl))
              simp only [List.getElem?_toArray, List.getElem?_cons_zero, List.getElem?_cons_succ, Option.getD_some] at e68
              have e69 := hbaseF 69 (not_dst (by kernel_rfl))
              simp only [List.getElem?_toArray, List.getElem?_cons_zero, List.getElem?_cons_succ, Option.getD_some] at e69
              have e70 := hbaseF 70 (not_dst (by kernel_rfl))
              simp only [List.getElem?_toArray, List.getElem?_cons_zero, List.getElem?_cons_succ, Option.getD_some] at e70
              have e71 := hbaseF 71 (not_dst (by kernel_rfl))
              simp only [List.getElem?_toArray, List.getElem?_cons_zero, List.getElem?_cons_succ, Option.getD_some] at e71
              have e72 := hbaseF 72 (not_dst (by kernel_rfl))
              simp only [List.getElem?_toArray, List.getElem?_cons_zero, List.getElem?_cons_succ, Option.getD_some] at e72
              have e73 := hbaseF 73 (not_dst (by kernel_rfl))
              simp only [List.getElem?_toArray, List.getElem?_cons_zero, List.getElem?_cons_succ, Option.getD_some] at e73
              have e74 := hbaseF 74 (not_dst (by kernel_rfl))
              simp only [List.getElem?_toArray, List.getElem?_cons_zero, List.getElem?_cons_succ, Option.getD_some] at e74
              have e75 := hbaseF 75 (not_dst (by kernel_rfl))
              simp only [List.getElem?_toArray, List.getElem?_cons_zero, List.getElem?_cons_succ, Option.getD_some] at e75
              have e76 := hbaseF 76 (not_dst (by kernel_rfl))
              simp only [List.getElem?_toArray, List.getElem?_cons_zero, List.getElem?_cons_succ, Option.getD_some] at e76
              have e77 := hbaseF 77 (not_dst (by kernel_rfl))
              simp only [List.getElem?_toArray, List.getElem?_cons_zero, List.getElem?_cons_succ, Option.getD_some] at e77
              have e78 := hbaseF 78 (not_dst (by kernel_rfl))
              simp only [List.getElem?_toArray, List.getElem?_cons_zero, List.getElem?_cons_succ, Option.getD_some] at e78
              clear hbaseF hfactF
              have hT : T = #[T[0]?.getD undef, T[1]?.getD undef, T[2]?.getD undef, T[3]?.getD undef, T[4]?.getD undef, T[5]?.getD undef, T[6]?.getD undef, T[7]?.getD undef, T[8]?.getD undef, T[9]?.getD undef, T[10]?.getD undef, T[11]?.getD undef, T[12]?.getD undef, T[13]?.getD undef, T[14]?.getD undef, T[15]?.getD undef, T[16]?.getD undef, T[17]?.getD undef, T[18]?.getD undef, T[19]?.getD undef, T[20]?.getD undef, T[21]?.getD undef, T[22]?.getD undef, T[23]?.getD undef, T[24]?.getD undef, T[25]?.getD undef, T[26]?.getD undef, T[27]?.getD undef, T[28]?.getD undef, T[29]?.getD undef, T[30]?.getD undef, T[31]?.getD undef, T[32]?.getD undef, T[33]?.getD undef, T[34]?.getD undef, T[35]?.getD undef, T[36]?.getD undef, T[37]?.getD undef, T[38]?.getD undef, T[39]?.getD undef, T[40]?.getD undef, T[41]?.getD undef, T[42]?.getD undef, T[43]?.getD undef, T[44]?.getD undef, T[45]?.getD undef, T[46]?.getD undef, T[47]?.getD undef, T[48]?.getD undef, T[49]?.getD undef, T[50]?.getD undef, T[51]?.getD undef, T[52]?.getD undef, T[53]?.getD undef, T[54]?.getD undef, T[55]?.getD undef, T[56]?.getD undef, T[57]?.getD undef, T[58]?.getD undef, T[59]?.getD undef, T[60]?.getD undef, T[61]?.getD undef, T[62]?.getD undef, T[63]?.getD undef, T[64]?.getD undef, T[65]?.getD undef, T[66]?.getD undef, T[67]?.getD undef, T[68]?.getD undef, T[69]?.getD undef, T[70]?.getD undef, T[71]?.getD undef, T[72]?.getD undef, T[73]?.getD undef, T[74]?.getD undef, T[75]?.getD undef, T[76]?.getD undef, T[77]?.getD undef, T[78]?.getD undef] := arr_eq T 79 hsF
              clear hsF
              rw [e0] at hT; clear e0
              rw [e1] at hT; clear e1
              rw [e2] at hT; clear e2
              rw [e3] at hT; clear e3
              rw [e4] at hT; clear e4
              rw [e5] at hT; clear e5
              rw [e6] at hT; clear e6
              rw [e7] at hT; clear e7
              rw [e8] at hT; clear e8
              rw [e9] at hT; clear e9
              rw [e10] at hT; clear e10
              rw [e11] at hT; clear e11
              rw [e12] at hT; clear e12
              rw [e13] at hT; clear e13
              rw [e14] at hT; clear e14
              rw [e15] at hT; clear e15
              rw [e16] at hT; clear e16
              rw [e17] at hT; clear e17
              rw [e18] at hT; clear e18
              rw [e19] at hT; clear e19
              rw [e20] at hT; clear e20
              rw [e21] at hT; clear e21
              rw [e22] at hT; clear e22
              rw [e23] at hT; clear e23
              rw [e24] at hT; clear e24
              rw [e25] at hT; clear e25
              rw [e26] at hT; clear e26
              rw [e27] at hT; clear e27
              rw [e28] at hT; clear e28
              rw [e29] at hT; clear e29
              rw [e30] at hT; clear e30
              rw [e31] at hT; clear e31
              rw [e32] at hT; clear e32
              rw [e33] at hT; clear e33
              rw [e34] at hT; clear e34
              rw [e35] at hT; clear e35
              rw [e36] at hT; clear e36
              rw [e37] at hT; clear e37
              rw [e38] at hT; clear e38
              rw [e39] at hT; clear e39
              rw [e40] at hT; clear e40
              rw [e41] at hT; clear e41
              rw [e42] at hT; clear e42
              rw [e43] at hT; clear e43
              rw [e44] at hT; clear e44
              rw [e45] at hT; clear e45
              rw [e46] at hT; clear e46
              rw [e47] at hT; clear e47
              rw [e48] at hT; clear e48
              rw [e49] at hT; clear e49
              rw [e50] at hT; clear e50
              rw [e51] at hT; clear e51
              rw [e52] at hT; clear e52
              rw [e53] at hT; clear e53
              rw [e54] at hT; clear e54
              rw [e55] at hT; clear e55
              rw [e56] at hT; clear e56
              rw [e57] at hT; clear e57
              rw [e58] at hT; clear e58
              generalize T[59]?.getD undef = u59 at hT
              generalize T[60]?.getD undef = u60 at hT
              generalize T[61]?.getD undef = u61 at hT
              generalize T[62]?.getD undef = u62 at hT
              generalize T[63]?.getD undef = u63 at hT
              generalize T[64]?.getD undef = u64 at hT
              generalize T[65]?.getD undef = u65 at hT
              generalize T[66]?.getD undef = u66 at hT
              rw [e67] at hT; clear e67
              rw [e68] at hT; clear e68
              rw [e69] at hT; clear e69
              rw [e70] at hT; clear e70
              rw [e71] at hT; clear e71
              rw [e72] at hT; clear e72
              rw [e73] at hT; clear e73
              rw [e74] at hT; clear e74
              rw [e75] at hT; clear e75
              rw [e76] at hT; clear e76
              rw [e77] at hT; clear e77
              rw [e78] at hT; clear e78
              subst hT
              obtain ⟨_, A9, c9, hB9, hX9, hn9, hm9⟩ := hiF
              have cB9 := hB9.cell
              have hbrF : Below wr.heap.size wr wF := hBd.trans (hbF.below (by omega) (by simp))
              obtain ⟨hs, hFr, hAll⟩ := hO.below hbrF
              have hsl : hs.length = k := by rw [hAll.1, objsL_len]
              have hzF := hbrF.size
              have hAl2 := hAll.below ((Below.refl wF.heap.size wF).alloc (Nat.le_refl _) (.cells #[.int .u64 ((S : Nat) : Int), .slice A9 L c9] 62))
              have hX10 := hX9.below ((Below.refl wF.heap.size wF).alloc (Nat.le_refl _) (.cells #[.int .u64 ((S : Nat) : Int), .slice A9 L c9] 62))
              have hFr2 := hFr.alloc (.cells #[.int .u64 ((S : Nat) : Int), .slice A9 L c9] 62)
              have hbx := RdG.boxed (E := obE) wF 62 ((((S : Nat) : Int)), A9, L, c9) #[.int .u64 ((S : Nat) : Int), .slice A9 L c9] rfl
              clear hB9 hB hBd hcut2 hRx hX9 hAll hFr hO
              go_wp2_with (at_builtin; refine wpList_append_G (E := obE) _ rfl (.tmp 67) (.tmp 69) _ rfl w.heap.size 62 Try.underlying35 infoOb rfl u7 hs rfl hFr2 (some ⟨wF.heap.size, 0, none⟩) 1 1 [((((S : Nat) : Int)), A9, L, c9)] rfl hbx (by omega) (by omega) (by simp; omega) ?_; intro v10 w10 hF10 hg10 hb10)
              go_roundw
              case rel =>
                obtain ⟨_, _, e0, hown⟩ := hFr2
                exact ⟨k + 1, by omega, by go_num, ⟨_, hF10, by rw [hst.out]; exact hAl2.more (show RItem obK _ _ _ _ _ from ⟨rfl, hX10, hn9, hm9⟩) hown (Nat.le_refl _) (by decide) hg10⟩, hG', (hbel.trans (hbrF.mono hbz)).trans ((show Below w.heap.size wF _ from (Below.refl _ _).alloc (by omega) _).trans hb10)⟩
              case measure => simp [intOf] <;> omega
      · have hF : M = false := by rw [HM.out]; exact hnn.out (by rw [HGW.out]; simp; omega)
        clear HM hnn HGW hgg hst
        subst hF
        go_wp2_with fail
        go_ret2
        exact RObjs.no rfl (by (have q_hbel := Below.size hbel; (try simp at q_hbel); repeat (first | exact Below.refl _ _ | (refine Below.trans ?_ (Below.mono hbel (by first | omega | (simp; omega) | simp))) | (refine Below.setCell ?_ (by first | omega | (simp; omega) | simp) _) | (refine Below.alloc ?_ (by first | omega | (simp; omega) | simp) _) | apply Below.drew | apply below_drewN)))
    · obtain rfl : k = N := by omega
      obtain ⟨A9, c9, rfl, hR9, hn9, hm9⟩ := hO.rd k (objsL_len _ _ _)
      have hMd : M = decide (pageL z (objsL z p k) = p) := by rw [HM.out, goodP_all hG.out]
      have hok : ∀ o ∈ objsL z p k, o.1 ≤ 18446744073709551615 ∧ o.2.length ≤ 1000 := by
        intro o ho
        obtain ⟨j, hj, rfl⟩ := List.mem_map.1 ho
        have hj' := List.mem_range.1 hj
        have h1 := serW_lt (win z p j)
        have h2 := win_len z p j (by rw [hlen]; exact hc.at_ hj')
        unfold objW
        simp only [List.length_drop, List.length_take]
        omega
      have hOK := Lib.hid hok
      obtain ⟨PG, hPG⟩ : ∃ PG, PG = pageL z (objsL z p k) := ⟨_, rfl⟩
      have hPl : PG.length = 256 := by rw [hPG]; exact pageL_len _ _
      rw [← hPG] at hMd
      have HPG := Lib.hid hPG
      have hrr := hr.below hbel
      clear hPG hok HM hG
      by_cases hpp : PG = p
      · have hMt : M = true := by rw [hMd]; exact decide_eq_true hpp
        subst hMt
        have HD := Lib.hid (show ((str PG).toList == (str p).toList) = true by rw [str_toL, str_toL, hpp]; simp)
        clear hMd hpp
        go_wp2_with fail
        refine (hN _).mono ?_
        rintro e w1 ⟨rfl, rfl⟩
        go_wp2_with fail
        refine wp_flows [(fun y_ _ => y_ = .slice A9 k c9), (fun y_ _ => y_ = .int .i64 c), (IsB (256) (PG)), (fun y_ _ => y_ = .string (str (PG))), (fun y_ _ => y_ = .slice (some ⟨b, off, none⟩) 256 cp), (fun y_ _ => y_ = .string (str p)), (fun y_ _ => y_ = .bool false)] (by kernel_rfl) ⟨Stab.eq _, Stab.eq _, Stab.b _ _, Stab.eq _, Stab.eq _, Stab.eq _, Stab.eq _, trivial⟩ (by kernel_rfl) (by rfl) ?_ ?_
        · intro kq hkq
          match kq, hkq with
          | 0, _ =>
            refine StepOk.plain _ 71 rfl rfl rfl [(7, none)] (by kernel_rfl) (fun af wf hbw hf Kf hKf => ?_)
            obtain ⟨g7, _⟩ := hf
            have h7 : af.tmps[7]?.getD undef = .slice A9 k c9 := g7
            clear g7
            go_simp
            exact hKf _ _ (Below.refl _ _) rfl
          | 1, _ =>
            refine StepOk.plain _ 72 rfl rfl rfl [(1, none)] (by kernel_rfl) (fun af wf hbw hf Kf hKf => ?_)
            obtain ⟨g1, _⟩ := hf
            have h1 : af.tmps[1]?.getD undef = .int .i64 c := g1
            clear g1
            go_simp
            exact hKf _ _ (Below.refl _ _) rfl
          | 2, _ =>
            refine StepOk.plain _ 73 rfl rfl rfl [(71, some 0), (72, some 1)] (by kernel_rfl) (fun af wf hbw hf Kf hKf => ?_)
            obtain ⟨g71, g72, _⟩ := hf
            have h71 : af.tmps[71]?.getD undef = .slice A9 k c9 := g71
            have h72 : af.tmps[72]?.getD undef = .int .i64 c := g72
            clear g71 g72
            go_simp
            refine (rpage_any hc A9 k c9 w.heap.size 5 (objsL z p k) _ (hR9.drew.below hbw) hN1 hOK.out).mono ?_
            rintro e wN ⟨r, rfl, hF, hb⟩
            exact hKf _ _ (hb) (IsB.of (HPG.out ▸ hF) hPl)
          | 3, _ =>
            refine StepOk.plain _ 74 rfl rfl rfl [(73, some 2)] (by kernel_rfl) (fun af wf hbw hf Kf hKf => ?_)
            obtain ⟨g73, _⟩ := hf
            obtain ⟨A73, c73, h73, hR73, hn73, hm73⟩ : IsB (256) (PG) (af.tmps[73]?.getD undef) wf := g73
            have hcv := conv c73 _ hR73
            go_simp
            exact hKf _ _ (Below.refl _ _) rfl
          | 4, _ =>
            refine StepOk.plain _ 75 rfl rfl rfl [(0, none)] (by kernel_rfl) (fun af wf hbw hf Kf hKf => ?_)
            obtain ⟨g0, _⟩ := hf
            have h0 : af.tmps[0]?.getD undef = .slice (some ⟨b, off, none⟩) 256 cp := g0
            clear g0
            go_simp
            exact hKf _ _ (Below.refl _ _) rfl
          | 5, _ =>
            refine StepOk.plain _ 76 rfl rfl rfl [(75, some 4)] (by kernel_rfl) (fun af wf hbw hf Kf hKf => ?_)
            obtain ⟨g75, _⟩ := hf
            have h75 : af.tmps[75]?.getD undef = .slice (some ⟨b, off, none⟩) 256 cp := g75
            clear g75
            have hcv := conv cp _ (Rd.below (Rd.drew (hrr)) hbw)
            have hcv := conv cp _ (Rd.below (Rd.drew hrr) hbw)
            go_simp
            exact hKf _ _ (Below.refl _ _) rfl
          | 6, _ =>
            refine StepOk.plain _ 77 rfl rfl rfl [(74, some 3), (76, some 5)] (by kernel_rfl) (fun af wf hbw hf Kf hKf => ?_)
            obtain ⟨g74, g76, _⟩ := hf
            have h74 : af.tmps[74]?.getD undef = .string (str (PG)) := g74
            have h76 : af.tmps[76]?.getD undef = .string (str p) := g76
            clear g74 g76
            have hd := HD.out
            go_simp
            exact hKf _ _ (Below.refl _ _) rfl
          | i + 7, h => exact absurd h (by show ¬ (i + 7 < 7); omega)
        · intro af wF hbF hdF hsF hbaseF hfactF
          obtain ⟨T, dsF⟩ := af
          obtain rfl : dsF = _ := hdF
          have e0 := hbaseF 0 (not_dst (by kernel_rfl))
          simp only [List.getElem?_toArray, List.getElem?_cons_zero, Option.getD_some] at e0
          have e1 := hbaseF 1 (not_dst (by kernel_rfl))
          simp only [List.getElem?_toArray, List.getElem?_cons_zero, List.getElem?_cons_succ, Option.getD_some] at e1
          have e2 := hbaseF 2 (not_dst (by kernel_rfl))
          simp only [List.getElem?_toArray, List.getElem?_cons_zero, List.getElem?_cons_succ, Option.getD_some] at e2
          have e3 := hbaseF 3 (not_dst (by kernel_rfl))
          simp only [List.getElem?_toArray, List.getElem?_cons_zero, List.getElem?_cons_succ, Option.getD_some] at e3
          have e4 := hbaseF 4 (not_dst (by kernel_rfl))
          simp only [List.getElem?_toArray, List.getElem?_cons_zero, List.getElem?_cons_succ, Option.getD_some] at e4
          have e5 := hbaseF 5 (not_dst (by kernel_rfl))
          simp only [List.getElem?_toArray, List.getElem?_cons_zero, List.getElem?_cons_succ, Option.getD_some] at e5
          have e6 := hbaseF 6 (not_dst (by kernel_rfl))
          simp only [List.getElem?_toArray, List.getElem?_cons_zero, List.getElem?_cons_succ, Option.getD_some] at e6
          have e7 := hbaseF 7 (not_dst (by kernel_rfl))
          simp only [List.getElem?_toArray, List.getElem?_cons_zero, List.getElem?_cons_succ, Option.getD_some] at e7
          have e8 := hbaseF 8 (not_dst (by kernel_rfl))
          simp only [List.getElem?_toArray, List.getElem?_cons_zero, List.getElem?_cons_succ, Option.getD_some] at e8
          have e9 := hbaseF 9 (not_dst (by kernel_rfl))
          simp only [List.getElem?_toArray, List.getElem?_cons_zero, List.getElem?_cons_succ, Option.getD_some] at e9
          have e10 := hbaseF 10 (not_dst (by kernel_rfl))
          simp only [List.getElem?_toArray, List.getElem?_cons_zero, List.getElem?_cons_succ, Option.getD_some] at e10
          have e11 := hbaseF 11 (not_dst (by kernel_rfl))
          simp only [List.getElem?_toArray, List.getElem?_cons_zero, List.getElem?_cons_succ, Option.getD_some] at e11
          have e12 := hbaseF 12 (not_dst (by kernel_rfl))
          simp only [List.getElem?_toArray, List.getElem?_cons_zero, List.getElem?_cons_succ, Option.getD_some] at e12
          have e13 := hbaseF 13 (not_dst (by kernel_rfl))
          simp only [List.getElem?_toArray, List.getElem?_cons_zero, List.getElem?_cons_succ, Option.getD_some] at e13
          have e14 := hbaseF 14 (not_dst (by kernel_rfl))
          simp only [List.getElem?_toArray, List.getElem?_cons_zero, List.getElem?_cons_succ, Option.getD_some] at e14
          have e15 := hbaseF 15 (not_dst (by kernel_rfl))
          simp only [List.getElem?_toArray, List.getElem?_cons_zero, List.getElem?_cons_succ, Option.getD_some] at e15
          have e16 := hbaseF 16 (not_dst (by kernel_rfl))
          simp only [List.getElem?_toArray, List.getElem?_cons_zero, List.getElem?_cons_succ, Option.getD_some] at e16
          have e17 := hbaseF 17 (not_dst (by kernel_rfl))
          simp only [List.getElem?_toArray, List.getElem?_cons_zero, List.getElem?_cons_succ, Option.getD_some] at e17
          have e18 := hbaseF 18 (not_dst (by kernel_rfl))
          simp only [List.getElem?_toArray, List.getElem?_cons_zero, List.getElem?_cons_succ, Option.getD_some] at e18
          have e19 := hbaseF 19 (not_dst (by kernel_rfl))
          simp only [List.getElem?_toArray, List.getElem?_cons_zero, List.getElem?_cons_succ, Option.getD_some] at e19
          have e20 := hbaseF 20 (not_dst (by kernel_rfl))
          simp only [List.getElem?_toArray, List.getElem?_cons_zero, List.getElem?_cons_succ, Option.getD_some] at e20
          have e21 := hbaseF 21 (not_dst (by kernel_rfl))
          simp only [List.getElem?_toArray, List.getElem?_cons_zero, List.getElem?_cons_succ, Option.getD_some] at e21
          have e22 := hbaseF 22 (not_dst (by kernel_rfl))
          simp only [List.getElem?_toArray, List.getElem?_cons_zero, List.getElem?_cons_succ, Option.getD_some] at e22
          have e23 := hbaseF 23 (not_dst (by kernel_rfl))
          simp only [List.getElem?_toArray, List.getElem?_cons_zero, List.getElem?_cons_succ, Option.getD_some] at e23
          have e24 := hbaseF 24 (not_dst (by kernel_rfl))
          simp only [List.getElem?_toArray, List.getElem?_cons_zero, List.getElem?_cons_succ, Option.getD_some] at e24
          have e25 := hbaseF 25 (not_dst (by kernel_rfl))
          simp only [List.getElem?_toArray, List.getElem?_cons_zero, List.getElem?_cons_succ, Option.getD_some] at e25
          have e26 := hbaseF 26 (not_dst (by kernel_rfl))
          simp only [List.getElem?_toArray, List.getElem?_cons_zero, List.getElem?_cons_succ, Option.getD_some] at e26
          have e27 := hbaseF 27 (not_dst (by kernel_rfl))
          simp only [List.getElem?_toArray, List.getElem?_cons_zero, List.getElem?_cons_succ, Option.getD_some] at e27
          have e28 := hbaseF 28 (not_dst (by kernel_rfl))
          simp only [List.getElem?_toArray, List.getElem?_cons_zero, List.getElem?_cons_succ, Option.getD_some] at e28
          have e29 := hbaseF 29 (not_dst (by kernel_rfl))
          simp only [List.getElem?_toArray, List.getElem?_cons_zero, List.getElem?_cons_succ, Option.getD_some] at e29
          have e30 := hbaseF 30 (not_dst (by kernel_rfl))
          simp only [List.getElem?_toArray, List.getElem?_cons_zero, List.getElem?_cons_succ, Option.getD_some] at e30
          have e31 := hbaseF 31 (not_dst (by kernel_rfl))
          simp only [List.getElem?_toArray, List.getElem?_cons_zero, List.getElem?_cons_succ, Option.getD_some] at e31
          have e32 := hbaseF 32 (not_dst (by kernel_rfl))
          simp only [List.getElem?_toArray, List.getElem?_cons_zero, List.getElem?_cons_succ, Option.getD_some] at e32
          have e33 := hbaseF 33 (not_dst (by kernel_rfl))
          simp only [List.getElem?_toArray, List.getElem?_cons_zero, List.getElem?_cons_succ, Option.getD_some] at e33
          have e34 := hbaseF 34 (not_dst (by kernel_rfl))
          simp only [List.getElem?_toArray, List.getElem?_cons_zero, List.getElem?_cons_succ, Option.getD_some] at e34
          have e35 := hbaseF 35 (not_dst (by kernel_rfl))
          simp only [List.getElem?_toArray, List.getElem?_cons_zero, List.getElem?_cons_succ, Option.getD_some] at e35
          have e36 := hbaseF 36 (not_dst (by kernel_rfl))
          simp only [List.getElem?_toArray, List.getElem?_cons_zero, List.getElem?_cons_succ, Option.getD_some] at e36
          have e37 := hbaseF 37 (not_dst (by kernel_rfl))
          simp only [List.getElem?_toArray, List.getElem?_cons_zero, List.getElem?_cons_succ, Option.getD_some] at e37
          have e38 := hbaseF 38 (not_dst (by kernel_rfl))
          simp only [List.getElem?_toArray, List.getElem?_cons_zero, List.getElem?_cons_succ, Option.getD_some] at e38
          have e39 := hbaseF 39 (not_dst (by kernel_rfl))
          simp only [List.getElem?_toArray, List.getElem?_cons_zero, List.getElem?_cons_succ, Option.getD_some] at e39
          have e40 := hbaseF 40 (not_dst (by kernel_rfl))
          simp only [List.getElem?_toArray, List.getElem?_cons_zero, List.getElem?_cons_succ, Option.getD_some] at e40
          have e41 := hbaseF 41 (not_dst (by kernel_rfl))
          simp only [List.getElem?_toArray, List.getElem?_cons_zero, List.getElem?_cons_succ, Option.getD_some] at e41
          have e42 := hbaseF 42 (not_dst (by kernel_rfl))
          simp only [List.getElem?_toArray, List.getElem?_cons_zero, List.getElem?_cons_succ, Option.getD_some] at e42
          have e43 := hbaseF 43 (not_dst (by kernel_rfl))
          simp only [List.getElem?_toArray, List.getElem?_cons_zero, List.getElem?_cons_succ, Option.getD_some] at e43
          have e44 := hbaseF 44 (not_dst (by kernel_rfl))
          simp only [List.getElem?_toArray, List.getElem?_cons_zero, List.getElem?_cons_succ, Option.getD_some] at e44
          have e45 := hbaseF 45 (not_dst (by kernel_rfl))
          simp only [List.getElem?_toArray, List.getElem?_cons_zero, List.getElem?_cons_succ, Option.getD_some] at e45
          have e46 := hbaseF 46 (not_dst (by kernel_rfl))
          simp only [List.getElem?_toArray, List.getElem?_cons_zero, List.getElem?_cons_succ, Option.getD_some] at e46
          have e47 := hbaseF 47 (not_dst (by kernel_rfl))
          simp only [List.getElem?_toArray, List.getElem?_cons_zero, List.getElem?_cons_succ, Option.getD_some] at e47
          have e48 := hbaseF 48 (not_dst (by kernel_rfl))
          simp only [List.getElem?_toArray, List.getElem?_cons_zero, List.getElem?_cons_succ, Option.getD_some] at e48
          have e49 := hbaseF 49 (not_dst (by kernel_rfl))
          simp only [List.getElem?_toArray, List.getElem?_cons_zero, List.getElem?_cons_succ, Option.getD_some] at e49
          have e50 := hbaseF 50 (not_dst (by kernel_rfl))
          simp only [List.getElem?_toArray, List.getElem?_cons_zero, List.getElem?_cons_succ, Option.getD_some] at e50
          have e51 := hbaseF 51 (not_dst (by kernel_rfl))
          simp only [List.getElem?_toArray, List.getElem?_cons_zero, List.getElem?_cons_succ, Option.getD_some] at e51
          have e52 := hbaseF 52 (not_dst (by kernel_rfl))
          simp only [List.getElem?_toArray, List.getElem?_cons_zero, List.getElem?_cons_succ, Option.getD_some] at e52
          have e53 := hbaseF 53 (not_dst (by kernel_rfl))
          simp only [List.getElem?_toArray, List.getElem?_cons_zero, List.getElem?_cons_succ, Option.getD_some] at e53
          have e54 := hbaseF 54 (not_dst (by kernel_rfl))
          simp only [List.getElem?_toArray, List.getElem?_cons_zero, List.getElem?_cons_succ, Option.getD_some] at e54
          have e55 := hbaseF 55 (not_dst (by kernel_rfl))
          simp only [List.getElem?_toArray, List.getElem?_cons_zero, List.getElem?_cons_succ, Option.getD_some] at e55
          have e56 := hbaseF 56 (not_dst (by kernel_rfl))
          simp only [List.getElem?_toArray, List.getElem?_cons_zero, List.getElem?_cons_succ, Option.getD_some] at e56
          have e57 := hbaseF 57 (not_dst (by kernel_rfl))
          simp only [List.getElem?_toArray, List.getElem?_cons_zero, List.getElem?_cons_succ, Option.getD_some] at e57
          have e58 := hbaseF 58 (not_dst (by kernel_rfl))
          simp only [List.getElem?_toArray, List.getElem?_cons_zero, List.getElem?_cons_succ, Option.getD_some] at e58
          have e59 := hbaseF 59 (not_dst (by kernel_rfl))
          simp only [List.getElem?_toArray, List.getElem?_cons_zero, List.getElem?_cons_succ, Option.getD_some] at e59
          have e60 := hbaseF 60 (not_dst (by kernel_rfl))
          simp only [List.getElem?_toArray, List.getElem?_cons_zero, List.getElem?_cons_succ, Option.getD_some] at e60
          have e61 := hbaseF 61 (not_dst (by kernel_rfl))
          simp only [List.getElem?_toArray, List.getElem?_cons_zero, List.getElem?_cons_succ, Option.getD_some] at e61
          have e62 := hbaseF 62 (not_dst (by kernel_rfl))
          simp only [List.getElem?_toArray, List.getElem?_cons_zero, List.getElem?_cons_succ, Option.getD_some] at e62
          have e63 := hbaseF 63 (not_dst (by kernel_rfl))
          simp only [List.getElem?_toArray, List.getElem?_cons_zero, List.getElem?_cons_succ, Option.getD_some] at e63
          have e64 := hbaseF 64 (not_dst (by kernel_rfl))
          simp only [List.getElem?_toArray, List.getElem?_cons_zero, List.getElem?_cons_succ, Option.getD_some] at e64
          have e65 := hbaseF 65 (not_dst (by kernel_rfl))
          simp only [List.getElem?_toArray, List.getElem?_cons_zero, List.getElem?_cons_succ, Option.getD_some] at e65
          have e66 := hbaseF 66 (not_dst (by kernel_rfl))
          simp only [List.getElem?_toArray, List.getElem?_cons_zero, List.getElem?_cons_succ, Option.getD_some] at e66
          have e67 := hbaseF 67 (not_dst (by kernel_rfl))
          simp only [List.getElem?_toArray, List.getElem?_cons_zero, List.getElem?_cons_succ, Option.getD_some] at e67
          have e68 := hbaseF 68 (not_dst (by kernel_rfl))
          simp only [List.getElem?_toArray, List.getElem?_cons_zero, List.getElem?_cons_succ, Option.getD_some] at e68
          have e69 := hbaseF 69 (not_dst (by kernel_rfl))
          simp only [List.getElem?_toArray, List.getElem?_cons_zero, List.getElem?_cons_succ, Option.getD_some] at e69
          have e70 := hbaseF 70 (not_dst (by kernel_rfl))
          simp only [List.getElem?_toArray, List.getElem?_cons_zero, List.getElem?_cons_succ, Option.getD_some] at e70
          have e78 := hbaseF 78 (not_dst (by kernel_rfl))
          simp only [List.getElem?_toArray, List.getElem?_cons_zero, List.getElem?_cons_succ, Option.getD_some] at e78
          have e77 := hfactF 6 77 (by decide) rfl
          replace e77 : T[77]?.getD undef = .bool false := e77
          clear hbaseF hfactF
          have hT : T = #[T[0]?.getD undef, T[1]?.getD undef, T[2]?.getD undef, T[3]?.getD undef, T[4]?.getD undef, T[5]?.getD undef, T[6]?.getD undef, T[7]?.getD undef, T[8]?.getD undef, T[9]?.getD undef, T[10]?.getD undef, T[11]?.getD undef, T[12]?.getD undef, T[13]?.getD undef, T[14]?.getD undef, T[15]?.getD undef, T[16]?.getD undef, T[17]?.getD undef, T[18]?.getD undef, T[19]?.getD undef, T[20]?.getD undef, T[21]?.getD undef, T[22]?.getD undef, T[23]?.getD undef, T[24]?.getD undef, T[25]?.getD undef, T[26]?.getD undef, T[27]?.getD undef, T[28]?.getD undef, T[29]?.getD undef, T[30]?.getD undef, T[31]?.getD undef, T[32]?.getD undef, T[33]?.getD undef, T[34]?.getD undef, T[35]?.getD undef, T[36]?.getD undef, T[37]?.getD undef, T[38]?.getD undef, T[39]?.getD undef, T[40]?.getD undef, T[41]?.getD undef, T[42]?.getD undef, T[43]?.getD undef, T[44]?.getD undef, T[45]?.getD undef, T[46]?.getD undef, T[47]?.getD undef, T[48]?.getD undef, T[49]?.getD undef, T[50]?.getD undef, T[51]?.getD undef, T[52]?.getD undef, T[53]?.getD undef, T[54]?.getD undef, T[55]?.getD undef, T[56]?.getD undef, T[57]?.getD undef, T[58]?.getD undef, T[59]?.getD undef, T[60]?.getD undef, T[61]?.getD undef, T[62]?.getD undef, T[63]?.getD undef, T[64]?.getD undef, T[65]?.getD undef, T[66]?.getD undef, T[67]?.getD undef, T[68]?.getD undef, T[69]?.getD undef, T[70]?.getD undef, T[71]?.getD undef, T[72]?.getD undef, T[73]?.getD undef, T[74]?.getD undef, T[75]?.getD undef, T[76]?.getD undef, T[77]?.getD undef, T[78]?.getD undef] := arr_eq T 79 hsF
          clear hsF
          rw [e0] at hT; clear e0
          rw [e1] at hT; clear e1
          rw [e2] at hT; clear e2
          rw [e3] at hT; clear e3
          rw [e4] at hT; clear e4
          rw [e5] at hT; clear e5
          rw [e6] at hT; clear e6
          rw [e7] at hT; clear e7
          rw [e8] at hT; clear e8
          rw [e9] at hT; clear e9
          rw [e10] at hT; clear e10
          rw [e11] at hT; clear e11
          rw [e12] at hT; clear e12
          rw [e13] at hT; clear e13
          rw [e14] at hT; clear e14
          rw [e15] at hT; clear e15
          rw [e16] at hT; clear e16
          rw [e17] at hT; clear e17
          rw [e18] at hT; clear e18
          rw [e19] at hT; clear e19
          rw [e20] at hT; clear e20
          rw [e21] at hT; clear e21
          rw [e22] at hT; clear e22
          rw [e23] at hT; clear e23
          rw [e24] at hT; clear e24
          rw [e25] at hT; clear e25
          rw [e26] at hT; clear e26
          rw [e27] at hT; clear e27
          rw [e28] at hT; clear e28
          rw [e29] at hT; clear e29
          rw [e30] at hT; clear e30
          rw [e31] at hT; clear e31
          rw [e32] at hT; clear e32
          rw [e33] at hT; clear e33
          rw [e34] at hT; clear e34
          rw [e35] at hT; clear e35
          rw [e36] at hT; clear e36
          rw [e37] at hT; clear e37
          rw [e38] at hT; clear e38
          rw [e39] at hT; clear e39
          rw [e40] at hT; clear e40
          rw [e41] at hT; clear e41
          rw [e42] at hT; clear e42
          rw [e43] at hT; clear e43
          rw [e44] at hT; clear e44
          rw [e45] at hT; clear e45
          rw [e46] at hT; clear e46
          rw [e47] at hT; clear e47
          rw [e48] at hT; clear e48
          rw [e49] at hT; clear e49
          rw [e50] at hT; clear e50
          rw [e51] at hT; clear e51
          rw [e52] at hT; clear e52
          rw [e53] at hT; clear e53
          rw [e54] at hT; clear e54
          rw [e55] at hT; clear e55
          rw [e56] at hT; clear e56
          rw [e57] at hT; clear e57
          rw [e58] at hT; clear e58
          rw [e59] at hT; clear e59
          rw [e60] at hT; clear e60
          rw [e61] at hT; clear e61
          rw [e62] at hT; clear e62
          rw [e63] at hT; clear e63
          rw [e64] at hT; clear e64
          rw [e65] at hT; clear e65
          rw [e66] at hT; clear e66
          rw [e67] at hT; clear e67
          rw [e68] at hT; clear e68
          rw [e69] at hT; clear e69
          rw [e70] at hT; clear e70
          generalize T[71]?.getD undef = u71 at hT
          generalize T[72]?.getD undef = u72 at hT
          generalize T[73]?.getD undef = u73 at hT
          generalize T[74]?.getD undef = u74 at hT
          generalize T[75]?.getD undef = u75 at hT
          generalize T[76]?.getD undef = u76 at hT
          rw [e77] at hT; clear e77
          rw [e78] at hT; clear e78
          subst hT
          have hOF := hO.below hbF
          go_wp2_with fail
          go_ret2
          exact RObjs.yes rfl hOF (by (have q_hbF := Below.size hbF; (try simp at q_hbF); have q_hbel := Below.size hbel; (try simp at q_hbel); repeat (first | exact Below.refl _ _ | (refine Below.trans ?_ (Below.mono hbF (by first | omega | (simp; omega) | simp))) | (refine Below.trans ?_ (Below.mono hbel (by first | omega | (simp; omega) | simp))) | (refine Below.setCell ?_ (by first | omega | (simp; omega) | simp) _) | (refine Below.alloc ?_ (by first | omega | (simp; omega) | simp) _) | apply Below.drew | apply below_drewN)))
      · have hMt : M = false := by rw [hMd]; exact decide_eq_false hpp
        subst hMt
        have HD := Lib.hid (show ((str PG).toList == (str p).toList) = false by rw [str_toL, str_toL]; simp [hpp])
        clear hMd hpp
        go_wp2_with fail
        refine (hN _).mono ?_
        rintro e w1 ⟨rfl, rfl⟩
        go_wp2_with fail
        refine wp_flows [(fun y_ _ => y_ = .slice A9 k c9), (fun y_ _ => y_ = .int .i64 c), (IsB (256) (PG)), (fun y_ _ => y_ = .string (str (PG))), (fun y_ _ => y_ = .slice (some ⟨b, off, none⟩) 256 cp), (fun y_ _ => y_ = .string (str p)), (fun y_ _ => y_ = .bool true)] (by kernel_rfl) ⟨Stab.eq _, Stab.eq _, Stab.b _ _, Stab.eq _, Stab.eq _, Stab.eq _, Stab.eq _, trivial⟩ (by kernel_rfl) (by rfl) ?_ ?_
        · intro kq hkq
          match kq, hkq with
          | 0, _ =>
            refine StepOk.plain _ 71 rfl rfl rfl [(7, none)] (by kernel_rfl) (fun af wf hbw hf Kf hKf => ?_)
            obtain ⟨g7, _⟩ := hf
            have h7 : af.tmps[7]?.getD undef = .slice A9 k c9 := g7
            clear g7
            go_simp
            exact hKf _ _ (Below.refl _ _) rfl
          | 1, _ =>
            refine StepOk.plain _ 72 rfl rfl rfl [(1, none)] (by kernel_rfl) (fun af wf hbw hf Kf hKf => ?_)
            obtain ⟨g1, _⟩ := hf
            have h1 : af.tmps[1]?.getD undef = .int .i64 c := g1
            clear g1
            go_simp
            exact hKf _ _ (Below.refl _ _) rfl
          | 2, _ =>
            refine StepOk.plain _ 73 rfl rfl rfl [(71, some 0), (72, some 1)] (by kernel_rfl) (fun af wf hbw hf Kf hKf => ?_)
            obtain ⟨g71, g72, _⟩ := hf
            have h71 : af.tmps[71]?.getD undef = .slice A9 k c9 := g71
            have h72 : af.tmps[72]?.getD undef = .int .i64 c := g72
            clear g71 g72
            go_simp
            refine (rpage_any hc A9 k c9 w.heap.size 5 (objsL z p k) _ (hR9.drew.below hbw) hN1 hOK.out).mono ?_
            rintro e wN ⟨r, rfl, hF, hb⟩
            exact hKf _ _ (hb) (IsB.of (HPG.out ▸ hF) hPl)
          | 3, _ =>
            refine StepOk.plain _ 74 rfl rfl rfl [(73, some 2)] (by kernel_rfl) (fun af wf hbw hf Kf hKf => ?_)
            obtain ⟨g73, _⟩ := hf
            obtain ⟨A73, c73, h73, hR73, hn73, hm73⟩ : IsB (256) (PG) (af.tmps[73]?.getD undef) wf := g73
            have hcv := conv c73 _ hR73
            go_simp
            exact hKf _ _ (Below.refl _ _) rfl
          | 4, _ =>
            refine StepOk.plain _ 75 rfl rfl rfl [(0, none)] (by kernel_rfl) (fun af wf hbw hf Kf hKf => ?_)
            obtain ⟨g0, _⟩ := hf
            have h0 : af.tmps[0]?.getD undef = .slice (some ⟨b, off, none⟩) 256 cp := g0
            clear g0
            go_simp
            exact hKf _ _ (Below.refl _ _) rfl
          | 5, _ =>
            refine StepOk.plain _ 76 rfl rfl rfl [(75, some 4)] (by kernel_rfl) (fun af wf hbw hf Kf hKf => ?_)
            obtain ⟨g75, _⟩ := hf
            have h75 : af.tmps[75]?.getD undef = .slice (some ⟨b, off, none⟩) 256 cp := g75
            clear g75
            have hcv := conv cp _ (Rd.below (Rd.drew (hrr)) hbw)
            have hcv := conv cp _ (Rd.below (Rd.drew hrr) hbw)
            go_simp
            exact hKf _ _ (Below.refl _ _) rfl
          | 6, _ =>
            refine StepOk.plain _ 77 rfl rfl rfl [(74, some 3), (76, some 5)] (by kernel_rfl) (fun af wf hbw hf Kf hKf => ?_)
            obtain ⟨g74, g76, _⟩ := hf
            have h74 : af.tmps[74]?.getD undef = .string (str (PG)) := g74
            have h76 : af.tmps[76]?.getD undef = .string (str p) := g76
            clear g74 g76
            have hd := HD.out
            go_simp
            exact hKf _ _ (Below.refl _ _) rfl
          | i + 7, h => exact absurd h (by show ¬ (i + 7 < 7); omega)
        · intro af wF hbF hdF hsF hbaseF hfactF
          obtain ⟨T, dsF⟩ := af
          obtain rfl : dsF = _ := hdF
          have e0 := hbaseF 0 (not_dst (by kernel_rfl))
          simp only [List.getElem?_toArray, List.getElem?_cons_zero, Option.getD_some] at e0
          have e1 := hbaseF 1 (not_dst (by kernel_rfl))
          simp only [List.getElem?_toArray, List.getElem?_cons_zero, List.getElem?_cons_succ, Option.getD_some] at e1
          have e2 := hbaseF 2 (not_dst (by kernel_rfl))
          simp only [List.getElem?_toArray, List.getElem?_cons_zero, List.getElem?_cons_succ, Option.getD_some] at e2
          have e3 := hbaseF 3 (not_dst (by kernel_rfl))
          simp only [List.getElem?_toArray, List.getElem?_cons_zero, List.getElem?_cons_succ, Option.getD_some] at e3
          have e4 := hbaseF 4 (not_dst (by kernel_rfl))
          simp only [List.getElem?_toArray, List.getElem?_cons_zero, List.getElem?_cons_succ, Option.getD_some] at e4
          have e5 := hbaseF 5 (not_dst (by kernel_rfl))
          simp only [List.getElem?_toArray, List.getElem?_cons_zero, List.getElem?_cons_succ, Option.getD_some] at e5
          have e6 := hbaseF 6 (not_dst (by kernel_rfl))
          simp only [List.getElem?_toArray, List.getElem?_cons_zero, List.getElem?_cons_succ, Option.getD_some] at e6
          have e7 := hbaseF 7 (not_dst (by kernel_rfl))
          simp only [List.getElem?_toArray, List.getElem?_cons_zero, List.getElem?_cons_succ, Option.getD_some] at e7
          have e8 := hbaseF 8 (not_dst (by kernel_rfl))
          simp only [List.getElem?_toArray, List.getElem?_cons_zero, List.getElem?_cons_succ, Option.getD_some] at e8
          have e9 := hbaseF 9 (not_dst (by kernel_rfl))
          simp only [List.getElem?_toArray, List.getElem?_cons_zero, List.getElem?_cons_succ, Option.getD_some] at e9
          have e10 := hbaseF 10 (not_dst (by kernel_rfl))
          simp only [List.getElem?_toArray, List.getElem?_cons_zero, List.getElem?_cons_succ, Option.getD_some] at e10
          have e11 := hbaseF 11 (not_dst (by kernel_rfl))
          simp only [List.getElem?_toArray, List.getElem?_cons_zero, List.getElem?_cons_succ, Option.getD_some] at e11
          have e12 := hbaseF 12 (not_dst (by kernel_rfl))
          simp only [List.getElem?_toArray, List.getElem?_cons_zero, List.getElem?_cons_succ, Option.getD_some] at e12
          have e13 := hbaseF 13 (not_dst (by kernel_rfl))
          simp only [List.getElem?_toArray, List.getElem?_cons_zero, List.getElem?_cons_succ, Option.getD_some] at e13
          have e14 := hbaseF 14 (not_dst (by kernel_rfl))
          simp only [List.getElem?_toArray, List.getElem?_cons_zero, List.getElem?_cons_succ, Option.getD_some] at e14
          have e15 := hbaseF 15 (not_dst (by kernel_rfl))
          simp only [List.getElem?_toArray, List.getElem?_cons_zero, List.getElem?_cons_succ, Option.getD_some] at e15
          have e16 := hbaseF 16 (not_dst (by kernel_rfl))
          simp only [List.getElem?_toArray, List.getElem?_cons_zero, List.getElem?_cons_succ, Option.getD_some] at e16
          have e17 := hbaseF 17 (not_dst (by kernel_rfl))
          simp only [List.getElem?_toArray, List.getElem?_cons_zero, List.getElem?_cons_succ, Option.getD_some] at e17
          have e18 := hbaseF 18 (not_dst (by kernel_rfl))
          simp only [List.getElem?_toArray, List.getElem?_cons_zero, List.getElem?_cons_succ, Option.getD_some] at e18
          have e19 := hbaseF 19 (not_dst (by kernel_rfl))
          simp only [List.getElem?_toArray, List.getElem?_cons_zero, List.getElem?_cons_succ, Option.getD_some] at e19
          have e20 := hbaseF 20 (not_dst (by kernel_rfl))
          simp only [List.getElem?_toArray, List.getElem?_cons_zero, List.getElem?_cons_succ, Option.getD_some] at e20
          have e21 := hbaseF 21 (not_dst (by kernel_rfl))
          simp only [List.getElem?_toArray, List.getElem?_cons_zero, List.getElem?_cons_succ, Option.getD_some] at e21
          have e22 := hbaseF 22 (not_dst (by kernel_rfl))
          simp only [List.getElem?_toArray, List.getElem?_cons_zero, List.getElem?_cons_succ, Option.getD_some] at e22
          have e23 := hbaseF 23 (not_dst (by kernel_rfl))
          simp only [List.getElem?_toArray, List.getElem?_cons_zero, List.getElem?_cons_succ, Option.getD_some] at e23
          have e24 := hbaseF 24 (not_dst (by kernel_rfl))
          simp only [List.getElem?_toArray, List.getElem?_cons_zero, List.getElem?_cons_succ, Option.getD_some] at e24
          have e25 := hbaseF 25 (not_dst (by kernel_rfl))
          simp only [List.getElem?_toArray, List.getElem?_cons_zero, List.getElem?_cons_succ, Option.getD_some] at e25
          have e26 := hbaseF 26 (not_dst (by kernel_rfl))
          simp only [List.getElem?_toArray, List.getElem?_cons_zero, List.getElem?_cons_succ, Option.getD_some] at e26
          have e27 := hbaseF 27 (not_dst (by kernel_rfl))
          simp only [List.getElem?_toArray, List.getElem?_cons_zero, List.getElem?_cons_succ, Option.getD_some] at e27
          have e28 := hbaseF 28 (not_dst (by kernel_rfl))
          simp only [List.getElem?_toArray, List.getElem?_cons_zero, List.getElem?_cons_succ, Option.getD_some] at e28
          have e29 := hbaseF 29 (not_dst (by kernel_rfl))
          simp only [List.getElem?_toArray, List.getElem?_cons_zero, List.getElem?_cons_succ, Option.getD_some] at e29
          have e30 := hbaseF 30 (not_dst (by kernel_rfl))
          simp only [List.getElem?_toArray, List.getElem?_cons_zero, List.getElem?_cons_succ, Option.getD_some] at e30
          have e31 := hbaseF 31 (not_dst (by kernel_rfl))
          simp only [List.getElem?_toArray, List.getElem?_cons_zero, List.getElem?_cons_succ, Option.getD_some] at e31
          have e32 := hbaseF 32 (not_dst (by kernel_rfl))
          simp only [List.getElem?_toArray, List.getElem?_cons_zero, List.getElem?_cons_succ, Option.getD_some] at e32
          have e33 := hbaseF 33 (not_dst (by kernel_rfl))
          simp only [List.getElem?_toArray, List.getElem?_cons_zero, List.getElem?_cons_succ, Option.getD_some] at e33
          have e34 := hbaseF 34 (not_dst (by kernel_rfl))
          simp only [List.getElem?_toArray, List.getElem?_cons_zero, List.getElem?_cons_succ, Option.getD_some] at e34
          have e35 := hbaseF 35 (not_dst (by kernel_rfl))
          simp only [List.getElem?_toArray, List.getElem?_cons_zero, List.getElem?_cons_succ, Option.getD_some] at e35
          have e36 := hbaseF 36 (not_dst (by kernel_rfl))
          simp only [List.getElem?_toArray, List.getElem?_cons_zero, List.getElem?_cons_succ, Option.getD_some] at e36
          have e37 := hbaseF 37 (not_dst (by kernel_rfl))
          simp only [List.getElem?_toArray, List.getElem?_cons_zero, List.getElem?_cons_succ, Option.getD_some] at e37
          have e38 := hbaseF 38 (not_dst (by kernel_rfl))
          simp only [List.getElem?_toArray, List.getElem?_cons_zero, List.getElem?_cons_succ, Option.getD_some] at e38
          have e39 := hbaseF 39 (not_dst (by kernel_rfl))
          simp only [List.getElem?_toArray, List.getElem?_cons_zero, List.getElem?_cons_succ, Option.getD_some] at e39
          have e40 := hbaseF 40 (not_dst (by kernel_rfl))
          simp only [List.getElem?_toArray, List.getElem?_cons_zero, List.getElem?_cons_succ, Option.getD_some] at e40
          have e41 := hbaseF 41 (not_dst (by kernel_rfl))
          simp only [List.getElem?_toArray, List.getElem?_cons_zero, List.getElem?_cons_succ, Option.getD_some] at e41
          have e42 := hbaseF 42 (not_dst (by kernel_rfl))
          simp only [List.getElem?_toArray, List.getElem?_cons_zero, List.getElem?_cons_succ, Option.getD_some] at e42
          have e43 := hbaseF 43 (not_dst (by kernel_rfl))
          simp only [List.getElem?_toArray, List.getElem?_cons_zero, List.getElem?_cons_succ, Option.getD_some] at e43
          have e44 := hbaseF 44 (not_dst (by kernel_rfl))
          simp only [List.getElem?_toArray, List.getElem?_cons_zero, List.getElem?_cons_succ, Option.getD_some] at e44
          have e45 := hbaseF 45 (not_dst (by kernel_rfl))
          simp only [List.getElem?_toArray, List.getElem?_cons_zero, List.getElem?_cons_succ, Option.getD_some] at e45
          have e46 := hbaseF 46 (not_dst (by kernel_rfl))
          simp only [List.getElem?_toArray, List.getElem?_cons_zero, List.getElem?_cons_succ, Option.getD_some] at e46
          have e47 := hbaseF 47 (not_dst (by kernel_rfl))
          simp only [List.getElem?_toArray, List.getElem?_cons_zero, List.getElem?_cons_succ, Option.getD_some] at e47
          have e48 := hbaseF 48 (not_dst (by kernel_rfl))
          simp only [List.getElem?_toArray, List.getElem?_cons_zero, List.getElem?_cons_succ, Option.getD_some] at e48
          have e49 := hbaseF 49 (not_dst (by kernel_rfl))
          simp only [List.getElem?_toArray, List.getElem?_cons_zero, List.getElem?_cons_succ, Option.getD_some] at e49
          have e50 := hbaseF 50 (not_dst (by kernel_rfl))
          simp only [List.getElem?_toArray, List.getElem?_cons_zero, List.getElem?_cons_succ, Option.getD_some] at e50
          have e51 := hbaseF 51 (not_dst (by kernel_rfl))
          simp only [List.getElem?_toArray, List.getElem?_cons_zero, List.getElem?_cons_succ, Option.getD_some] at e51
          have e52 := hbaseF 52 (not_dst (by kernel_rfl))
          simp only [List.getElem?_toArray, List.getElem?_cons_zero, List.getElem?_cons_succ, Option.getD_some] at e52
          have e53 := hbaseF 53 (not_dst (by kernel_rfl))
          simp only [List.getElem?_toArray, List.getElem?_cons_zero, List.getElem?_cons_succ, Option.getD_some] at e53
          have e54 := hbaseF 54 (not_dst (by kernel_rfl))
          simp only [List.getElem?_toArray, List.getElem?_cons_zero, List.getElem?_cons_succ, Option.getD_some] at e54
          have e55 := hbaseF 55 (not_dst (by kernel_rfl))
          simp only [List.getElem?_toArray, List.getElem?_cons_zero, List.getElem?_cons_succ, Option.getD_some] at e55
          have e56 := hbaseF 56 (not_dst (by kernel_rfl))
          simp only [List.getElem?_toArray, List.getElem?_cons_zero, List.getElem?_cons_succ, Option.getD_some] at e56
          have e57 := hbaseF 57 (not_dst (by kernel_rfl))
          simp only [List.getElem?_toArray, List.getElem?_cons_zero, List.getElem?_cons_succ, Option.getD_some] at e57
          have e58 := hbaseF 58 (not_dst (by kernel_rfl))
          simp only [List.getElem?_toArray, List.getElem?_cons_zero, List.getElem?_cons_succ, Option.getD_some] at e58
          have e59 := hbaseF 59 (not_dst (by kernel_rfl))
          simp only [List.getElem?_toArray, List.getElem?_cons_zero, List.getElem?_cons_succ, Option.getD_some] at e59
          have e60 := hbaseF 60 (not_dst (by kernel_rfl))
          simp only [List.getElem?_toArray, List.getElem?_cons_zero, List.getElem?_cons_succ, Option.getD_some] at e60
          have e61 := hbaseF 61 (not_dst (by kernel_rfl))
          simp only [List.getElem?_toArray, List.getElem?_cons_zero, List.getElem?_cons_succ, Option.getD_some] at e61
          have e62 := hbaseF 62 (not_dst (by kernel_rfl))
          simp only [List.getElem?_toArray, List.getElem?_cons_zero, List.getElem?_cons_succ, Option.getD_some] at e62
          have e63 := hbaseF 63 (not_dst (by kernel_rfl))
          simp only [List.getElem?_toArray, List.getElem?_cons_zero, List.getElem?_cons_succ, Option.getD_some] at e63
          have e64 := hbaseF 64 (not_dst (by kernel_rfl))
          simp only [List.getElem?_toArray, List.getElem?_cons_zero, List.getElem?_cons_succ, Option.getD_some] at e64
          have e65 := hbaseF 65 (not_dst (by kernel_rfl))
          simp only [List.getElem?_toArray, List.getElem?_cons_zero, List.getElem?_cons_succ, Option.getD_some] at e65
          have e66 := hbaseF 66 (not_dst (by kernel_rfl))
          simp only [List.getElem?_toArray, List.getElem?_cons_zero, List.getElem?_cons_succ, Option.getD_some] at e66
          have e67 := hbaseF 67 (not_dst (by kernel_rfl))
          simp only [List.getElem?_toArray, List.getElem?_cons_zero, List.getElem?_cons_succ, Option.getD_some] at e67
          have e68 := hbaseF 68 (not_dst (by kernel_rfl))
          simp only [List.getElem?_toArray, List.getElem?_cons_zero, List.getElem?_cons_succ, Option.getD_some] at e68
          have e69 := hbaseF 69 (not_dst (by kernel_rfl))
          simp only [List.getElem?_toArray, List.getElem?_cons_zero, List.getElem?_cons_succ, Option.getD_some] at e69
          have e70 := hbaseF 70 (not_dst (by kernel_rfl))
          simp only [List.getElem?_toArray, List.getElem?_cons_zero, List.getElem?_cons_succ, Option.getD_some] at e70
          have e78 := hbaseF 78 (not_dst (by kernel_rfl))
          simp only [List.getElem?_toArray, List.getElem?_cons_zero, List.getElem?_cons_succ, Option.getD_some] at e78
          have e77 := hfactF 6 77 (by decide) rfl
          replace e77 : T[77]?.getD undef = .bool true := e77
          clear hbaseF hfactF
          have hT : T = #[T[0]?.getD undef, T[1]?.getD undef, T[2]?.getD undef, T[3]?.getD undef, T[4]?.getD undef, T[5]?.getD undef, T[6]?.getD undef, T[7]?.getD undef, T[8]?.getD undef, T[9]?.getD undef, T[10]?.getD undef, T[11]?.getD undef, T[12]?.getD undef, T[13]?.getD undef, T[14]?.getD undef, T[15]?.getD undef, T[16]?.getD undef, T[17]?.getD undef, T[18]?.getD undef, T[19]?.getD undef, T[20]?.getD undef, T[21]?.getD undef, T[22]?.getD undef, T[23]?.getD undef, T[24]?.getD undef, T[25]?.getD undef, T[26]?.getD undef, T[27]?.getD undef, T[28]?.getD undef, T[29]?.getD undef, T[30]?.getD undef, T[31]?.getD undef, T[32]?.getD undef, T[33]?.getD undef, T[34]?.getD undef, T[35]?.getD undef, T[36]?.getD undef, T[37]?.getD undef, T[38]?.getD undef, T[39]?.getD undef, T[40]?.getD undef, T[41]?.getD undef, T[42]?.getD undef, T[43]?.getD undef, T[44]?.getD undef, T[45]?.getD undef, T[46]?.getD undef, T[47]?.getD undef, T[48]?.getD undef, T[49]?.getD undef, T[50]?.getD undef, T[51]?.getD undef, T[52]?.getD undef, T[53]?.getD undef, T[54]?.getD undef, T[55]?.getD undef, T[56]?.getD undef, T[57]?.getD undef, T[58]?.getD undef, T[59]?.getD undef, T[60]?.getD undef, T[61]?.getD undef, T[62]?.getD undef, T[63]?.getD undef, T[64]?.getD undef, T[65]?.getD undef, T[66]?.getD undef, T[67]?.getD undef, T[68]?.getD undef, T[69]?.getD undef, T[70]?.getD undef, T[71]?.getD undef, T[72]?.getD undef, T[73]?.getD undef, T[74]?.getD undef, T[75]?.getD undef, T[76]?.getD undef, T[77]?.getD undef, T[78]?.getD undef] := arr_eq T 79 hsF
          clear hsF
          rw [e0] at hT; clear e0
          rw [e1] at hT; clear e1
          rw [e2] at hT; clear e2
          rw [e3] at hT; clear e3
          rw [e4] at hT; clear e4
          rw [e5] at hT; clear e5
          rw [e6] at hT; clear e6
          rw [e7] at hT; clear e7
          rw [e8] at hT; clear e8
          rw [e9] at hT; clear e9
          rw [e10] at hT; clear e10
          rw [e11] at hT; clear e11
          rw [e12] at hT; clear e12
          rw [e13] at hT; clear e13
          rw [e14] at hT; clear e14
          rw [e15] at hT; clear e15
          rw [e16] at hT; clear e16
          rw [e17] at hT; clear e17
          rw [e18] at hT; clear e18
          rw [e19] at hT; clear e19
          rw [e20] at hT; clear e20
          rw [e21] at hT; clear e21
          rw [e22] at hT; clear e22
          rw [e23] at hT; clear e23
          rw [e24] at hT; clear e24
          rw [e25] at hT; clear e25
          rw [e26] at hT; clear e26
          rw [e27] at hT; clear e27
          rw [e28] at hT; clear e28
          rw [e29] at hT; clear e29
          rw [e30] at hT; clear e30
          rw [e31] at hT; clear e31
          rw [e32] at hT; clear e32
          rw [e33] at hT; clear e33
          rw [e34] at hT; clear e34
          rw [e35] at hT; clear e35
          rw [e36] at hT; clear e36
          rw [e37] at hT; clear e37
          rw [e38] at hT; clear e38
          rw [e39] at hT; clear e39
          rw [e40] at hT; clear e40
          rw [e41] at hT; clear e41
          rw [e42] at hT; clear e42
          rw [e43] at hT; clear e43
          rw [e44] at hT; clear e44
          rw [e45] at hT; clear e45
          rw [e46] at hT; clear e46
          rw [e47] at hT; clear e47
          rw [e48] at hT; clear e48
          rw [e49] at hT; clear e49
          rw [e50] at hT; clear e50
          rw [e51] at hT; clear e51
          rw [e52] at hT; clear e52
          rw [e53] at hT; clear e53
          rw [e54] at hT; clear e54
          rw [e55] at hT; clear e55
          rw [e56] at hT; clear e56
          rw [e57] at hT; clear e57
          rw [e58] at hT; clear e58
          rw [e59] at hT; clear e59
          rw [e60] at hT; clear e60
          rw [e61] at hT; clear e61
          rw [e62] at hT; clear e62
          rw [e63] at hT; clear e63
          rw [e64] at hT; clear e64
          rw [e65] at hT; clear e65
          rw [e66] at hT; clear e66
          rw [e67] at hT; clear e67
          rw [e68] at hT; clear e68
          rw [e69] at hT; clear e69
          rw [e70] at hT; clear e70
          generalize T[71]?.getD undef = u71 at hT
          generalize T[72]?.getD undef = u72 at hT
          generalize T[73]?.getD undef = u73 at hT
          generalize T[74]?.getD undef = u74 at hT
          generalize T[75]?.getD undef = u75 at hT
          generalize T[76]?.getD undef = u76 at hT
          rw [e77] at hT; clear e77
          rw [e78] at hT; clear e78
          subst hT
          go_wp2_with fail
          go_ret2
          exact RObjs.no rfl (by (have q_hbF := Below.size hbF; (try simp at q_hbF); have q_hbel := Below.size hbel; (try simp at q_hbel); repeat (first | exact Below.refl _ _ | (refine Below.trans ?_ (Below.mono hbF (by first | omega | (simp; omega) | simp))) | (refine Below.trans ?_ (Below.mono hbel (by first | omega | (simp; omega) | simp))) | (refine Below.setCell ?_ (by first | omega | (simp; omega) | simp) _) | (refine Below.alloc ?_ (by first | omega | (simp; omega) | simp) _) | apply Below.drew | apply below_drewN)))
end Go.Proofs.Ytnocjjaebemkoaa
