/- Logs: which may be, by the document; unlike ones have unlike blocks. -/
import Derived.Test.YthepgnankelmeaaLog7
import Derived.Test.YthepgnankelmeaaSuper10
namespace Go.Proofs.Ythepgnankelmeaa
open Go.RowKit

section
variable {P : Program} {ops : Array Oper}
theorem yielded_undef {a : Act} {j d : Nat} (hd : dstOf ops j = some d) (h : a.tmps[d]?.getD undef = undef) : yielded ops a.tmps j = none := by
  unfold dstOf at hd
  unfold yielded
  rw [hd]
  show (match a.tmps[d]? with | some (.bool b) => some b | _ => none) = none
  cases h2 : a.tmps[d]? with
  | none => rfl
  | some v => rw [h2] at h; simp at h; subst h; rfl
/-- The rule for a guarded operation whose guard did not run. -/
theorem StepOk.nou {F : Nat → Value → World → Prop} {a0 : Act} {w0 : World} {k j t : Nat} {b : Bool} (o : Oper) (d : Tmp) (ho : ops[k]? = some o) (hd : o.dst = some d) (hg : o.guard = some (j, b)) (hj : dstOf ops j = some t) (hju : ∀ v w, F j v w → v = undef)
    (hs : [(t, some j)].all (srcOk ops k) = true) (hF : ∀ w, F k undef w) : StepOk P ops F a0 w0 k :=
  ⟨o, d, ho, hd, [(t, some j)], hs, fun a w hb hf K hK => by
    rw [if_neg (by simp [Region.wanted, hg, yielded_undef hj (hju _ _ hf.1)])]; exact hK _ _ (Below.refl _ _) (hF w)⟩
end
theorem foldE_last {S : Int} {es : List Ent} {k : Nat} {e : Ent} {x : Int} (h : foldE S (es.take (k + 1)) = some x) (he : es[k]? = some e) : x = e.1 := by
  rw [take_step he, foldE_snoc] at h
  unfold stE at h
  split at h
  · split at h
    · injection h with h; exact h.symm
    · cases h
  · cases h

set_option maxRecDepth 100000 in
set_option maxHeartbeats 16000000 in
theorem rlmay_any (p t cnt : Int) (A : Option Addr) (n c B : Nat) (T : TypeId) (es : List Ent) (w : World) (hr : RdR entK B T w A n es) (hn : n ≤ 1000000) :
    Calls Try.prog 39 #[.agg #[.int .i64 p, .int .i64 t], .agg #[.int .u64 cnt, .slice A n c]] w fun e w' => e = .returned (.bool (mayLog p t es)) ∧ Below w.heap.size w w' := by
  have hlen := hr.len
  have P0 : Blk ((w.alloc (.cells #[.int .i64 p, .int .i64 t] 23)).alloc (.cells #[.int .u64 cnt, .slice A n c] 49)) w.heap.size 23 #[.int .i64 p, .int .i64 t] := (Blk.new _ _ _).alloc _
  have Q0 : Blk ((w.alloc (.cells #[.int .i64 p, .int .i64 t] 23)).alloc (.cells #[.int .u64 cnt, .slice A n c] 49)) (w.heap.size + 1) 49 #[.int .u64 cnt, .slice A n c] := by
    simpa using Blk.new (w.alloc (.cells #[.int .i64 p, .int .i64 t] 23)) 49 #[.int .u64 cnt, .slice A n c]
  cases hm : gmay p t
  · have hres := Lib.hid (show mayLog p t es = false by unfold mayLog; rw [hm]; rfl)
    go_enter Try.func39, Try.ntmps39
    go_wp2_with fail
    refine (grmay_any p t _).mono ?_
    rintro e w1 ⟨rfl, hb1⟩
    rw [hm]
    go_wp2_with fail
    go_ret
    exact ⟨by rw [hres.out]; rfl, (by (have q_hb1 := Below.size hb1; (try simp at q_hb1); repeat (first | exact Below.refl _ _ | (refine Below.trans ?_ (Below.mono hb1 (by first | omega | (simp; omega) | simp))) | (refine Below.setCell ?_ (by first | omega | (simp; omega) | simp) _) | (refine Below.alloc ?_ (by first | omega | (simp; omega) | simp) _) | apply Below.drew | apply below_drewN)))⟩
  · by_cases hlen1 : 1 ≤ es.length ∧ (es.length : Int) ≤ t
    · have hres := Lib.hid (show mayLog p t es = (foldE (sealedI p) es).isSome by unfold mayLog; rw [hm, decide_eq_true hlen1]; rfl)
      obtain ⟨l1, l2⟩ := hlen1
      have l0 : n ≠ 0 := by omega
      have l0' : ((n : Int) == 0) = false := by simp; omega
      have l2' : (n : Int) ≤ t := by omega
      obtain ⟨g2, g3, _, _⟩ := gmay_true hm
      obtain ⟨S, hS⟩ : ∃ S, S = sealedI p := ⟨_, rfl⟩
      rw [← hS] at hres
      have HS := Lib.hid hS
      clear hS
      go_enter Try.func39, Try.ntmps39
      go_wp2_with fail
      refine (grmay_any p t _).mono ?_
      rintro e w1 ⟨rfl, hb1⟩
      rw [hm]
      have P1 := P0.on hb1
      have Q1 := Q0.on hb1
      have cQ := Q1.cell
      have cP := P1.cell
      have b1 : Below w.heap.size w w1 := (by (have q_hb1 := Below.size hb1; (try simp at q_hb1); repeat (first | exact Below.refl _ _ | (refine Below.trans ?_ (Below.mono hb1 (by first | omega | (simp; omega) | simp))) | (refine Below.setCell ?_ (by first | omega | (simp; omega) | simp) _) | (refine Below.alloc ?_ (by first | omega | (simp; omega) | simp) _) | apply Below.drew | apply below_drewN)))
      clear P0 Q0 hb1
      go_wp2_with fail
      go_loopw [27] (fun i wr => ∃ k : Nat, k ≤ n ∧ i = .int .i64 k ∧ (∃ x, foldE S (es.take k) = some x) ∧ Blk wr w.heap.size 23 #[.int .i64 p, .int .i64 t] ∧ Blk wr (w.heap.size + 1) 49 #[.int .u64 cnt, .slice A n c] ∧ Below w.heap.size w wr) (fun i _ => n - (intOf i).toNat)
      case atStart => exact ⟨0, by omega, rfl, ⟨-1, rfl⟩, P1, Q1, b1⟩
      case round =>
        clear P1 Q1 cQ cP b1
        obtain ⟨k, hk, rfl, ⟨x, hx⟩, hP, hQ, hbel⟩ := hrel
        have hx1 := foldE_ge hx
        have HX := Lib.hid hx
        clear hx
        by_cases hlt : k < n
        · obtain ⟨b, off, K, Ad, nd, cd, L, rfl, hb, he, c0, c1, hX, hnd, hcd⟩ := (hr.below hbel).ent hlt
          have hLl : L.length = nd := hX.1.len
          have hst := Lib.hid (show foldE S (es.take (k + 1)) = stE S (some x) (K, L) by rw [take_step he, foldE_snoc, HX.out])
          have hfa : stE S (some x) (K, L) = none → mayLog p t es = false := fun h => by
            rw [hres.out, foldE_none (show foldE S (es.take (k + 1)) = none by rw [hst.out, h])]; rfl
          have q1 : (k : Int) < n := by omega
          have hPa := hP.alloc (.cells #[.int .i64 K, .slice Ad nd cd] 99)
          have hQa := hQ.alloc (.cells #[.int .i64 K, .slice Ad nd cd] 99)
          have Bx := Blk.new wr 99 #[.int .i64 K, .slice Ad nd cd]
          have HFA := Lib.hid hfa
          have ba : Below w.heap.size w (wr.alloc (.cells #[.int .i64 K, .slice Ad nd cd] 99)) := (by (have q_hbel := Below.size hbel; (try simp at q_hbel); repeat (first | exact Below.refl _ _ | (refine Below.trans ?_ (Below.mono hbel (by first | omega | (simp; omega) | simp))) | (refine Below.setCell ?_ (by first | omega | (simp; omega) | simp) _) | (refine Below.alloc ?_ (by first | omega | (simp; omega) | simp) _) | apply Below.drew | apply below_drewN)))
          have hb0 : b < (wr.alloc (.cells #[.int .i64 K, .slice Ad nd cd] 99)).heap.size := by simp; omega
          have hno1 := Lib.hid (fun h : ¬ (x < K ∧ K < S ∧ L.length = 256) => HFA.out (by unfold stE; simp only; rw [if_neg h]))
          have hyes := Lib.hid (fun h : x < K ∧ K < S ∧ L.length = 256 => (show foldE S (es.take (k + 1)) = some K by rw [hst.out]; unfold stE; simp only; rw [if_pos h]))
          clear hfa hX
          -- the entry ahead
          obtain ⟨K', cprev, hKx⟩ : ∃ K' : Int, (0 < k → (wr.alloc (.cells #[.int .i64 K, .slice Ad nd cd] 99)).cell? ⟨b, off + (k - 1) * 2, none⟩ = some (.int .i64 K')) ∧ (0 < k → K' = x) := by
            by_cases h0 : 0 < k
            · obtain ⟨b2, off2, K2, Ad2, nd2, cd2, L2, hA2, hb2, he2, d0, _⟩ := (hr.below hbel).ent (show k - 1 < n by omega)
              injection hA2 with hA2
              injection hA2 with e1 e2
              subst e1 e2
              refine ⟨K2, fun _ => ?_, fun _ => ?_⟩
              · rw [(Below.alloc (Below.refl _ wr) (Nat.le_refl _) _).cell (p := ⟨b, off + (k - 1) * 2, none⟩) hb]
                exact d0
              · have := HX.out
                rw [show k = k - 1 + 1 from by omega] at this
                exact (foldE_last this he2).symm
            · exact ⟨0, fun h => absurd h h0, fun h => absurd h h0⟩
          have HKX := Lib.hid hKx
          clear he hKx
          by_cases hK0 : K < 0
          · have hno := Lib.hid (hno1.out (by omega))
            go_wp2_with fail
            refine wp_flows [(fun y_ _ => y_ = .pointer (some ⟨wr.heap.size, 0, none⟩)), (fun y_ _ => y_ = .int .i64 K), (fun y_ _ => y_ = .bool true), (fun y_ _ => y_ = .bool true), (fun y_ _ => y_ = undef), (fun y_ _ => y_ = undef), (fun y_ _ => y_ = undef), (fun y_ _ => y_ = undef), (fun y_ _ => y_ = undef), (fun y_ _ => y_ = .bool true), (fun y_ _ => y_ = .bool true), (fun y_ _ => y_ = undef), (fun y_ _ => y_ = undef), (fun y_ _ => y_ = undef), (fun y_ _ => y_ = undef), (fun y_ _ => y_ = .bool true), (fun y_ _ => y_ = .bool true), (fun y_ _ => y_ = undef), (fun y_ _ => y_ = undef), (fun y_ _ => y_ = undef), (fun y_ _ => y_ = undef), (fun y_ _ => y_ = undef), (fun y_ _ => y_ = undef), (fun y_ _ => y_ = undef), (fun y_ _ => y_ = undef), (fun y_ _ => y_ = undef), (fun y_ _ => y_ = undef), (fun y_ _ => y_ = undef), (fun y_ _ => y_ = undef), (fun y_ _ => y_ = undef), (fun y_ _ => y_ = undef), (fun y_ _ => y_ = .bool true)] (by kernel_rfl) ⟨Stab.eq _, Stab.eq _, Stab.eq _, Stab.eq _, Stab.eq _, Stab.eq _, Stab.eq _, Stab.eq _, Stab.eq _, Stab.eq _, Stab.eq _, Stab.eq _, Stab.eq _, Stab.eq _, Stab.eq _, Stab.eq _, Stab.eq _, Stab.eq _, Stab.eq _, Stab.eq _, Stab.eq _, Stab.eq _, Stab.eq _, Stab.eq _, Stab.eq _, Stab.eq _, Stab.eq _, Stab.eq _, Stab.eq _, Stab.eq _, Stab.eq _, Stab.eq _, trivial⟩ (by kernel_rfl) (by rfl) ?_ ?_
            · intro kq hkq
              match kq, hkq with
              | 0, _ =>
                refine StepOk.plain _ 32 rfl rfl rfl [(6, none)] (by kernel_rfl) (fun af wf hbw hf Kf hKf => ?_)
                obtain ⟨g6, _⟩ := hf
                have h6 : af.tmps[6]?.getD undef = .pointer (some ⟨wr.heap.size, 0, none⟩) := g6
                clear g6
                go_simp
                exact hKf _ _ (Below.refl _ _) rfl
              | 1, _ =>
                refine StepOk.plain _ 33 rfl rfl rfl [(32, some 0)] (by kernel_rfl) (fun af wf hbw hf Kf hKf => ?_)
                obtain ⟨g32, _⟩ := hf
                have h32 : af.tmps[32]?.getD undef = .pointer (some ⟨wr.heap.size, 0, none⟩) := g32
                clear g32
                have cB0 := (Blk.on (Blk.drew (hPa)) hbw).cell
                have cB1 := (Blk.on (Blk.drew (hQa)) hbw).cell
                have cB2 := (Blk.on (Blk.drew (Bx)) hbw).cell
                go_simp
                exact hKf _ _ (Below.refl _ _) rfl
              | 2, _ =>
                refine StepOk.plain _ 34 rfl rfl rfl [(33, some 1)] (by kernel_rfl) (fun af wf hbw hf Kf hKf => ?_)
                obtain ⟨g33, _⟩ := hf
                have h33 : af.tmps[33]?.getD undef = .int .i64 K := g33
                clear g33
                go_simp
                exact hKf _ _ (Below.refl _ _) rfl
              | 3, _ =>
                refine StepOk.plain _ 35 rfl rfl rfl [(34, some 2)] (by kernel_rfl) (fun af wf hbw hf Kf hKf => ?_)
                obtain ⟨g34, _⟩ := hf
                have h34 : af.tmps[34]?.getD undef = .bool true := g34
                clear g34
                go_simp
                exact hKf _ _ (Below.refl _ _) rfl
              | 4, _ => exact StepOk.no _ 36 rfl rfl rfl rfl (fun _ _ h => h) (by decide) (by kernel_rfl) (fun _ => rfl)
              | 5, _ => exact StepOk.no _ 37 rfl rfl rfl rfl (fun _ _ h => h) (by decide) (by kernel_rfl) (fun _ => rfl)
              | 6, _ => exact StepOk.no _ 38 rfl rfl rfl rfl (fun _ _ h => h) (by decide) (by kernel_rfl) (fun _ => rfl)
              | 7, _ => exact StepOk.no _ 39 rfl rfl rfl rfl (fun _ _ h => h) (by decide) (by kernel_rfl) (fun _ => rfl)
              | 8, _ => exact StepOk.no _ 40 rfl rfl rfl rfl (fun _ _ h => h) (by decide) (by kernel_rfl) (fun _ => rfl)
              | 9, _ =>
                refine StepOk.plain _ 41 rfl rfl rfl [(35, some 3), (40, some 8)] (by kernel_rfl) (fun af wf hbw hf Kf hKf => ?_)
                obtain ⟨g35, g40, _⟩ := hf
                have h35 : af.tmps[35]?.getD undef = .bool true := g35
                have h40 : af.tmps[40]?.getD undef = undef := g40
                clear g35 g40
                go_simp
                exact hKf _ _ (Below.refl _ _) rfl
              | 10, _ =>
                refine StepOk.plain _ 42 rfl rfl rfl [(41, some 9)] (by kernel_rfl) (fun af wf hbw hf Kf hKf => ?_)
                obtain ⟨g41, _⟩ := hf
                have h41 : af.tmps[41]?.getD undef = .bool true := g41
                clear g41
                go_simp
                exact hKf _ _ (Below.refl _ _) rfl
              | 11, _ => exact StepOk.no _ 43 rfl rfl rfl rfl (fun _ _ h => h) (by decide) (by kernel_rfl) (fun _ => rfl)
              | 12, _ => exact StepOk.no _ 44 rfl rfl rfl rfl (fun _ _ h => h) (by decide) (by kernel_rfl) (fun _ => rfl)
              | 13, _ => exact StepOk.no _ 45 rfl rfl rfl rfl (fun _ _ h => h) (by decide) (by kernel_rfl) (fun _ => rfl)
              | 14, _ => exact StepOk.no _ 46 rfl rfl rfl rfl (fun _ _ h => h) (by decide) (by kernel_rfl) (fun _ => rfl)
              | 15, _ =>
                refine StepOk.plain _ 47 rfl rfl rfl [(42, some 10), (46, some 14)] (by kernel_rfl) (fun af wf hbw hf Kf hKf => ?_)
                obtain ⟨g42, g46, _⟩ := hf
                have h42 : af.tmps[42]?.getD undef = .bool true := g42
                have h46 : af.tmps[46]?.getD undef = undef := g46
                clear g42 g46
                go_simp
                exact hKf _ _ (Below.refl _ _) rfl
              | 16, _ =>
                refine StepOk.plain _ 48 rfl rfl rfl [(47, some 15)] (by kernel_rfl) (fun af wf hbw hf Kf hKf => ?_)
                obtain ⟨g47, _⟩ := hf
                have h47 : af.tmps[47]?.getD undef = .bool true := g47
                clear g47
                go_simp
                exact hKf _ _ (Below.refl _ _) rfl
              | 17, _ => exact StepOk.no _ 49 rfl rfl rfl rfl (fun _ _ h => h) (by decide) (by kernel_rfl) (fun _ => rfl)
              | 18, _ => exact StepOk.no _ 50 rfl rfl rfl rfl (fun _ _ h => h) (by decide) (by kernel_rfl) (fun _ => rfl)
              | 19, _ => exact StepOk.no _ 51 rfl rfl rfl rfl (fun _ _ h => h) (by decide) (by kernel_rfl) (fun _ => rfl)
              | 20, _ => exact StepOk.nou _ 52 rfl rfl rfl rfl (fun _ _ h => h) (by kernel_rfl) (fun _ => rfl)
              | 21, _ => exact StepOk.nou _ 53 rfl rfl rfl rfl (fun _ _ h => h) (by kernel_rfl) (fun _ => rfl)
              | 22, _ => exact StepOk.nou _ 54 rfl rfl rfl rfl (fun _ _ h => h) (by kernel_rfl) (fun _ => rfl)
              | 23, _ => exact StepOk.nou _ 55 rfl rfl rfl rfl (fun _ _ h => h) (by kernel_rfl) (fun _ => rfl)
              | 24, _ => exact StepOk.nou _ 56 rfl rfl rfl rfl (fun _ _ h => h) (by kernel_rfl) (fun _ => rfl)
              | 25, _ => exact StepOk.nou _ 57 rfl rfl rfl rfl (fun _ _ h => h) (by kernel_rfl) (fun _ => rfl)
              | 26, _ => exact StepOk.nou _ 58 rfl rfl rfl rfl (fun _ _ h => h) (by kernel_rfl) (fun _ => rfl)
              | 27, _ => exact StepOk.nou _ 59 rfl rfl rfl rfl (fun _ _ h => h) (by kernel_rfl) (fun _ => rfl)
              | 28, _ => exact StepOk.nou _ 60 rfl rfl rfl rfl (fun _ _ h => h) (by kernel_rfl) (fun _ => rfl)
              | 29, _ => exact StepOk.nou _ 61 rfl rfl rfl rfl (fun _ _ h => h) (by kernel_rfl) (fun _ => rfl)
              | 30, _ => exact StepOk.no _ 62 rfl rfl rfl rfl (fun _ _ h => h) (by decide) (by kernel_rfl) (fun _ => rfl)
              | 31, _ =>
                refine StepOk.plain _ 63 rfl rfl rfl [(48, some 16), (62, some 30)] (by kernel_rfl) (fun af wf hbw hf Kf hKf => ?_)
                obtain ⟨g48, g62, _⟩ := hf
                have h48 : af.tmps[48]?.getD undef = .bool true := g48
                have h62 : af.tmps[62]?.getD undef = undef := g62
                clear g48 g62
                go_simp
                exact hKf _ _ (Below.refl _ _) rfl
              | i + 32, h => exact absurd h (by show ¬ (i + 32 < 32); omega)
            · intro af wF hbF hdF hsF hbaseF hfactF
              obtain ⟨T, dsF⟩ := af
              obtain rfl : dsF = _ := hdF
              have e0 := hbaseF 0 (not_dst (by kernel_rfl))
              simp only [List.getElem?_toArray, List.getElem?_cons_zero, Option.getD_some] at e0
              have e1 := hbaseF 1 (not_dst (by kernel_rfl))
              simp only [List.getElem?_toArray, List.getElem?_cons_zero, List.getElem?_cons_succ, Option.getD_some] at e1
              have e2 := hbaseF 2 (not_dst (by kernel_rfl))
              simp only [List.getElem?_toArray, List.getElem?_cons_zero, List.getElem?_cons_succ, Option.getD_some] at e2
              have e3 := hbaseF 3 (not_dst (by kernel_rfl))
              simp only [List.getElem?_toArray, List.getElem?_cons_zero, List.getElem?_cons_succ, Option.getD_some] at e3
              have e4 := hbaseF 4 (not_dst (by kernel_rfl))
              simp only [List.getElem?_toArray, List.getElem?_cons_zero, List.getElem?_cons_succ, Option.getD_some] at e4
              have e5 := hbaseF 5 (not_dst (by kernel_rfl))
              simp only [List.getElem?_toArray, List.getElem?_cons_zero, List.getElem?_cons_succ, Option.getD_some] at e5
              have e6 := hbaseF 6 (not_dst (by kernel_rfl))
              simp only [List.getElem?_toArray, List.getElem?_cons_zero, List.getElem?_cons_succ, Option.getD_some] at e6
              have e7 := hbaseF 7 (not_dst (by kernel_rfl))
              simp only [List.getElem?_toArray, List.getElem?_cons_zero, List.getElem?_cons_succ, Option.getD_some] at e7
              have e8 := hbaseF 8 (not_dst (by kernel_rfl))
              simp only [List.getElem?_toArray, List.getElem?_cons_zero, List.getElem?_cons_succ, Option.getD_some] at e8
              have e9 := hbaseF 9 (not_dst (by kernel_rfl))
              simp only [List.getElem?_toArray, List.getElem?_cons_zero, List.getElem?_cons_succ, Option.getD_some] at e9
              have e10 := hbaseF 10 (not_dst (by kernel_rfl))
              simp only [List.getElem?_toArray, List.getElem?_cons_zero, List.getElem?_cons_succ, Option.getD_some] at e10
              have e11 := hbaseF 11 (not_dst (by kernel_rfl))
              simp only [List.getElem?_toArray, List.getElem?_cons_zero, List.getElem?_cons_succ, Option.getD_some] at e11
              have e12 := hbaseF 12 (not_dst (by kernel_rfl))
              simp only [List.getElem?_toArray, List.getElem?_cons_zero, List.getElem?_cons_succ, Option.getD_some] at e12
              have e13 := hbaseF 13 (not_dst (by kernel_rfl))
              simp only [List.getElem?_toArray, List.getElem?_cons_zero, List.getElem?_cons_succ, Option.getD_some] at e13
              have e14 := hbaseF 14 (not_dst (by kernel_rfl))
              simp only [List.getElem?_toArray, List.getElem?_cons_zero, List.getElem?_cons_succ, Option.getD_some] at e14
              have e15 := hbaseF 15 (not_dst (by kernel_rfl))
              simp only [List.getElem?_toArray, List.getElem?_cons_zero, List.getElem?_cons_succ, Option.getD_some] at e15
              have e16 := hbaseF 16 (not_dst (by kernel_rfl))
              simp only [List.getElem?_toArray, List.getElem?_cons_zero, List.getElem?_cons_succ, Option.getD_some] at e16
              have e17 := hbaseF 17 (not_dst (by kernel_rfl))
              simp only [List.getElem?_toArray, List.getElem?_cons_zero, List.getElem?_cons_succ, Option.getD_some] at e17
              have e18 := hbaseF 18 (not_dst (by kernel_rfl))
              simp only [List.getElem?_toArray, List.getElem?_cons_zero, List.getElem?_cons_succ, Option.getD_some] at e18
              have e19 := hbaseF 19 (not_dst (by kernel_rfl))
              simp only [List.getElem?_toArray, List.getElem?_cons_zero, List.getElem?_cons_succ, Option.getD_some] at e19
              have e20 := hbaseF 20 (not_dst (by kernel_rfl))
              simp only [List.getElem?_toArray, List.getElem?_cons_zero, List.getElem?_cons_succ, Option.getD_some] at e20
              have e21 := hbaseF 21 (not_dst (by kernel_rfl))
              simp only [List.getElem?_toArray, List.getElem?_cons_zero, List.getElem?_cons_succ, Option.getD_some] at e21
              have e22 := hbaseF 22 (not_dst (by kernel_rfl))
              simp only [List.getElem?_toArray, List.getElem?_cons_zero, List.getElem?_cons_succ, Option.getD_some] at e22
              have e23 := hbaseF 23 (not_dst (by kernel_rfl))
              simp only [List.getElem?_toArray, List.getElem?_cons_zero, List.getElem?_cons_succ, Option.getD_some] at e23
              have e24 := hbaseF 24 (not_dst (by kernel_rfl))
              simp only [List.getElem?_toArray, List.getElem?_cons_zero, List.getElem?_cons_succ, Option.getD_some] at e24
              have e25 := hbaseF 25 (not_dst (by kernel_rfl))
              simp only [List.getElem?_toArray, List.getElem?_cons_zero, List.getElem?_cons_succ, Option.getD_some] at e25
              have e26 := hbaseF 26 (not_dst (by kernel_rfl))
              simp only [List.getElem?_toArray, List.getElem?_cons_zero, List.getElem?_cons_succ, Option.getD_some] at e26
              have e27 := hbaseF 27 (not_dst (by kernel_rfl))
              simp only [List.getElem?_toArray, List.getElem?_cons_zero, List.getElem?_cons_succ, Option.getD_some] at e27
              have e28 := hbaseF 28 (not_dst (by kernel_rfl))
              simp only [List.getElem?_toArray, List.getElem?_cons_zero, List.getElem?_cons_succ, Option.getD_some] at e28
              have e29 := hbaseF 29 (not_dst (by kernel_rfl))
              simp only [List.getElem?_toArray, List.getElem?_cons_zero, List.getElem?_cons_succ, Option.getD_some] at e29
              have e30 := hbaseF 30 (not_dst (by kernel_rfl))
              simp only [List.getElem?_toArray, List.getElem?_cons_zero, List.getElem?_cons_succ, Option.getD_some] at e30
              have e31 := hbaseF 31 (not_dst (by kernel_rfl))
              simp only [List.getElem?_toArray, List.getElem?_cons_zero, List.getElem?_cons_succ, Option.getD_some] at e31
              have e64 := hbaseF 64 (not_dst (by kernel_rfl))
              simp only [List.getElem?_toArray, List.getElem?_cons_zero, List.getElem?_cons_succ, Option.getD_some] at e64
              have e63 := hfactF 31 63 (by decide) rfl
              replace e63 : T[63]?.getD undef = .bool true := e63
              clear hbaseF hfactF
              have hT : T = #[T[0]?.getD undef, T[1]?.getD undef, T[2]?.getD undef, T[3]?.getD undef, T[4]?.getD undef, T[5]?.getD undef, T[6]?.getD undef, T[7]?.getD undef, T[8]?.getD undef, T[9]?.getD undef, T[10]?.getD undef, T[11]?.getD undef, T[12]?.getD undef, T[13]?.getD undef, T[14]?.getD undef, T[15]?.getD undef, T[16]?.getD undef, T[17]?.getD undef, T[18]?.getD undef, T[19]?.getD undef, T[20]?.getD undef, T[21]?.getD undef, T[22]?.getD undef, T[23]?.getD undef, T[24]?.getD undef, T[25]?.getD undef, T[26]?.getD undef, T[27]?.getD undef, T[28]?.getD undef, T[29]?.getD undef, T[30]?.getD undef, T[31]?.getD undef, T[32]?.getD undef, T[33]?.getD undef, T[34]?.getD undef, T[35]?.getD undef, T[36]?.getD undef, T[37]?.getD undef, T[38]?.getD undef, T[39]?.getD undef, T[40]?.getD undef, T[41]?.getD undef, T[42]?.getD undef, T[43]?.getD undef, T[44]?.getD undef, T[45]?.getD undef, T[46]?.getD undef, T[47]?.getD undef, T[48]?.getD undef, T[49]?.getD undef, T[50]?.getD undef, T[51]?.getD undef, T[52]?.getD undef, T[53]?.getD undef, T[54]?.getD undef, T[55]?.getD undef, T[56]?.getD undef, T[57]?.getD undef, T[58]?.getD undef, T[59]?.getD undef, T[60]?.getD undef, T[61]?.getD undef, T[62]?.getD undef, T[63]?.getD undef, T[64]?.getD undef] := arr_eq T 65 hsF
              clear hsF
              rw [e0] at hT; clear e0
              rw [e1] at hT; clear e1
              rw [e2] at hT; clear e2
              rw [e3] at hT; clear e3
              rw [e4] at hT; clear e4
              rw [e5] at hT; clear e5
              rw [e6] at hT; clear e6
              rw [e7] at hT; clear e7
              rw [e8] at hT; clear e8
              rw [e9] at hT; clear e9
              rw [e10] at hT; clear e10
              rw [e11] at hT; clear e11
              rw [e12] at hT; clear e12
              rw [e13] at hT; clear e13
              rw [e14] at hT; clear e14
              rw [e15] at hT; clear e15
              rw [e16] at hT; clear e16
              rw [e17] at hT; clear e17
              rw [e18] at hT; clear e18
              rw [e19] at hT; clear e19
              rw [e20] at hT; clear e20
              rw [e21] at hT; clear e21
              rw [e22] at hT; clear e22
              rw [e23] at hT; clear e23
              rw [e24] at hT; clear e24
              rw [e25] at hT; clear e25
              rw [e26] at hT; clear e26
              rw [e27] at hT; clear e27
              rw [e28] at hT; clear e28
              rw [e29] at hT; clear e29
              rw [e30] at hT; clear e30
              rw [e31] at hT; clear e31
              generalize T[32]?.getD undef = u32 at hT
              generalize T[33]?.getD undef = u33 at hT
              generalize T[34]?.getD undef = u34 at hT
              generalize T[35]?.getD undef = u35 at hT
              generalize T[36]?.getD undef = u36 at hT
              generalize T[37]?.getD undef = u37 at hT
              generalize T[38]?.getD undef = u38 at hT
              generalize T[39]?.getD undef = u39 at hT
              generalize T[40]?.getD undef = u40 at hT
              generalize T[41]?.getD undef = u41 at hT
              generalize T[42]?.getD undef = u42 at hT
              generalize T[43]?.getD undef = u43 at hT
              generalize T[44]?.getD undef = u44 at hT
              generalize T[45]?.getD undef = u45 at hT
              generalize T[46]?.getD undef = u46 at hT
              generalize T[47]?.getD undef = u47 at hT
              generalize T[48]?.getD undef = u48 at hT
              generalize T[49]?.getD undef = u49 at hT
              generalize T[50]?.getD undef = u50 at hT
              generalize T[51]?.getD undef = u51 at hT
              generalize T[52]?.getD undef = u52 at hT
              generalize T[53]?.getD undef = u53 at hT
              generalize T[54]?.getD undef = u54 at hT
              generalize T[55]?.getD undef = u55 at hT
              generalize T[56]?.getD undef = u56 at hT
              generalize T[57]?.getD undef = u57 at hT
              generalize T[58]?.getD undef = u58 at hT
              generalize T[59]?.getD undef = u59 at hT
              generalize T[60]?.getD undef = u60 at hT
              generalize T[61]?.getD undef = u61 at hT
              generalize T[62]?.getD undef = u62 at hT
              rw [e63] at hT; clear e63
              rw [e64] at hT; clear e64
              subst hT
              go_wp2_with fail
              go_ret
              exact ⟨by rw [hno.out]; rfl, (by (have q_hbF := Below.size hbF; (try simp at q_hbF); have q_ba := Below.size ba; (try simp at q_ba); repeat (first | exact Below.refl _ _ | (refine Below.trans ?_ (Below.mono hbF (by first | omega | (simp; omega) | simp))) | (refine Below.trans ?_ (Below.mono ba (by first | omega | (simp; omega) | simp))) | (refine Below.setCell ?_ (by first | omega | (simp; omega) | simp) _) | (refine Below.alloc ?_ (by first | omega | (simp; omega) | simp) _) | apply Below.drew | apply below_drewN)))⟩
          · have hd2 : decide (K < 0) = false := decide_eq_false hK0
            by_cases hKS : K < S
            · have hK0' : 0 ≤ K := by omega
              have hd8 : decide (S ≤ K) = false := decide_eq_false (by omega)
              by_cases h256 : nd = 256
              · have hne : ((nd : Int) != 256) = false := by simp; omega
                have hL256 : L.length = 256 := by omega
                have H256 := Lib.hid hL256
                clear h256 hLl hL256
                by_cases h0 : 0 < k
                · have cprev := cprev h0
                  have hKx := HKX.out h0
                  have h0' : (0 : Int) < k := by omega
                  by_cases hlast : K ≤ K'
                  · have hno := Lib.hid (hno1.out (by omega))
                    clear hKx
                    go_wp2_with fail
                    refine wp_flows [(fun y_ _ => y_ = .pointer (some ⟨wr.heap.size, 0, none⟩)), (fun y_ _ => y_ = .int .i64 K), (fun y_ _ => y_ = .bool false), (fun y_ _ => y_ = .bool false), (fun y_ _ => y_ = .pointer (some ⟨wr.heap.size, 0, none⟩)), (fun y_ _ => y_ = .int .i64 K), (fun y_ _ => y_ = .agg #[.int .i64 p, .int .i64 t]), (fun y_ _ => y_ = .int .i64 S), (fun y_ _ => y_ = .bool false), (fun y_ _ => y_ = .bool false), (fun y_ _ => y_ = .bool false), (fun y_ _ => y_ = .pointer (some ⟨wr.heap.size, 1, none⟩)), (fun y_ _ => y_ = .slice Ad nd cd), (fun y_ _ => y_ = .int .i64 (nd : Int)), (fun y_ _ => y_ = .bool false), (fun y_ _ => y_ = .bool false), (fun y_ _ => y_ = .bool false), (fun y_ _ => y_ = .int .i64 (k : Int)), (fun y_ _ => y_ = .bool true), (fun y_ _ => y_ = .bool true), (fun y_ _ => y_ = .pointer (some ⟨w.heap.size + 1, 1, none⟩)), (fun y_ _ => y_ = .slice (some ⟨b, off, none⟩) n c), (fun y_ _ => y_ = .int .i64 (k : Int)), (fun y_ _ => y_ = .int .i64 ((k - 1 : Nat) : Int)), (fun y_ _ => y_ = .pointer (some ⟨b, off + (k - 1) * 2, none⟩)), (fun y_ _ => y_ = .pointer (some ⟨b, off + (k - 1) * 2, none⟩)), (fun y_ _ => y_ = .int .i64 K'), (fun y_ _ => y_ = .pointer (some ⟨wr.heap.size, 0, none⟩)), (fun y_ _ => y_ = .int .i64 K), (fun y_ _ => y_ = .bool true), (fun y_ _ => y_ = .bool true), (fun y_ _ => y_ = .bool true)] (by kernel_rfl) ⟨Stab.eq _, Stab.eq _, Stab.eq _, Stab.eq _, Stab.eq _, Stab.eq _, Stab.eq _, Stab.eq _, Stab.eq _, Stab.eq _, Stab.eq _, Stab.eq _, Stab.eq _, Stab.eq _, Stab.eq _, Stab.eq _, Stab.eq _, Stab.eq _, Stab.eq _, Stab.eq _, Stab.eq _, Stab.eq _, Stab.eq _, Stab.eq _, Stab.eq _, Stab.eq _, Stab.eq _, Stab.eq _, Stab.eq _, Stab.eq _, Stab.eq _, Stab.eq _, trivial⟩ (by kernel_rfl) (by rfl) ?_ ?_
                    · intro kq hkq
                      match kq, hkq with
                      | 0, _ =>
                        refine StepOk.plain _ 32 rfl rfl rfl [(6, none)] (by kernel_rfl) (fun af wf hbw hf Kf hKf => ?_)
                        obtain ⟨g6, _⟩ := hf
                        have h6 : af.tmps[6]?.getD undef = .pointer (some ⟨wr.heap.size, 0, none⟩) := g6
                        clear g6
                        go_simp
                        exact hKf _ _ (Below.refl _ _) rfl
                      | 1, _ =>
                        refine StepOk.plain _ 33 rfl rfl rfl [(32, some 0)] (by kernel_rfl) (fun af wf hbw hf Kf hKf => ?_)
                        obtain ⟨g32, _⟩ := hf
                        have h32 : af.tmps[32]?.getD undef = .pointer (some ⟨wr.heap.size, 0, none⟩) := g32
                        clear g32
                        have cB0 := (Blk.on (Blk.drew (hPa)) hbw).cell
                        have cB1 := (Blk.on (Blk.drew (hQa)) hbw).cell
                        have cB2 := (Blk.on (Blk.drew (Bx)) hbw).cell
                        go_simp
                        exact hKf _ _ (Below.refl _ _) rfl
                      | 2, _ =>
                        refine StepOk.plain _ 34 rfl rfl rfl [(33, some 1)] (by kernel_rfl) (fun af wf hbw hf Kf hKf => ?_)
                        obtain ⟨g33, _⟩ := hf
                        have h33 : af.tmps[33]?.getD undef = .int .i64 K := g33
                        clear g33
                        go_simp
                        exact hKf _ _ (Below.refl _ _) rfl
                      | 3, _ =>
                        refine StepOk.plain _ 35 rfl rfl rfl [(34, some 2)] (by kernel_rfl) (fun af wf hbw hf Kf hKf => ?_)
                        obtain ⟨g34, _⟩ := hf
                        have h34 : af.tmps[34]?.getD undef = .bool false := g34
                        clear g34
                        go_simp
                        exact hKf _ _ (Below.refl _ _) rfl
                      | 4, _ =>
                        refine StepOk.yes _ 36 rfl rfl rfl rfl (fun _ _ h => h) [(6, none)] (by kernel_rfl) (fun af wf hbw hf Kf hKf => ?_)
                        obtain ⟨g6, _⟩ := hf
                        have h6 : af.tmps[6]?.getD undef = .pointer (some ⟨wr.heap.size, 0, none⟩) := g6
                        clear g6
                        go_simp
                        exact hKf _ _ (Below.refl _ _) rfl
                      | 5, _ =>
                        refine StepOk.yes _ 37 rfl rfl rfl rfl (fun _ _ h => h) [(36, some 4)] (by kernel_rfl) (fun af wf hbw hf Kf hKf => ?_)
                        obtain ⟨g36, _⟩ := hf
                        have h36 : af.tmps[36]?.getD undef = .pointer (some ⟨wr.heap.size, 0, none⟩) := g36
                        clear g36
                        have cB0 := (Blk.on (Blk.drew (hPa)) hbw).cell
                        have cB1 := (Blk.on (Blk.drew (hQa)) hbw).cell
                        have cB2 := (Blk.on (Blk.drew (Bx)) hbw).cell
                        go_simp
                        exact hKf _ _ (Below.refl _ _) rfl
                      | 6, _ =>
                        refine StepOk.yes _ 38 rfl rfl rfl rfl (fun _ _ h => h) [(2, none)] (by kernel_rfl) (fun af wf hbw hf Kf hKf => ?_)
                        obtain ⟨g2, _⟩ := hf
                        have h2 : af.tmps[2]?.getD undef = .pointer (some ⟨w.heap.size, 0, none⟩) := g2
                        clear g2
                        have cB0 := (Blk.on (Blk.drew (hPa)) hbw).cell
                        have cB1 := (Blk.on (Blk.drew (hQa)) hbw).cell
                        have cB2 := (Blk.on (Blk.drew (Bx)) hbw).cell
                        go_simp
                        exact hKf _ _ (Below.refl _ _) rfl
                      | 7, _ =>
                        refine StepOk.yes _ 39 rfl rfl rfl rfl (fun _ _ h => h) [(38, some 6)] (by kernel_rfl) (fun af wf hbw hf Kf hKf => ?_)
                        obtain ⟨g38, _⟩ := hf
                        have h38 : af.tmps[38]?.getD undef = .agg #[.int .i64 p, .int .i64 t] := g38
                        clear g38
                        go_simp
                        refine (rsealed_any p t _ g2 g3).mono ?_
                        rintro e wN ⟨rfl, hb⟩
                        exact hKf _ _ (hb) (congrArg (Value.int .i64) HS.out.symm)
                      | 8, _ =>
                        refine StepOk.yes _ 40 rfl rfl rfl rfl (fun _ _ h => h) [(37, some 5), (39, some 7)] (by kernel_rfl) (fun af wf hbw hf Kf hKf => ?_)
                        obtain ⟨g37, g39, _⟩ := hf
                        have h37 : af.tmps[37]?.getD undef = .int .i64 K := g37
                        have h39 : af.tmps[39]?.getD undef = .int .i64 S := g39
                        clear g37 g39
                        go_simp
                        exact hKf _ _ (Below.refl _ _) rfl
                      | 9, _ =>
                        refine StepOk.plain _ 41 rfl rfl rfl [(35, some 3), (40, some 8)] (by kernel_rfl) (fun af wf hbw hf Kf hKf => ?_)
                        obtain ⟨g35, g40, _⟩ := hf
                        have h35 : af.tmps[35]?.getD undef = .bool false := g35
                        have h40 : af.tmps[40]?.getD undef = .bool false := g40
                        clear g35 g40
                        go_simp
                        exact hKf _ _ (Below.refl _ _) rfl
                      | 10, _ =>
                        refine StepOk.plain _ 42 rfl rfl rfl [(41, some 9)] (by kernel_rfl) (fun af wf hbw hf Kf hKf => ?_)
                        obtain ⟨g41, _⟩ := hf
                        have h41 : af.tmps[41]?.getD undef = .bool false := g41
                        clear g41
                        go_simp
                        exact hKf _ _ (Below.refl _ _) rfl
                      | 11, _ =>
                        refine StepOk.yes _ 43 rfl rfl rfl rfl (fun _ _ h => h) [(6, none)] (by kernel_rfl) (fun af wf hbw hf Kf hKf => ?_)
                        obtain ⟨g6, _⟩ := hf
                        have h6 : af.tmps[6]?.getD undef = .pointer (some ⟨wr.heap.size, 0, none⟩) := g6
                        clear g6
                        go_simp
                        exact hKf _ _ (Below.refl _ _) rfl
                      | 12, _ =>
                        refine StepOk.yes _ 44 rfl rfl rfl rfl (fun _ _ h => h) [(43, some 11)] (by kernel_rfl) (fun af wf hbw hf Kf hKf => ?_)
                        obtain ⟨g43, _⟩ := hf
                        have h43 : af.tmps[43]?.getD undef = .pointer (some ⟨wr.heap.size, 1, none⟩) := g43
                        clear g43
                        have cB0 := (Blk.on (Blk.drew (hPa)) hbw).cell
                        have cB1 := (Blk.on (Blk.drew (hQa)) hbw).cell
                        have cB2 := (Blk.on (Blk.drew (Bx)) hbw).cell
                        go_simp
                        exact hKf _ _ (Below.refl _ _) rfl
                      | 13, _ =>
                        refine StepOk.yes _ 45 rfl rfl rfl rfl (fun _ _ h => h) [(44, some 12)] (by kernel_rfl) (fun af wf hbw hf Kf hKf => ?_)
                        obtain ⟨g44, _⟩ := hf
                        have h44 : af.tmps[44]?.getD undef = .slice Ad nd cd := g44
                        clear g44
                        go_simp
                        exact hKf _ _ (Below.refl _ _) rfl
                      | 14, _ =>
                        refine StepOk.yes _ 46 rfl rfl rfl rfl (fun _ _ h => h) [(45, some 13)] (by kernel_rfl) (fun af wf hbw hf Kf hKf => ?_)
                        obtain ⟨g45, _⟩ := hf
                        have h45 : af.tmps[45]?.getD undef = .int .i64 (nd : Int) := g45
                        clear g45
                        go_simp
                        exact hKf _ _ (Below.refl _ _) rfl
                      | 15, _ =>
                        refine StepOk.plain _ 47 rfl rfl rfl [(42, some 10), (46, some 14)] (by kernel_rfl) (fun af wf hbw hf Kf hKf => ?_)
                        obtain ⟨g42, g46, _⟩ := hf
                        have h42 : af.tmps[42]?.getD undef = .bool false := g42
                        have h46 : af.tmps[46]?.getD undef = .bool false := g46
                        clear g42 g46
                        go_simp
                        exact hKf _ _ (Below.refl _ _) rfl
                      | 16, _ =>
                        refine StepOk.plain _ 48 rfl rfl rfl [(47, some 15)] (by kernel_rfl) (fun af wf hbw hf Kf hKf => ?_)
                        obtain ⟨g47, _⟩ := hf
                        have h47 : af.tmps[47]?.getD undef = .bool false := g47
                        clear g47
                        go_simp
                        exact hKf _ _ (Below.refl _ _) rfl
                      | 17, _ =>
                        refine StepOk.yes _ 49 rfl rfl rfl rfl (fun _ _ h => h) [(5, none)] (by kernel_rfl) (fun af wf hbw hf Kf hKf => ?_)
                        obtain ⟨g5, _⟩ := hf
                        have h5 : af.tmps[5]?.getD undef = .int .i64 (k : Int) := g5
                        clear g5
                        go_simp
                        exact hKf _ _ (Below.refl _ _) rfl
                      | 18, _ =>
                        refine StepOk.yes _ 50 rfl rfl rfl rfl (fun _ _ h => h) [(49, some 17)] (by kernel_rfl) (fun af wf hbw hf Kf hKf => ?_)
                        obtain ⟨g49, _⟩ := hf
                        have h49 : af.tmps[49]?.getD undef = .int .i64 (k : Int) := g49
                        clear g49
                        go_simp
                        exact hKf _ _ (Below.refl _ _) rfl
                      | 19, _ =>
                        refine StepOk.yes _ 51 rfl rfl rfl rfl (fun _ _ h => h) [(50, some 18)] (by kernel_rfl) (fun af wf hbw hf Kf hKf => ?_)
                        obtain ⟨g50, _⟩ := hf
                        have h50 : af.tmps[50]?.getD undef = .bool true := g50
                        clear g50
                        go_simp
                        exact hKf _ _ (Below.refl _ _) rfl
                      | 20, _ =>
                        refine StepOk.yes _ 52 rfl rfl rfl rfl (fun _ _ h => h) [(3, none)] (by kernel_rfl) (fun af wf hbw hf Kf hKf => ?_)
                        obtain ⟨g3, _⟩ := hf
                        have h3 : af.tmps[3]?.getD undef = .pointer (some ⟨w.heap.size + 1, 0, none⟩) := g3
                        clear g3
                        go_simp
                        exact hKf _ _ (Below.refl _ _) rfl
                      | 21, _ =>
                        refine StepOk.yes _ 53 rfl rfl rfl rfl (fun _ _ h => h) [(52, some 20)] (by kernel_rfl) (fun af wf hbw hf Kf hKf => ?_)
                        obtain ⟨g52, _⟩ := hf
                        have h52 : af.tmps[52]?.getD undef = .pointer (some ⟨w.heap.size + 1, 1, none⟩) := g52
                        clear g52
                        have cB0 := (Blk.on (Blk.drew (hPa)) hbw).cell
                        have cB1 := (Blk.on (Blk.drew (hQa)) hbw).cell
                        have cB2 := (Blk.on (Blk.drew (Bx)) hbw).cell
                        go_simp
                        exact hKf _ _ (Below.refl _ _) rfl
                      | 22, _ =>
                        refine StepOk.yes _ 54 rfl rfl rfl rfl (fun _ _ h => h) [(5, none)] (by kernel_rfl) (fun af wf hbw hf Kf hKf => ?_)
                        obtain ⟨g5, _⟩ := hf
                        have h5 : af.tmps[5]?.getD undef = .int .i64 (k : Int) := g5
                        clear g5
                        go_simp
                        exact hKf _ _ (Below.refl _ _) rfl
                      | 23, _ =>
                        refine StepOk.yes _ 55 rfl rfl rfl rfl (fun _ _ h => h) [(54, some 22)] (by kernel_rfl) (fun af wf hbw hf Kf hKf => ?_)
                        obtain ⟨g54, _⟩ := hf
                        have h54 : af.tmps[54]?.getD undef = .int .i64 (k : Int) := g54
                        clear g54
                        have hsu : (k : Int) - 1 = ((k - 1 : Nat) : Int) := by omega
                        have hwu : IntKind.i64.wrap ((k - 1 : Nat) : Int) = ((k - 1 : Nat) : Int) := IntWalk.i64_in _ (by omega)
                        have hwr : IntKind.i64.wrap ((k : Int) - 1) = (k : Int) - 1 := IntWalk.i64_in _ (by omega)
                        go_simp
                        exact hKf _ _ (Below.refl _ _) rfl
                      | 24, _ =>
                        refine StepOk.yes _ 56 rfl rfl rfl rfl (fun _ _ h => h) [(53, some 21), (55, some 23)] (by kernel_rfl) (fun af wf hbw hf Kf hKf => ?_)
                        obtain ⟨g53, g55, _⟩ := hf
                        have h53 : af.tmps[53]?.getD undef = .slice (some ⟨b, off, none⟩) n c := g53
                        have h55 : af.tmps[55]?.getD undef = .int .i64 ((k - 1 : Nat) : Int) := g55
                        clear g53 g55
                        have hlt24 : ((k - 1 : Nat) : Int) < n := by omega
                        go_simp
                        exact hKf _ _ (Below.refl _ _) rfl
                      | 25, _ =>
                        refine StepOk.yes _ 57 rfl rfl rfl rfl (fun _ _ h => h) [(56, some 24)] (by kernel_rfl) (fun af wf hbw hf Kf hKf => ?_)
                        obtain ⟨g56, _⟩ := hf
                        have h56 : af.tmps[56]?.getD undef = .pointer (some ⟨b, off + (k - 1) * 2, none⟩) := g56
                        clear g56
                        go_simp
                        exact hKf _ _ (Below.refl _ _) rfl
                      | 26, _ =>
                        refine StepOk.yes _ 58 rfl rfl rfl rfl (fun _ _ h => h) [(57, some 25)] (by kernel_rfl) (fun af wf hbw hf Kf hKf => ?_)
                        obtain ⟨g57, _⟩ := hf
                        have h57 : af.tmps[57]?.getD undef = .pointer (some ⟨b, off + (k - 1) * 2, none⟩) := g57
                        clear g57
                        have cB0 := (Blk.on (Blk.drew (hPa)) hbw).cell
                        have cB1 := (Blk.on (Blk.drew (hQa)) hbw).cell
                        have cB2 := (Blk.on (Blk.drew (Bx)) hbw).cell
                        have hcx := (Below.cell (p := ⟨b, off + (k - 1) * 2, none⟩) hbw hb0).trans cprev
                        go_simp
                        exact hKf _ _ (Below.refl _ _) rfl
                      | 27, _ =>
                        refine StepOk.yes _ 59 rfl rfl rfl rfl (fun _ _ h => h) [(6, none)] (by kernel_rfl) (fun af wf hbw hf Kf hKf => ?_)
                        obtain ⟨g6, _⟩ := hf
                        have h6 : af.tmps[6]?.getD undef = .pointer (some ⟨wr.heap.size, 0, none⟩) := g6
                        clear g6
                        go_simp
                        exact hKf _ _ (Below.refl _ _) rfl
                      | 28, _ =>
                        refine StepOk.yes _ 60 rfl rfl rfl rfl (fun _ _ h => h) [(59, some 27)] (by kernel_rfl) (fun af wf hbw hf Kf hKf => ?_)
                        obtain ⟨g59, _⟩ := hf
                        have h59 : af.tmps[59]?.getD undef = .pointer (some ⟨wr.heap.size, 0, none⟩) := g59
                        clear g59
                        have cB0 := (Blk.on (Blk.drew (hPa)) hbw).cell
                        have cB1 := (Blk.on (Blk.drew (hQa)) hbw).cell
                        have cB2 := (Blk.on (Blk.drew (Bx)) hbw).cell
                        go_simp
                        exact hKf _ _ (Below.refl _ _) rfl
                      | 29, _ =>
                        refine StepOk.yes _ 61 rfl rfl rfl rfl (fun _ _ h => h) [(58, some 26), (60, some 28)] (by kernel_rfl) (fun af wf hbw hf Kf hKf => ?_)
                        obtain ⟨g58, g60, _⟩ := hf
                        have h58 : af.tmps[58]?.getD undef = .int .i64 K' := g58
                        have h60 : af.tmps[60]?.getD undef = .int .i64 K := g60
                        clear g58 g60
                        go_simp
                        exact hKf _ _ (Below.refl _ _) rfl
                      | 30, _ =>
                        refine StepOk.yes _ 62 rfl rfl rfl rfl (fun _ _ h => h) [(51, some 19), (61, some 29)] (by kernel_rfl) (fun af wf hbw hf Kf hKf => ?_)
                        obtain ⟨g51, g61, _⟩ := hf
                        have h51 : af.tmps[51]?.getD undef = .bool true := g51
                        have h61 : af.tmps[61]?.getD undef = .bool true := g61
                        clear g51 g61
                        go_simp
                        exact hKf _ _ (Below.refl _ _) rfl
                      | 31, _ =>
                        refine StepOk.plain _ 63 rfl rfl rfl [(48, some 16), (62, some 30)] (by kernel_rfl) (fun af wf hbw hf Kf hKf => ?_)
                        obtain ⟨g48, g62, _⟩ := hf
                        have h48 : af.tmps[48]?.getD undef = .bool false := g48
                        have h62 : af.tmps[62]?.getD undef = .bool true := g62
                        clear g48 g62
                        go_simp
                        exact hKf _ _ (Below.refl _ _) rfl
                      | i + 32, h => exact absurd h (by show ¬ (i + 32 < 32); omega)
                    · intro af wF hbF hdF hsF hbaseF hfactF
                      obtain ⟨T, dsF⟩ := af
                      obtain rfl : dsF = _ := hdF
                      have e0 := hbaseF 0 (not_dst (by kernel_rfl))
                      simp only [List.getElem?_toArray, List.getElem?_cons_zero, Option.getD_some] at e0
                      have e1 := hbaseF 1 (not_dst (by kernel_rfl))
                      simp only [List.getElem?_toArray, List.getElem?_cons_zero, List.getElem?_cons_succ, Option.getD_some] at e1
                      have e2 := hbaseF 2 (not_dst (by kernel_rfl))
                      simp only [List.getElem?_toArray, List.getElem?_cons_zero, List.getElem?_cons_succ, Option.getD_some] at e2
                      have e3 := hbaseF 3 (not_dst (by kernel_rfl))
                      simp only [List.getElem?_toArray, List.getElem?_cons_zero, List.getElem?_cons_succ, Option.getD_some] at e3
                      have e4 := hbaseF 4 (not_dst (by kernel_rfl))
                      simp only [List.getElem?_toArray, List.getElem?_cons_zero, List.getElem?_cons_succ, Option.getD_some] at e4
                      have e5 := hbaseF 5 (not_dst (by kernel_rfl))
                      simp only [List.getElem?_toArray, List.getElem?_cons_zero, List.getElem?_cons_succ, Option.getD_some] at e5
                      have e6 := hbaseF 6 (not_dst (by kernel_rfl))
                      simp only [List.getElem?_toArray, List.getElem?_cons_zero, List.getElem?_cons_succ, Option.getD_some] at e6
                      have e7 := hbaseF 7 (not_dst (by kernel_rfl))
                      simp only [List.getElem?_toArray, List.getElem?_cons_zero, List.getElem?_cons_succ, Option.getD_some] at e7
                      have e8 := hbaseF 8 (not_dst (by kernel_rfl))
                      simp only [List.getElem?_toArray, List.getElem?_cons_zero, List.getElem?_cons_succ, Option.getD_some] at e8
                      have e9 := hbaseF 9 (not_dst (by kernel_rfl))
                      simp only [List.getElem?_toArray, List.getElem?_cons_zero, List.getElem?_cons_succ, Option.getD_some] at e9
                      have e10 := hbaseF 10 (not_dst (by kernel_rfl))
                      simp only [List.getElem?_toArray, List.getElem?_cons_zero, List.getElem?_cons_succ, Option.getD_some] at e10
                      have e11 := hbaseF 11 (not_dst (by kernel_rfl))
                      simp only [List.getElem?_toArray, List.getElem?_cons_zero, List.getElem?_cons_succ, Option.getD_some] at e11
                      have e12 := hbaseF 12 (not_dst (by kernel_rfl))
                      simp only [List.getElem?_toArray, List.getElem?_cons_zero, List.getElem?_cons_succ, Option.getD_some] at e12
                      have e13 := hbaseF 13 (not_dst (by kernel_rfl))
                      simp only [List.getElem?_toArray, List.getElem?_cons_zero, List.getElem?_cons_succ, Option.getD_some] at e13
                      have e14 := hbaseF 14 (not_dst (by kernel_rfl))
                      simp only [List.getElem?_toArray, List.getElem?_cons_zero, List.getElem?_cons_succ, Option.getD_some] at e14
                      have e15 := hbaseF 15 (not_dst (by kernel_rfl))
                      simp only [List.getElem?_toArray, List.getElem?_cons_zero, List.getElem?_cons_succ, Option.getD_some] at e15
                      have e16 := hbaseF 16 (not_dst (by kernel_rfl))
                      simp only [List.getElem?_toArray, List.getElem?_cons_zero, List.getElem?_cons_succ, Option.getD_some] at e16
                      have e17 := hbaseF 17 (not_dst (by kernel_rfl))
                      simp only [List.getElem?_toArray, List.getElem?_cons_zero, List.getElem?_cons_succ, Option.getD_some] at e17
                      have e18 := hbaseF 18 (not_dst (by kernel_rfl))
                      simp only [List.getElem?_toArray, List.getElem?_cons_zero, List.getElem?_cons_succ, Option.getD_some] at e18
                      have e19 := hbaseF 19 (not_dst (by kernel_rfl))
                      simp only [List.getElem?_toArray, List.getElem?_cons_zero, List.getElem?_cons_succ, Option.getD_some] at e19
                      have e20 := hbaseF 20 (not_dst (by kernel_rfl))
                      simp only [List.getElem?_toArray, List.getElem?_cons_zero, List.getElem?_cons_succ, Option.getD_some] at e20
                      have e21 := hbaseF 21 (not_dst (by kernel_rfl))
                      simp only [List.getElem?_toArray, List.getElem?_cons_zero, List.getElem?_cons_succ, Option.getD_some] at e21
                      have e22 := hbaseF 22 (not_dst (by kernel_rfl))
                      simp only [List.getElem?_toArray, List.getElem?_cons_zero, List.getElem?_cons_succ, Option.getD_some] at e22
                      have e23 := hbaseF 23 (not_dst (by kernel_rfl))
                      simp only [List.getElem?_toArray, List.getElem?_cons_zero, List.getElem?_cons_succ, Option.getD_some] at e23
                      have e24 := hbaseF 24 (not_dst (by kernel_rfl))
                      simp only [List.getElem?_toArray, List.getElem?_cons_zero, List.getElem?_cons_succ, Option.getD_some] at e24
                      have e25 := hbaseF 25 (not_dst (by kernel_rfl))
                      simp only [List.getElem?_toArray, List.getElem?_cons_zero, List.getElem?_cons_succ, Option.getD_some] at e25
                      have e26 := hbaseF 26 (not_dst (by kernel_rfl))
                      simp only [List.getElem?_toArray, List.getElem?_cons_zero, List.getElem?_cons_succ, Option.getD_some] at e26
                      have e27 := hbaseF 27 (not_dst (by kernel_rfl))
                      simp only [List.getElem?_toArray, List.getElem?_cons_zero, List.getElem?_cons_succ, Option.getD_some] at e27
                      have e28 := hbaseF 28 (not_dst (by kernel_rfl))
                      simp only [List.getElem?_toArray, List.getElem?_cons_zero, List.getElem?_cons_succ, Option.getD_some] at e28
                      have e29 := hbaseF 29 (not_dst (by kernel_rfl))
                      simp only [List.getElem?_toArray, List.getElem?_cons_zero, List.getElem?_cons_succ, Option.getD_some] at e29
                      have e30 := hbaseF 30 (not_dst (by kernel_rfl))
                      simp only [List.getElem?_toArray, List.getElem?_cons_zero, List.getElem?_cons_succ, Option.getD_some] at e30
                      have e31 := hbaseF 31 (not_dst (by kernel_rfl))
                      simp only [List.getElem?_toArray, List.getElem?_cons_zero, List.getElem?_cons_succ, Option.getD_some] at e31
                      have e64 := hbaseF 64 (not_dst (by kernel_rfl))
                      simp only [List.getElem?_toArray, List.getElem?_cons_zero, List.getElem?_cons_succ, Option.getD_some] at e64
                      have e63 := hfactF 31 63 (by decide) rfl
                      replace e63 : T[63]?.getD undef = .bool true := e63
                      clear hbaseF hfactF
                      have hT : T = #[T[0]?.getD undef, T[1]?.getD undef, T[2]?.getD undef, T[3]?.getD undef, T[4]?.getD undef, T[5]?.getD undef, T[6]?.getD undef, T[7]?.getD undef, T[8]?.getD undef, T[9]?.getD undef, T[10]?.getD undef, T[11]?.getD undef, T[12]?.getD undef, T[13]?.getD undef, T[14]?.getD undef, T[15]?.getD undef, T[16]?.getD undef, T[17]?.getD undef, T[18]?.getD undef, T[19]?.getD undef, T[20]?.getD undef, T[21]?.getD undef, T[22]?.getD undef, T[23]?.getD undef, T[24]?.getD undef, T[25]?.getD undef, T[26]?.getD undef, T[27]?.getD undef, T[28]?.getD undef, T[29]?.getD undef, T[30]?.getD undef, T[31]?.getD undef, T[32]?.getD undef, T[33]?.getD undef, T[34]?.getD undef, T[35]?.getD undef, T[36]?.getD undef, T[37]?.getD undef, T[38]?.getD undef, T[39]?.getD undef, T[40]?.getD undef, T[41]?.getD undef, T[42]?.getD undef, T[43]?.getD undef, T[44]?.getD undef, T[45]?.getD undef, T[46]?.getD undef, T[47]?.getD undef, T[48]?.getD undef, T[49]?.getD undef, T[50]?.getD undef, T[51]?.getD undef, T[52]?.getD undef, T[53]?.getD undef, T[54]?.getD undef, T[55]?.getD undef, T[56]?.getD undef, T[57]?.getD undef, T[58]?.getD undef, T[59]?.getD undef, T[60]?.getD undef, T[61]?.getD undef, T[62]?.getD undef, T[63]?.getD undef, T[64]?.getD undef] := arr_eq T 65 hsF
                      clear hsF
                      rw [e0] at hT; clear e0
                      rw [e1] at hT; clear e1
                      rw [e2] at hT; clear e2
                      rw [e3] at hT; clear e3
                      rw [e4] at hT; clear e4
                      rw [e5] at hT; clear e5
                      rw [e6] at hT; clear e6
                      rw [e7] at hT; clear e7
                      rw [e8] at hT; clear e8
                      rw [e9] at hT; clear e9
                      rw [e10] at hT; clear e10
                      rw [e11] at hT; clear e11
                      rw [e12] at hT; clear e12
                      rw [e13] at hT; clear e13
                      rw [e14] at hT; clear e14
                      rw [e15] at hT; clear e15
                      rw [e16] at hT; clear e16
                      rw [e17] at hT; clear e17
                      rw [e18] at hT; clear e18
                      rw [e19] at hT; clear e19
                      rw [e20] at hT; clear e20
                      rw [e21] at hT; clear e21
                      rw [e22] at hT; clear e22
                      rw [e23] at hT; clear e23
                      rw [e24] at hT; clear e24
                      rw [e25] at hT; clear e25
                      rw [e26] at hT; clear e26
                      rw [e27] at hT; clear e27
                      rw [e28] at hT; clear e28
                      rw [e29] at hT; clear e29
                      rw [e30] at hT; clear e30
                      rw [e31] at hT; clear e31
                      generalize T[32]?.getD undef = u32 at hT
                      generalize T[33]?.getD undef = u33 at hT
                      generalize T[34]?.getD undef = u34 at hT
                      generalize T[35]?.getD undef = u35 at hT
                      generalize T[36]?.getD undef = u36 at hT
                      generalize T[37]?.getD undef = u37 at hT
                      generalize T[38]?.getD undef = u38 at hT
                      generalize T[39]?.getD undef = u39 at hT
                      generalize T[40]?.getD undef = u40 at hT
                      generalize T[41]?.getD undef = u41 at hT
                      generalize T[42]?.getD undef = u42 at hT
                      generalize T[43]?.getD undef = u43 at hT
                      generalize T[44]?.getD undef = u44 at hT
                      generalize T[45]?.getD undef = u45 at hT
                      generalize T[46]?.getD undef = u46 at hT
                      generalize T[47]?.getD undef = u47 at hT
                      generalize T[48]?.getD undef = u48 at hT
                      generalize T[49]?.getD undef = u49 at hT
                      generalize T[50]?.getD undef = u50 at hT
                      generalize T[51]?.getD undef = u51 at hT
                      generalize T[52]?.getD undef = u52 at hT
                      generalize T[53]?.getD undef = u53 at hT
                      generalize T[54]?.getD undef = u54 at hT
                      generalize T[55]?.getD undef = u55 at hT
                      generalize T[56]?.getD undef = u56 at hT
                      generalize T[57]?.getD undef = u57 at hT
                      generalize T[58]?.getD undef = u58 at hT
                      generalize T[59]?.getD undef = u59 at hT
                      generalize T[60]?.getD undef = u60 at hT
                      generalize T[61]?.getD undef = u61 at hT
                      generalize T[62]?.getD undef = u62 at hT
                      rw [e63] at hT; clear e63
                      rw [e64] at hT; clear e64
                      subst hT
                      go_wp2_with fail
                      go_ret
                      exact ⟨by rw [hno.out]; rfl, (by (have q_hbF := Below.size hbF; (try simp at q_hbF); have q_ba := Below.size ba; (try simp at q_ba); repeat (first | exact Below.refl _ _ | (refine Below.trans ?_ (Below.mono hbF (by first | omega | (simp; omega) | simp))) | (refine Below.trans ?_ (Below.mono ba (by first | omega | (simp; omega) | simp))) | (refine Below.setCell ?_ (by first | omega | (simp; omega) | simp) _) | (refine Below.alloc ?_ (by first | omega | (simp; omega) | simp) _) | apply Below.drew | apply below_drewN)))⟩
                  · have hlast' : K' < K := by omega
                    have hy := Lib.hid (hyes.out ⟨by omega, hKS, H256.out⟩)
                    have hd29 : decide (K ≤ K') = false := decide_eq_false hlast
                    clear hKx
                    go_wp2_with fail
                    refine wp_flows [(fun y_ _ => y_ = .pointer (some ⟨wr.heap.size, 0, none⟩)), (fun y_ _ => y_ = .int .i64 K), (fun y_ _ => y_ = .bool false), (fun y_ _ => y_ = .bool false), (fun y_ _ => y_ = .pointer (some ⟨wr.heap.size, 0, none⟩)), (fun y_ _ => y_ = .int .i64 K), (fun y_ _ => y_ = .agg #[.int .i64 p, .int .i64 t]), (fun y_ _ => y_ = .int .i64 S), (fun y_ _ => y_ = .bool false), (fun y_ _ => y_ = .bool false), (fun y_ _ => y_ = .bool false), (fun y_ _ => y_ = .pointer (some ⟨wr.heap.size, 1, none⟩)), (fun y_ _ => y_ = .slice Ad nd cd), (fun y_ _ => y_ = .int .i64 (nd : Int)), (fun y_ _ => y_ = .bool false), (fun y_ _ => y_ = .bool false), (fun y_ _ => y_ = .bool false), (fun y_ _ => y_ = .int .i64 (k : Int)), (fun y_ _ => y_ = .bool true), (fun y_ _ => y_ = .bool true), (fun y_ _ => y_ = .pointer (some ⟨w.heap.size + 1, 1, none⟩)), (fun y_ _ => y_ = .slice (some ⟨b, off, none⟩) n c), (fun y_ _ => y_ = .int .i64 (k : Int)), (fun y_ _ => y_ = .int .i64 ((k - 1 : Nat) : Int)), (fun y_ _ => y_ = .pointer (some ⟨b, off + (k - 1) * 2, none⟩)), (fun y_ _ => y_ = .pointer (some ⟨b, off + (k - 1) * 2, none⟩)), (fun y_ _ => y_ = .int .i64 K'), (fun y_ _ => y_ = .pointer (some ⟨wr.heap.size, 0, none⟩)), (fun y_ _ => y_ = .int .i64 K), (fun y_ _ => y_ = .bool false), (fun y_ _ => y_ = .bool false), (fun y_ _ => y_ = .bool false)] (by kernel_rfl) ⟨Stab.eq _, Stab.eq _, Stab.eq _, Stab.eq _, Stab.eq _, Stab.eq _, Stab.eq _, Stab.eq _, Stab.eq _, Stab.eq _, Stab.eq _, Stab.eq _, Stab.eq _, Stab.eq _, Stab.eq _, Stab.eq _, Stab.eq _, Stab.eq _, Stab.eq _, Stab.eq _, Stab.eq _, Stab.eq _, Stab.eq _, Stab.eq _, Stab.eq _, Stab.eq _, Stab.eq _, Stab.eq _, Stab.eq _, Stab.eq _, Stab.eq _, Stab.eq _, trivial⟩ (by kernel_rfl) (by rfl) ?_ ?_
                    · intro kq hkq
                      match kq, hkq with
                      | 0, _ =>
                        refine StepOk.plain _ 32 rfl rfl rfl [(6, none)] (by kernel_rfl) (fun af wf hbw hf Kf hKf => ?_)
                        obtain ⟨g6, _⟩ := hf
                        have h6 : af.tmps[6]?.getD undef = .pointer (some ⟨wr.heap.size, 0, none⟩) := g6
                        clear g6
                        go_simp
                        exact hKf _ _ (Below.refl _ _) rfl
                      | 1, _ =>
                        refine StepOk.plain _ 33 rfl rfl rfl [(32, some 0)] (by kernel_rfl) (fun af wf hbw hf Kf hKf => ?_)
                        obtain ⟨g32, _⟩ := hf
                        have h32 : af.tmps[32]?.getD undef = .pointer (some ⟨wr.heap.size, 0, none⟩) := g32
                        clear g32
                        have cB0 := (Blk.on (Blk.drew (hPa)) hbw).cell
                        have cB1 := (Blk.on (Blk.drew (hQa)) hbw).cell
                        have cB2 := (Blk.on (Blk.drew (Bx)) hbw).cell
                        go_simp
                        exact hKf _ _ (Below.refl _ _) rfl
                      | 2, _ =>
                        refine StepOk.plain _ 34 rfl rfl rfl [(33, some 1)] (by kernel_rfl) (fun af wf hbw hf Kf hKf => ?_)
                        obtain ⟨g33, _⟩ := hf
                        have h33 : af.tmps[33]?.getD undef = .int .i64 K := g33
                        clear g33
                        go_simp
                        exact hKf _ _ (Below.refl _ _) rfl
                      | 3, _ =>
                        refine StepOk.plain _ 35 rfl rfl rfl [(34, some 2)] (by kernel_rfl) (fun af wf hbw hf Kf hKf => ?_)
                        obtain ⟨g34, _⟩ := hf
                        have h34 : af.tmps[34]?.getD undef = .bool false := g34
                        clear g34
                        go_simp
                        exact hKf _ _ (Below.refl _ _) rfl
                      | 4, _ =>
                        refine StepOk.yes _ 36 rfl rfl rfl rfl (fun _ _ h => h) [(6, none)] (by kernel_rfl) (fun af wf hbw hf Kf hKf => ?_)
                        obtain ⟨g6, _⟩ := hf
                        have h6 : af.tmps[6]?.getD undef = .pointer (some ⟨wr.heap.size, 0, none⟩) := g6
                        clear g6
                        go_simp
                        exact hKf _ _ (Below.refl _ _) rfl
                      | 5, _ =>
                        refine StepOk.yes _ 37 rfl rfl rfl rfl (fun _ _ h => h) [(36, some 4)] (by kernel_rfl) (fun af wf hbw hf Kf hKf => ?_)
                        obtain ⟨g36, _⟩ := hf
                        have h36 : af.tmps[36]?.getD undef = .pointer (some ⟨wr.heap.size, 0, none⟩) := g36
                        clear g36
                        have cB0 := (Blk.on (Blk.drew (hPa)) hbw).cell
                        have cB1 := (Blk.on (Blk.drew (hQa)) hbw).cell
                        have cB2 := (Blk.on (Blk.drew (Bx)) hbw).cell
                        go_simp
                        exact hKf _ _ (Below.refl _ _) rfl
                      | 6, _ =>
                        refine StepOk.yes _ 38 rfl rfl rfl rfl (fun _ _ h => h) [(2, none)] (by kernel_rfl) (fun af wf hbw hf Kf hKf => ?_)
                        obtain ⟨g2, _⟩ := hf
                        have h2 : af.tmps[2]?.getD undef = .pointer (some ⟨w.heap.size, 0, none⟩) := g2
                        clear g2
                        have cB0 := (Blk.on (Blk.drew (hPa)) hbw).cell
                        have cB1 := (Blk.on (Blk.drew (hQa)) hbw).cell
                        have cB2 := (Blk.on (Blk.drew (Bx)) hbw).cell
                        go_simp
                        exact hKf _ _ (Below.refl _ _) rfl
                      | 7, _ =>
                        refine StepOk.yes _ 39 rfl rfl rfl rfl (fun _ _ h => h) [(38, some 6)] (by kernel_rfl) (fun af wf hbw hf Kf hKf => ?_)
                        obtain ⟨g38, _⟩ := hf
                        have h38 : af.tmps[38]?.getD undef = .agg #[.int .i64 p, .int .i64 t] := g38
                        clear g38
                        go_simp
                        refine (rsealed_any p t _ g2 g3).mono ?_
                        rintro e wN ⟨rfl, hb⟩
                        exact hKf _ _ (hb) (congrArg (Value.int .i64) HS.out.symm)
                      | 8, _ =>
                        refine StepOk.yes _ 40 rfl rfl rfl rfl (fun _ _ h => h) [(37, some 5), (39, some 7)] (by kernel_rfl) (fun af wf hbw hf Kf hKf => ?_)
                        obtain ⟨g37, g39, _⟩ := hf
                        have h37 : af.tmps[37]?.getD undef = .int .i64 K := g37
                        have h39 : af.tmps[39]?.getD undef = .int .i64 S := g39
                        clear g37 g39
                        go_simp
                        exact hKf _ _ (Below.refl _ _) rfl
                      | 9, _ =>
                        refine StepOk.plain _ 41 rfl rfl rfl [(35, some 3), (40, some 8)] (by kernel_rfl) (fun af wf hbw hf Kf hKf => ?_)
                        obtain ⟨g35, g40, _⟩ := hf
                        have h35 : af.tmps[35]?.getD undef = .bool false := g35
                        have h40 : af.tmps[40]?.getD undef = .bool false := g40
                        clear g35 g40
                        go_simp
                        exact hKf _ _ (Below.refl _ _) rfl
                      | 10, _ =>
                        refine StepOk.plain _ 42 rfl rfl rfl [(41, some 9)] (by kernel_rfl) (fun af wf hbw hf Kf hKf => ?_)
                        obtain ⟨g41, _⟩ := hf
                        have h41 : af.tmps[41]?.getD undef = .bool false := g41
                        clear g41
                        go_simp
                        exact hKf _ _ (Below.refl _ _) rfl
                      | 11, _ =>
                        refine StepOk.yes _ 43 rfl rfl rfl rfl (fun _ _ h => h) [(6, none)] (by kernel_rfl) (fun af wf hbw hf Kf hKf => ?_)
                        obtain ⟨g6, _⟩ := hf
                        have h6 : af.tmps[6]?.getD undef = .pointer (some ⟨wr.heap.size, 0, none⟩) := g6
                        clear g6
                        go_simp
                        exact hKf _ _ (Below.refl _ _) rfl
                      | 12, _ =>
                        refine StepOk.yes _ 44 rfl rfl rfl rfl (fun _ _ h => h) [(43, some 11)] (by kernel_rfl) (fun af wf hbw hf Kf hKf => ?_)
                        obtain ⟨g43, _⟩ := hf
                        have h43 : af.tmps[43]?.getD undef = .pointer (some ⟨wr.heap.size, 1, none⟩) := g43
                        clear g43
                        have cB0 := (Blk.on (Blk.drew (hPa)) hbw).cell
                        have cB1 := (Blk.on (Blk.drew (hQa)) hbw).cell
                        have cB2 := (Blk.on (Blk.drew (Bx)) hbw).cell
                        go_simp
                        exact hKf _ _ (Below.refl _ _) rfl
                      | 13, _ =>
                        refine StepOk.yes _ 45 rfl rfl rfl rfl (fun _ _ h => h) [(44, some 12)] (by kernel_rfl) (fun af wf hbw hf Kf hKf => ?_)
                        obtain ⟨g44, _⟩ := hf
                        have h44 : af.tmps[44]?.getD undef = .slice Ad nd cd := g44
                        clear g44
                        go_simp
                        exact hKf _ _ (Below.refl _ _) rfl
                      | 14, _ =>
                        refine StepOk.yes _ 46 rfl rfl rfl rfl (fun _ _ h => h) [(45, some 13)] (by kernel_rfl) (fun af wf hbw hf Kf hKf => ?_)
                        obtain ⟨g45, _⟩ := hf
                        have h45 : af.tmps[45]?.getD undef = .int .i64 (nd : Int) := g45
                        clear g45
                        go_simp
                        exact hKf _ _ (Below.refl _ _) rfl
                      | 15, _ =>
                        refine StepOk.plain _ 47 rfl rfl rfl [(42, some 10), (46, some 14)] (by kernel_rfl) (fun af wf hbw hf Kf hKf => ?_)
                        obtain ⟨g42, g46, _⟩ := hf
                        have h42 : af.tmps[42]?.getD undef = .bool false := g42
                        have h46 : af.tmps[46]?.getD undef = .bool false := g46
                        clear g42 g46
                        go_simp
                        exact hKf _ _ (Below.refl _ _) rfl
                      | 16, _ =>
                        refine StepOk.plain _ 48 rfl rfl rfl [(47, some 15)] (by kernel_rfl) (fun af wf hbw hf Kf hKf => ?_)
                        obtain ⟨g47, _⟩ := hf
                        have h47 : af.tmps[47]?.getD undef = .bool false := g47
                        clear g47
                        go_simp
                        exact hKf _ _ (Below.refl _ _) rfl
                      | 17, _ =>
                        refine StepOk.yes _ 49 rfl rfl rfl rfl (fun _ _ h => h) [(5, none)] (by kernel_rfl) (fun af wf hbw hf Kf hKf => ?_)
                        obtain ⟨g5, _⟩ := hf
                        have h5 : af.tmps[5]?.getD undef = .int .i64 (k : Int) := g5
                        clear g5
                        go_simp
                        exact hKf _ _ (Below.refl _ _) rfl
                      | 18, _ =>
                        refine StepOk.yes _ 50 rfl rfl rfl rfl (fun _ _ h => h) [(49, some 17)] (by kernel_rfl) (fun af wf hbw hf Kf hKf => ?_)
                        obtain ⟨g49, _⟩ := hf
                        have h49 : af.tmps[49]?.getD undef = .int .i64 (k : Int) := g49
                        clear g49
                        go_simp
                        exact hKf _ _ (Below.refl _ _) rfl
                      | 19, _ =>
                        refine StepOk.yes _ 51 rfl rfl rfl rfl (fun _ _ h => h) [(50, some 18)] (by kernel_rfl) (fun af wf hbw hf Kf hKf => ?_)
                        obtain ⟨g50, _⟩ := hf
                        have h50 : af.tmps[50]?.getD undef = .bool true := g50
                        clear g50
                        go_simp
                        exact hKf _ _ (Below.refl _ _) rfl
                      | 20, _ =>
                        refine StepOk.yes _ 52 rfl rfl rfl rfl (fun _ _ h => h) [(3, none)] (by kernel_rfl) (fun af wf hbw hf Kf hKf => ?_)
                        obtain ⟨g3, _⟩ := hf
                        have h3 : af.tmps[3]?.getD undef = .pointer (some ⟨w.heap.size + 1, 0, none⟩) := g3
                        clear g3
                        go_simp
                        exact hKf _ _ (Below.refl _ _) rfl
                      | 21, _ =>
                        refine StepOk.yes _ 53 rfl rfl rfl rfl (fun _ _ h => h) [(52, some 20)] (by kernel_rfl) (fun af wf hbw hf Kf hKf => ?_)
                        obtain ⟨g52, _⟩ := hf
                        have h52 : af.tmps[52]?.getD undef = .pointer (some ⟨w.heap.size + 1, 1, none⟩) := g52
                        clear g52
                        have cB0 := (Blk.on (Blk.drew (hPa)) hbw).cell
                        have cB1 := (Blk.on (Blk.drew (hQa)) hbw).cell
                        have cB2 := (Blk.on (Blk.drew (Bx)) hbw).cell
                        go_simp
                        exact hKf _ _ (Below.refl _ _) rfl
                      | 22, _ =>
                        refine StepOk.yes _ 54 rfl rfl rfl rfl (fun _ _ h => h) [(5, none)] (by kernel_rfl) (fun af wf hbw hf Kf hKf => ?_)
                        obtain ⟨g5, _⟩ := hf
                        have h5 : af.tmps[5]?.getD undef = .int .i64 (k : Int) := g5
                        clear g5
                        go_simp
                        exact hKf _ _ (Below.refl _ _) rfl
                      | 23, _ =>
                        refine StepOk.yes _ 55 rfl rfl rfl rfl (fun _ _ h => h) [(54, some 22)] (by kernel_rfl) (fun af wf hbw hf Kf hKf => ?_)
                        obtain ⟨g54, _⟩ := hf
                        have h54 : af.tmps[54]?.getD undef = .int .i64 (k : Int) := g54
                        clear g54
                        have hsu : (k : Int) - 1 = ((k - 1 : Nat) : Int) := by omega
                        have hwu : IntKind.i64.wrap ((k - 1 : Nat) : Int) = ((k - 1 : Nat) : Int) := IntWalk.i64_in _ (by omega)
                        have hwr : IntKind.i64.wrap ((k : Int) - 1) = (k : Int) - 1 := IntWalk.i64_in _ (by omega)
                        go_simp
                        exact hKf _ _ (Below.refl _ _) rfl
                      | 24, _ =>
                        refine StepOk.yes _ 56 rfl rfl rfl rfl (fun _ _ h => h) [(53, some 21), (55, some 23)] (by kernel_rfl) (fun af wf hbw hf Kf hKf => ?_)
                        obtain ⟨g53, g55, _⟩ := hf
                        have h53 : af.tmps[53]?.getD undef = .slice (some ⟨b, off, none⟩) n c := g53
                        have h55 : af.tmps[55]?.getD undef = .int .i64 ((k - 1 : Nat) : Int) := g55
                        clear g53 g55
                        have hlt24 : ((k - 1 : Nat) : Int) < n := by omega
                        go_simp
                        exact hKf _ _ (Below.refl _ _) rfl
                      | 25, _ =>
                        refine StepOk.yes _ 57 rfl rfl rfl rfl (fun _ _ h => h) [(56, some 24)] (by kernel_rfl) (fun af wf hbw hf Kf hKf => ?_)
                        obtain ⟨g56, _⟩ := hf
                        have h56 : af.tmps[56]?.getD undef = .pointer (some ⟨b, off + (k - 1) * 2, none⟩) := g56
                        clear g56
                        go_simp
                        exact hKf _ _ (Below.refl _ _) rfl
                      | 26, _ =>
                        refine StepOk.yes _ 58 rfl rfl rfl rfl (fun _ _ h => h) [(57, some 25)] (by kernel_rfl) (fun af wf hbw hf Kf hKf => ?_)
                        obtain ⟨g57, _⟩ := hf
                        have h57 : af.tmps[57]?.getD undef = .pointer (some ⟨b, off + (k - 1) * 2, none⟩) := g57
                        clear g57
                        have cB0 := (Blk.on (Blk.drew (hPa)) hbw).cell
                        have cB1 := (Blk.on (Blk.drew (hQa)) hbw).cell
                        have cB2 := (Blk.on (Blk.drew (Bx)) hbw).cell
                        have hcx := (Below.cell (p := ⟨b, off + (k - 1) * 2, none⟩) hbw hb0).trans cprev
                        go_simp
                        exact hKf _ _ (Below.refl _ _) rfl
                      | 27, _ =>
                        refine StepOk.yes _ 59 rfl rfl rfl rfl (fun _ _ h => h) [(6, none)] (by kernel_rfl) (fun af wf hbw hf Kf hKf => ?_)
                        obtain ⟨g6, _⟩ := hf
                        have h6 : af.tmps[6]?.getD undef = .pointer (some ⟨wr.heap.size, 0, none⟩) := g6
                        clear g6
                        go_simp
                        exact hKf _ _ (Below.refl _ _) rfl
                      | 28, _ =>
                        refine StepOk.yes _ 60 rfl rfl rfl rfl (fun _ _ h => h) [(59, some 27)] (by kernel_rfl) (fun af wf hbw hf Kf hKf => ?_)
                        obtain ⟨g59, _⟩ := hf
                        have h59 : af.tmps[59]?.getD undef = .pointer (some ⟨wr.heap.size, 0, none⟩) := g59
                        clear g59
                        have cB0 := (Blk.on (Blk.drew (hPa)) hbw).cell
                        have cB1 := (Blk.on (Blk.drew (hQa)) hbw).cell
                        have cB2 := (Blk.on (Blk.drew (Bx)) hbw).cell
                        go_simp
                        exact hKf _ _ (Below.refl _ _) rfl
                      | 29, _ =>
                        refine StepOk.yes _ 61 rfl rfl rfl rfl (fun _ _ h => h) [(58, some 26), (60, some 28)] (by kernel_rfl) (fun af wf hbw hf Kf hKf => ?_)
                        obtain ⟨g58, g60, _⟩ := hf
                        have h58 : af.tmps[58]?.getD undef = .int .i64 K' := g58
                        have h60 : af.tmps[60]?.getD undef = .int .i64 K := g60
                        clear g58 g60
                        go_simp
                        exact hKf _ _ (Below.refl _ _) rfl
                      | 30, _ =>
                        refine StepOk.yes _ 62 rfl rfl rfl rfl (fun _ _ h => h) [(51, some 19), (61, some 29)] (by kernel_rfl) (fun af wf hbw hf Kf hKf => ?_)
                        obtain ⟨g51, g61, _⟩ := hf
                        have h51 : af.tmps[51]?.getD undef = .bool true := g51
                        have h61 : af.tmps[61]?.getD undef = .bool false := g61
                        clear g51 g61
                        go_simp
                        exact hKf _ _ (Below.refl _ _) rfl
                      | 31, _ =>
                        refine StepOk.plain _ 63 rfl rfl rfl [(48, some 16), (62, some 30)] (by kernel_rfl) (fun af wf hbw hf Kf hKf => ?_)
                        obtain ⟨g48, g62, _⟩ := hf
                        have h48 : af.tmps[48]?.getD undef = .bool false := g48
                        have h62 : af.tmps[62]?.getD undef = .bool false := g62
                        clear g48 g62
                        go_simp
                        exact hKf _ _ (Below.refl _ _) rfl
                      | i + 32, h => exact absurd h (by show ¬ (i + 32 < 32); omega)
                    · intro af wF hbF hdF hsF hbaseF hfactF
                      obtain ⟨T, dsF⟩ := af
                      obtain rfl : dsF = _ := hdF
                      have e0 := hbaseF 0 (not_dst (by kernel_rfl))
                      simp only [List.getElem?_toArray, List.getElem?_cons_zero, Option.getD_some] at e0
                      have e1 := hbaseF 1 (not_dst (by kernel_rfl))
                      simp only [List.getElem?_toArray, List.getElem?_cons_zero, List.getElem?_cons_succ, Option.getD_some] at e1
                      have e2 := hbaseF 2 (not_dst (by kernel_rfl))
                      simp only [List.getElem?_toArray, List.getElem?_cons_zero, List.getElem?_cons_succ, Option.getD_some] at e2
                      have e3 := hbaseF 3 (not_dst (by kernel_rfl))
                      simp only [List.getElem?_toArray, List.getElem?_cons_zero, List.getElem?_cons_succ, Option.getD_some] at e3
                      have e4 := hbaseF 4 (not_dst (by kernel_rfl))
                      simp only [List.getElem?_toArray, List.getElem?_cons_zero, List.getElem?_cons_succ, Option.getD_some] at e4
                      have e5 := hbaseF 5 (not_dst (by kernel_rfl))
                      simp only [List.getElem?_toArray, List.getElem?_cons_zero, List.getElem?_cons_succ, Option.getD_some] at e5
                      have e6 := hbaseF 6 (not_dst (by kernel_rfl))
                      simp only [List.getElem?_toArray, List.getElem?_cons_zero, List.getElem?_cons_succ, Option.getD_some] at e6
                      have e7 := hbaseF 7 (not_dst (by kernel_rfl))
                      simp only [List.getElem?_toArray, List.getElem?_cons_zero, List.getElem?_cons_succ, Option.getD_some] at e7
                      have e8 := hbaseF 8 (not_dst (by kernel_rfl))
                      simp only [List.getElem?_toArray, List.getElem?_cons_zero, List.getElem?_cons_succ, Option.getD_some] at e8
                      have e9 := hbaseF 9 (not_dst (by kernel_rfl))
                      simp only [List.getElem?_toArray, List.getElem?_cons_zero, List.getElem?_cons_succ, Option.getD_some] at e9
                      have e10 := hbaseF 10 (not_dst (by kernel_rfl))
                      simp only [List.getElem?_toArray, List.getElem?_cons_zero, List.getElem?_cons_succ, Option.getD_some] at e10
                      have e11 := hbaseF 11 (not_dst (by kernel_rfl))
                      simp only [List.getElem?_toArray, List.getElem?_cons_zero, List.getElem?_cons_succ, Option.getD_some] at e11
                      have e12 := hbaseF 12 (not_dst (by kernel_rfl))
                      simp only [List.getElem?_toArray, List.getElem?_cons_zero, List.getElem?_cons_succ, Option.getD_some] at e12
                      have e13 := hbaseF 13 (not_dst (by kernel_rfl))
                      simp only [List.getElem?_toArray, List.getElem?_cons_zero, List.getElem?_cons_succ, Option.getD_some] at e13
                      have e14 := hbaseF 14 (not_dst (by kernel_rfl))
                      simp only [List.getElem?_toArray, List.getElem?_cons_zero, List.getElem?_cons_succ, Option.getD_some] at e14
                      have e15 := hbaseF 15 (not_dst (by kernel_rfl))
                      simp only [List.getElem?_toArray, List.getElem?_cons_zero, List.getElem?_cons_succ, Option.getD_some] at e15
                      have e16 := hbaseF 16 (not_dst (by kernel_rfl))
                      simp only [List.getElem?_toArray, List.getElem?_cons_zero, List.getElem?_cons_succ, Option.getD_some] at e16
                      have e17 := hbaseF 17 (not_dst (by kernel_rfl))
                      simp only [List.getElem?_toArray, List.getElem?_cons_zero, List.getElem?_cons_succ, Option.getD_some] at e17
                      have e18 := hbaseF 18 (not_dst (by kernel_rfl))
                      simp only [List.getElem?_toArray, List.getElem?_cons_zero, List.getElem?_cons_succ, Option.getD_some] at e18
                      have e19 := hbaseF 19 (not_dst (by kernel_rfl))
                      simp only [List.getElem?_toArray, List.getElem?_cons_zero, List.getElem?_cons_succ, Option.getD_some] at e19
                      have e20 := hbaseF 20 (not_dst (by kernel_rfl))
                      simp only [List.getElem?_toArray, List.getElem?_cons_zero, List.getElem?_cons_succ, Option.getD_some] at e20
                      have e21 := hbaseF 21 (not_dst (by kernel_rfl))
                      simp only [List.getElem?_toArray, List.getElem?_cons_zero, List.getElem?_cons_succ, Option.getD_some] at e21
                      have e22 := hbaseF 22 (not_dst (by kernel_rfl))
                      simp only [List.getElem?_toArray, List.getElem?_cons_zero, List.getElem?_cons_succ, Option.getD_some] at e22
                      have e23 := hbaseF 23 (not_dst (by kernel_rfl))
                      simp only [List.getElem?_toArray, List.getElem?_cons_zero, List.getElem?_cons_succ, Option.getD_some] at e23
                      have e24 := hbaseF 24 (not_dst (by kernel_rfl))
                      simp only [List.getElem?_toArray, List.getElem?_cons_zero, List.getElem?_cons_succ, Option.getD_some] at e24
                      have e25 := hbaseF 25 (not_dst (by kernel_rfl))
                      simp only [List.getElem?_toArray, List.getElem?_cons_zero, List.getElem?_cons_succ, Option.getD_some] at e25
                      have e26 := hbaseF 26 (not_dst (by kernel_rfl))
                      simp only [List.getElem?_toArray, List.getElem?_cons_zero, List.getElem?_cons_succ, Option.getD_some] at e26
                      have e27 := hbaseF 27 (not_dst (by kernel_rfl))
                      simp only [List.getElem?_toArray, List.getElem?_cons_zero, List.getElem?_cons_succ, Option.getD_some] at e27
                      have e28 := hbaseF 28 (not_dst (by kernel_rfl))
                      simp only [List.getElem?_toArray, List.getElem?_cons_zero, List.getElem?_cons_succ, Option.getD_some] at e28
                      have e29 := hbaseF 29 (not_dst (by kernel_rfl))
                      simp only [List.getElem?_toArray, List.getElem?_cons_zero, List.getElem?_cons_succ, Option.getD_some] at e29
                      have e30 := hbaseF 30 (not_dst (by kernel_rfl))
                      simp only [List.getElem?_toArray, List.getElem?_cons_zero, List.getElem?_cons_succ, Option.getD_some] at e30
                      have e31 := hbaseF 31 (not_dst (by kernel_rfl))
                      simp only [List.getElem?_toArray, List.getElem?_cons_zero, List.getElem?_cons_succ, Option.getD_some] at e31
                      have e64 := hbaseF 64 (not_dst (by kernel_rfl))
                      simp only [List.getElem?_toArray, List.getElem?_cons_zero, List.getElem?_cons_succ, Option.getD_some] at e64
                      have e63 := hfactF 31 63 (by decide) rfl
                      replace e63 : T[63]?.getD undef = .bool false := e63
                      clear hbaseF hfactF
                      have hT : T = #[T[0]?.getD undef, T[1]?.getD undef, T[2]?.getD undef, T[3]?.getD undef, T[4]?.getD undef, T[5]?.getD undef, T[6]?.getD undef, T[7]?.getD undef, T[8]?.getD undef, T[9]?.getD undef, T[10]?.getD undef, T[11]?.getD undef, T[12]?.getD undef, T[13]?.getD undef, T[14]?.getD undef, T[15]?.getD undef, T[16]?.getD undef, T[17]?.getD undef, T[18]?.getD undef, T[19]?.getD undef, T[20]?.getD undef, T[21]?.getD undef, T[22]?.getD undef, T[23]?.getD undef, T[24]?.getD undef, T[25]?.getD undef, T[26]?.getD undef, T[27]?.getD undef, T[28]?.getD undef, T[29]?.getD undef, T[30]?.getD undef, T[31]?.getD undef, T[32]?.getD undef, T[33]?.getD undef, T[34]?.getD undef, T[35]?.getD undef, T[36]?.getD undef, T[37]?.getD undef, T[38]?.getD undef, T[39]?.getD undef, T[40]?.getD undef, T[41]?.getD undef, T[42]?.getD undef, T[43]?.getD undef, T[44]?.getD undef, T[45]?.getD undef, T[46]?.getD undef, T[47]?.getD undef, T[48]?.getD undef, T[49]?.getD undef, T[50]?.getD undef, T[51]?.getD undef, T[52]?.getD undef, T[53]?.getD undef, T[54]?.getD undef, T[55]?.getD undef, T[56]?.getD undef, T[57]?.getD undef, T[58]?.getD undef, T[59]?.getD undef, T[60]?.getD undef, T[61]?.getD undef, T[62]?.getD undef, T[63]?.getD undef, T[64]?.getD undef] := arr_eq T 65 hsF
                      clear hsF
                      rw [e0] at hT; clear e0
                      rw [e1] at hT; clear e1
                      rw [e2] at hT; clear e2
                      rw [e3] at hT; clear e3
                      rw [e4] at hT; clear e4
                      rw [e5] at hT; clear e5
                      rw [e6] at hT; clear e6
                      rw [e7] at hT; clear e7
                      rw [e8] at hT; clear e8
                      rw [e9] at hT; clear e9
                      rw [e10] at hT; clear e10
                      rw [e11] at hT; clear e11
                      rw [e12] at hT; clear e12
                      rw [e13] at hT; clear e13
                      rw [e14] at hT; clear e14
                      rw [e15] at hT; clear e15
                      rw [e16] at hT; clear e16
                      rw [e17] at hT; clear e17
                      rw [e18] at hT; clear e18
                      rw [e19] at hT; clear e19
                      rw [e20] at hT; clear e20
                      rw [e21] at hT; clear e21
                      rw [e22] at hT; clear e22
                      rw [e23] at hT; clear e23
                      rw [e24] at hT; clear e24
                      rw [e25] at hT; clear e25
                      rw [e26] at hT; clear e26
                      rw [e27] at hT; clear e27
                      rw [e28] at hT; clear e28
                      rw [e29] at hT; clear e29
                      rw [e30] at hT; clear e30
                      rw [e31] at hT; clear e31
                      generalize T[32]?.getD undef = u32 at hT
                      generalize T[33]?.getD undef = u33 at hT
                      generalize T[34]?.getD undef = u34 at hT
                      generalize T[35]?.getD undef = u35 at hT
                      generalize T[36]?.getD undef = u36 at hT
                      generalize T[37]?.getD undef = u37 at hT
                      generalize T[38]?.getD undef = u38 at hT
                      generalize T[39]?.getD undef = u39 at hT
                      generalize T[40]?.getD undef = u40 at hT
                      generalize T[41]?.getD undef = u41 at hT
                      generalize T[42]?.getD undef = u42 at hT
                      generalize T[43]?.getD undef = u43 at hT
                      generalize T[44]?.getD undef = u44 at hT
                      generalize T[45]?.getD undef = u45 at hT
                      generalize T[46]?.getD undef = u46 at hT
                      generalize T[47]?.getD undef = u47 at hT
                      generalize T[48]?.getD undef = u48 at hT
                      generalize T[49]?.getD undef = u49 at hT
                      generalize T[50]?.getD undef = u50 at hT
                      generalize T[51]?.getD undef = u51 at hT
                      generalize T[52]?.getD undef = u52 at hT
                      generalize T[53]?.getD undef = u53 at hT
                      generalize T[54]?.getD undef = u54 at hT
                      generalize T[55]?.getD undef = u55 at hT
                      generalize T[56]?.getD undef = u56 at hT
                      generalize T[57]?.getD undef = u57 at hT
                      generalize T[58]?.getD undef = u58 at hT
                      generalize T[59]?.getD undef = u59 at hT
                      generalize T[60]?.getD undef = u60 at hT
                      generalize T[61]?.getD undef = u61 at hT
                      generalize T[62]?.getD undef = u62 at hT
                      rw [e63] at hT; clear e63
                      rw [e64] at hT; clear e64
                      subst hT
                      go_wp2_with fail
                      go_roundw
                      case rel => exact ⟨k + 1, by omega, by go_num, ⟨K, hy.out⟩, hPa.on hbF, hQa.on hbF, (by (have q_hbF := Below.size hbF; (try simp at q_hbF); have q_ba := Below.size ba; (try simp at q_ba); repeat (first | exact Below.refl _ _ | (refine Below.trans ?_ (Below.mono hbF (by first | omega | (simp; omega) | simp))) | (refine Below.trans ?_ (Below.mono ba (by first | omega | (simp; omega) | simp))) | (refine Below.setCell ?_ (by first | omega | (simp; omega) | simp) _) | (refine Below.alloc ?_ (by first | omega | (simp; omega) | simp) _) | apply Below.drew | apply below_drewN)))⟩
                      case measure => simp [intOf] <;> omega
                · have hk0 : k = 0 := by omega
                  have h0' : ¬ (0 : Int) < k := by omega
                  have hx0 : x = -1 := by
                    have := HX.out
                    rw [hk0] at this
                    simp [foldE] at this
                    omega
                  have hy := Lib.hid (hyes.out ⟨by omega, hKS, H256.out⟩)
                  have hd18 : decide (0 < k) = false := decide_eq_false h0
                  have HK0 := Lib.hid hk0
                  clear cprev hk0 h0 hx0
                  go_wp2_with fail
                  refine wp_flows [(fun y_ _ => y_ = .pointer (some ⟨wr.heap.size, 0, none⟩)), (fun y_ _ => y_ = .int .i64 K), (fun y_ _ => y_ = .bool false), (fun y_ _ => y_ = .bool false), (fun y_ _ => y_ = .pointer (some ⟨wr.heap.size, 0, none⟩)), (fun y_ _ => y_ = .int .i64 K), (fun y_ _ => y_ = .agg #[.int .i64 p, .int .i64 t]), (fun y_ _ => y_ = .int .i64 S), (fun y_ _ => y_ = .bool false), (fun y_ _ => y_ = .bool false), (fun y_ _ => y_ = .bool false), (fun y_ _ => y_ = .pointer (some ⟨wr.heap.size, 1, none⟩)), (fun y_ _ => y_ = .slice Ad nd cd), (fun y_ _ => y_ = .int .i64 (nd : Int)), (fun y_ _ => y_ = .bool false), (fun y_ _ => y_ = .bool false), (fun y_ _ => y_ = .bool false), (fun y_ _ => y_ = .int .i64 (k : Int)), (fun y_ _ => y_ = .bool false), (fun y_ _ => y_ = .bool false), (fun y_ _ => y_ = undef), (fun y_ _ => y_ = undef), (fun y_ _ => y_ = undef), (fun y_ _ => y_ = undef), (fun y_ _ => y_ = undef), (fun y_ _ => y_ = undef), (fun y_ _ => y_ = undef), (fun y_ _ => y_ = undef), (fun y_ _ => y_ = undef), (fun y_ _ => y_ = undef), (fun y_ _ => y_ = .bool false), (fun y_ _ => y_ = .bool false)] (by kernel_rfl) ⟨Stab.eq _, Stab.eq _, Stab.eq _, Stab.eq _, Stab.eq _, Stab.eq _, Stab.eq _, Stab.eq _, Stab.eq _, Stab.eq _, Stab.eq _, Stab.eq _, Stab.eq _, Stab.eq _, Stab.eq _, Stab.eq _, Stab.eq _, Stab.eq _, Stab.eq _, Stab.eq _, Stab.eq _, Stab.eq _, Stab.eq _, Stab.eq _, Stab.eq _, Stab.eq _, Stab.eq _, Stab.eq _, Stab.eq _, Stab.eq _, Stab.eq _, Stab.eq _, trivial⟩ (by kernel_rfl) (by rfl) ?_ ?_
                  · intro kq hkq
                    match kq, hkq with
                    | 0, _ =>
                      refine StepOk.plain _ 32 rfl rfl rfl [(6, none)] (by kernel_rfl) (fun af wf hbw hf Kf hKf => ?_)
                      obtain ⟨g6, _⟩ := hf
                      have h6 : af.tmps[6]?.getD undef = .pointer (some ⟨wr.heap.size, 0, none⟩) := g6
                      clear g6
                      go_simp
                      exact hKf _ _ (Below.refl _ _) rfl
                    | 1, _ =>
                      refine StepOk.plain _ 33 rfl rfl rfl [(32, some 0)] (by kernel_rfl) (fun af wf hbw hf Kf hKf => ?_)
                      obtain ⟨g32, _⟩ := hf
                      have h32 : af.tmps[32]?.getD undef = .pointer (some ⟨wr.heap.size, 0, none⟩) := g32
                      clear g32
                      have cB0 := (Blk.on (Blk.drew (hPa)) hbw).cell
                      have cB1 := (Blk.on (Blk.drew (hQa)) hbw).cell
                      have cB2 := (Blk.on (Blk.drew (Bx)) hbw).cell
                      go_simp
                      exact hKf _ _ (Below.refl _ _) rfl
                    | 2, _ =>
                      refine StepOk.plain _ 34 rfl rfl rfl [(33, some 1)] (by kernel_rfl) (fun af wf hbw hf Kf hKf => ?_)
                      obtain ⟨g33, _⟩ := hf
                      have h33 : af.tmps[33]?.getD undef = .int .i64 K := g33
                      clear g33
                      go_simp
                      exact hKf _ _ (Below.refl _ _) rfl
                    | 3, _ =>
                      refine StepOk.plain _ 35 rfl rfl rfl [(34, some 2)] (by kernel_rfl) (fun af wf hbw hf Kf hKf => ?_)
                      obtain ⟨g34, _⟩ := hf
                      have h34 : af.tmps[34]?.getD undef = .bool false := g34
                      clear g34
                      go_simp
                      exact hKf _ _ (Below.refl _ _) rfl
                    | 4, _ =>
                      refine StepOk.yes _ 36 rfl rfl rfl rfl (fun _ _ h => h) [(6, none)] (by kernel_rfl) (fun af wf hbw hf Kf hKf => ?_)
                      obtain ⟨g6, _⟩ := hf
                      have h6 : af.tmps[6]?.getD undef = .pointer (some ⟨wr.heap.size, 0, none⟩) := g6
                      clear g6
                      go_simp
                      exact hKf _ _ (Below.refl _ _) rfl
                    | 5, _ =>
                      refine StepOk.yes _ 37 rfl rfl rfl rfl (fun _ _ h => h) [(36, some 4)] (by kernel_rfl) (fun af wf hbw hf Kf hKf => ?_)
                      obtain ⟨g36, _⟩ := hf
                      have h36 : af.tmps[36]?.getD undef = .pointer (some ⟨wr.heap.size, 0, none⟩) := g36
                      clear g36
                      have cB0 := (Blk.on (Blk.drew (hPa)) hbw).cell
                      have cB1 := (Blk.on (Blk.drew (hQa)) hbw).cell
                      have cB2 := (Blk.on (Blk.drew (Bx)) hbw).cell
                      go_simp
                      exact hKf _ _ (Below.refl _ _) rfl
                    | 6, _ =>
                      refine StepOk.yes _ 38 rfl rfl rfl rfl (fun _ _ h => h) [(2, none)] (by kernel_rfl) (fun af wf hbw hf Kf hKf => ?_)
                      obtain ⟨g2, _⟩ := hf
                      have h2 : af.tmps[2]?.getD undef = .pointer (some ⟨w.heap.size, 0, none⟩) := g2
                      clear g2
                      have cB0 := (Blk.on (Blk.drew (hPa)) hbw).cell
                      have cB1 := (Blk.on (Blk.drew (hQa)) hbw).cell
                      have cB2 := (Blk.on (Blk.drew (Bx)) hbw).cell
                      go_simp
                      exact hKf _ _ (Below.refl _ _) rfl
                    | 7, _ =>
                      refine StepOk.yes _ 39 rfl rfl rfl rfl (fun _ _ h => h) [(38, some 6)] (by kernel_rfl) (fun af wf hbw hf Kf hKf => ?_)
                      obtain ⟨g38, _⟩ := hf
                      have h38 : af.tmps[38]?.getD undef = .agg #[.int .i64 p, .int .i64 t] := g38
                      clear g38
                      go_simp
                      refine (rsealed_any p t _ g2 g3).mono ?_
                      rintro e wN ⟨rfl, hb⟩
                      exact hKf _ _ (hb) (congrArg (Value.int .i64) HS.out.symm)
                    | 8, _ =>
                      refine StepOk.yes _ 40 rfl rfl rfl rfl (fun _ _ h => h) [(37, some 5), (39, some 7)] (by kernel_rfl) (fun af wf hbw hf Kf hKf => ?_)
                      obtain ⟨g37, g39, _⟩ := hf
                      have h37 : af.tmps[37]?.getD undef = .int .i64 K := g37
                      have h39 : af.tmps[39]?.getD undef = .int .i64 S := g39
                      clear g37 g39
                      go_simp
                      exact hKf _ _ (Below.refl _ _) rfl
                    | 9, _ =>
                      refine StepOk.plain _ 41 rfl rfl rfl [(35, some 3), (40, some 8)] (by kernel_rfl) (fun af wf hbw hf Kf hKf => ?_)
                      obtain ⟨g35, g40, _⟩ := hf
                      have h35 : af.tmps[35]?.getD undef = .bool false := g35
                      have h40 : af.tmps[40]?.getD undef = .bool false := g40
                      clear g35 g40
                      go_simp
                      exact hKf _ _ (Below.refl _ _) rfl
                    | 10, _ =>
                      refine StepOk.plain _ 42 rfl rfl rfl [(41, some 9)] (by kernel_rfl) (fun af wf hbw hf Kf hKf => ?_)
                      obtain ⟨g41, _⟩ := hf
                      have h41 : af.tmps[41]?.getD undef = .bool false := g41
                      clear g41
                      go_simp
                      exact hKf _ _ (Below.refl _ _) rfl
                    | 11, _ =>
                      refine StepOk.yes _ 43 rfl rfl rfl rfl (fun _ _ h => h) [(6, none)] (by kernel_rfl) (fun af wf hbw hf Kf hKf => ?_)
                      obtain ⟨g6, _⟩ := hf
                      have h6 : af.tmps[6]?.getD undef = .pointer (some ⟨wr.heap.size, 0, none⟩) := g6
                      clear g6
                      go_simp
                      exact hKf _ _ (Below.refl _ _) rfl
                    | 12, _ =>
                      refine StepOk.yes _ 44 rfl rfl rfl rfl (fun _ _ h => h) [(43, some 11)] (by kernel_rfl) (fun af wf hbw hf Kf hKf => ?_)
                      obtain ⟨g43, _⟩ := hf
                      have h43 : af.tmps[43]?.getD undef = .pointer (some ⟨wr.heap.size, 1, none⟩) := g43
                      clear g43
                      have cB0 := (Blk.on (Blk.drew (hPa)) hbw).cell
                      have cB1 := (Blk.on (Blk.drew (hQa)) hbw).cell
                      have cB2 := (Blk.on (Blk.drew (Bx)) hbw).cell
                      go_simp
                      exact hKf _ _ (Below.refl _ _) rfl
                    | 13, _ =>
                      refine StepOk.yes _ 45 rfl rfl rfl rfl (fun _ _ h => h) [(44, some 12)] (by kernel_rfl) (fun af wf hbw hf Kf hKf => ?_)
                      obtain ⟨g44, _⟩ := hf
                      have h44 : af.tmps[44]?.getD undef = .slice Ad nd cd := g44
                      clear g44
                      go_simp
                      exact hKf _ _ (Below.refl _ _) rfl
                    | 14, _ =>
                      refine StepOk.yes _ 46 rfl rfl rfl rfl (fun _ _ h => h) [(45, some 13)] (by kernel_rfl) (fun af wf hbw hf Kf hKf => ?_)
                      obtain ⟨g45, _⟩ := hf
                      have h45 : af.tmps[45]?.getD undef = .int .i64 (nd : Int) := g45
                      clear g45
                      go_simp
                      exact hKf _ _ (Below.refl _ _) rfl
                    | 15, _ =>
                      refine StepOk.plain _ 47 rfl rfl rfl [(42, some 10), (46, some 14)] (by kernel_rfl) (fun af wf hbw hf Kf hKf => ?_)
                      obtain ⟨g42, g46, _⟩ := hf
                      have h42 : af.tmps[42]?.getD undef = .bool false := g42
                      have h46 : af.tmps[46]?.getD undef = .bool false := g46
                      clear g42 g46
                      go_simp
                      exact hKf _ _ (Below.refl _ _) rfl
                    | 16, _ =>
                      refine StepOk.plain _ 48 rfl rfl rfl [(47, some 15)] (by kernel_rfl) (fun af wf hbw hf Kf hKf => ?_)
                      obtain ⟨g47, _⟩ := hf
                      have h47 : af.tmps[47]?.getD undef = .bool false := g47
                      clear g47
                      go_simp
                      exact hKf _ _ (Below.refl _ _) rfl
                    | 17, _ =>
                      refine StepOk.yes _ 49 rfl rfl rfl rfl (fun _ _ h => h) [(5, none)] (by kernel_rfl) (fun af wf hbw hf Kf hKf => ?_)
                      obtain ⟨g5, _⟩ := hf
                      have h5 : af.tmps[5]?.getD undef = .int .i64 (k : Int) := g5
                      clear g5
                      go_simp
                      exact hKf _ _ (Below.refl _ _) rfl
                    | 18, _ =>
                      refine StepOk.yes _ 50 rfl rfl rfl rfl (fun _ _ h => h) [(49, some 17)] (by kernel_rfl) (fun af wf hbw hf Kf hKf => ?_)
                      obtain ⟨g49, _⟩ := hf
                      have h49 : af.tmps[49]?.getD undef = .int .i64 (k : Int) := g49
                      clear g49
                      go_simp
                      exact hKf _ _ (Below.refl _ _) rfl
                    | 19, _ =>
                      refine StepOk.yes _ 51 rfl rfl rfl rfl (fun _ _ h => h) [(50, some 18)] (by kernel_rfl) (fun af wf hbw hf Kf hKf => ?_)
                      obtain ⟨g50, _⟩ := hf
                      have h50 : af.tmps[50]?.getD undef = .bool false := g50
                      clear g50
                      go_simp
                      exact hKf _ _ (Below.refl _ _) rfl
                    | 20, _ => exact StepOk.no _ 52 rfl rfl rfl rfl (fun _ _ h => h) (by decide) (by kernel_rfl) (fun _ => rfl)
                    | 21, _ => exact StepOk.no _ 53 rfl rfl rfl rfl (fun _ _ h => h) (by decide) (by kernel_rfl) (fun _ => rfl)
                    | 22, _ => exact StepOk.no _ 54 rfl rfl rfl rfl (fun _ _ h => h) (by decide) (by kernel_rfl) (fun _ => rfl)
                    | 23, _ => exact StepOk.no _ 55 rfl rfl rfl rfl (fun _ _ h => h) (by decide) (by kernel_rfl) (fun _ => rfl)
                    | 24, _ => exact StepOk.no _ 56 rfl rfl rfl rfl (fun _ _ h => h) (by decide) (by kernel_rfl) (fun _ => rfl)
                    | 25, _ => exact StepOk.no _ 57 rfl rfl rfl rfl (fun _ _ h => h) (by decide) (by kernel_rfl) (fun _ => rfl)
                    | 26, _ => exact StepOk.no _ 58 rfl rfl rfl rfl (fun _ _ h => h) (by decide) (by kernel_rfl) (fun _ => rfl)
                    | 27, _ => exact StepOk.no _ 59 rfl rfl rfl rfl (fun _ _ h => h) (by decide) (by kernel_rfl) (fun _ => rfl)
                    | 28, _ => exact StepOk.no _ 60 rfl rfl rfl rfl (fun _ _ h => h) (by decide) (by kernel_rfl) (fun _ => rfl)
                    | 29, _ => exact StepOk.no _ 61 rfl rfl rfl rfl (fun _ _ h => h) (by decide) (by kernel_rfl) (fun _ => rfl)
                    | 30, _ =>
                      refine StepOk.yes _ 62 rfl rfl rfl rfl (fun _ _ h => h) [(51, some 19), (61, some 29)] (by kernel_rfl) (fun af wf hbw hf Kf hKf => ?_)
                      obtain ⟨g51, g61, _⟩ := hf
                      have h51 : af.tmps[51]?.getD undef = .bool false := g51
                      have h61 : af.tmps[61]?.getD undef = undef := g61
                      clear g51 g61
                      go_simp
                      exact hKf _ _ (Below.refl _ _) rfl
                    | 31, _ =>
                      refine StepOk.plain _ 63 rfl rfl rfl [(48, some 16), (62, some 30)] (by kernel_rfl) (fun af wf hbw hf Kf hKf => ?_)
                      obtain ⟨g48, g62, _⟩ := hf
                      have h48 : af.tmps[48]?.getD undef = .bool false := g48
                      have h62 : af.tmps[62]?.getD undef = .bool false := g62
                      clear g48 g62
                      go_simp
                      exact hKf _ _ (Below.refl _ _) rfl
                    | i + 32, h => exact absurd h (by show ¬ (i + 32 < 32); omega)
                  · intro af wF hbF hdF hsF hbaseF hfactF
                    obtain ⟨T, dsF⟩ := af
                    obtain rfl : dsF = _ := hdF
                    have e0 := hbaseF 0 (not_dst (by kernel_rfl))
                    simp only [List.getElem?_toArray, List.getElem?_cons_zero, Option.getD_some] at e0
                    have e1 := hbaseF 1 (not_dst (by kernel_rfl))
                    simp only [List.getElem?_toArray, List.getElem?_cons_zero, List.getElem?_cons_succ, Option.getD_some] at e1
                    have e2 := hbaseF 2 (not_dst (by kernel_rfl))
                    simp only [List.getElem?_toArray, List.getElem?_cons_zero, List.getElem?_cons_succ, Option.getD_some] at e2
                    have e3 := hbaseF 3 (not_dst (by kernel_rfl))
                    simp only [List.getElem?_toArray, List.getElem?_cons_zero, List.getElem?_cons_succ, Option.getD_some] at e3
                    have e4 := hbaseF 4 (not_dst (by kernel_rfl))
                    simp only [List.getElem?_toArray, List.getElem?_cons_zero, List.getElem?_cons_succ, Option.getD_some] at e4
                    have e5 := hbaseF 5 (not_dst (by kernel_rfl))
                    simp only [List.getElem?_toArray, List.getElem?_cons_zero, List.getElem?_cons_succ, Option.getD_some] at e5
                    have e6 := hbaseF 6 (not_dst (by kernel_rfl))
                    simp only [List.getElem?_toArray, List.getElem?_cons_zero, List.getElem?_cons_succ, Option.getD_some] at e6
                    have e7 := hbaseF 7 (not_dst (by kernel_rfl))
                    simp only [List.getElem?_toArray, List.getElem?_cons_zero, List.getElem?_cons_succ, Option.getD_some] at e7
                    have e8 := hbaseF 8 (not_dst (by kernel_rfl))
                    simp only [List.getElem?_toArray, List.getElem?_cons_zero, List.getElem?_cons_succ, Option.getD_some] at e8
                    have e9 := hbaseF 9 (not_dst (by kernel_rfl))
                    simp only [List.getElem?_toArray, List.getElem?_cons_zero, List.getElem?_cons_succ, Option.getD_some] at e9
                    have e10 := hbaseF 10 (not_dst (by kernel_rfl))
                    simp only [List.getElem?_toArray, List.getElem?_cons_zero, List.getElem?_cons_succ, Option.getD_some] at e10
                    have e11 := hbaseF 11 (not_dst (by kernel_rfl))
                    simp only [List.getElem?_toArray, List.getElem?_cons_zero, List.getElem?_cons_succ, Option.getD_some] at e11
                    have e12 := hbaseF 12 (not_dst (by kernel_rfl))
                    simp only [List.getElem?_toArray, List.getElem?_cons_zero, List.getElem?_cons_succ, Option.getD_some] at e12
                    have e13 := hbaseF 13 (not_dst (by kernel_rfl))
                    simp only [List.getElem?_toArray, List.getElem?_cons_zero, List.getElem?_cons_succ, Option.getD_some] at e13
                    have e14 := hbaseF 14 (not_dst (by kernel_rfl))
                    simp only [List.getElem?_toArray, List.getElem?_cons_zero, List.getElem?_cons_succ, Option.getD_some] at e14
                    have e15 := hbaseF 15 (not_dst (by kernel_rfl))
                    simp only [List.getElem?_toArray, List.getElem?_cons_zero, List.getElem?_cons_succ, Option.getD_some] at e15
                    have e16 := hbaseF 16 (not_dst (by kernel_rfl))
                    simp only [List.getElem?_toArray, List.getElem?_cons_zero, List.getElem?_cons_succ, Option.getD_some] at e16
                    have e17 := hbaseF 17 (not_dst (by kernel_rfl))
                    simp only [List.getElem?_toArray, List.getElem?_cons_zero, List.getElem?_cons_succ, Option.getD_some] at e17
                    have e18 := hbaseF 18 (not_dst (by kernel_rfl))
                    simp only [List.getElem?_toArray, List.getElem?_cons_zero, List.getElem?_cons_succ, Option.getD_some] at e18
                    have e19 := hbaseF 19 (not_dst (by kernel_rfl))
                    simp only [List.getElem?_toArray, List.getElem?_cons_zero, List.getElem?_cons_succ, Option.getD_some] at e19
                    have e20 := hbaseF 20 (not_dst (by kernel_rfl))
                    simp only [List.getElem?_toArray, List.getElem?_cons_zero, List.getElem?_cons_succ, Option.getD_some] at e20
                    have e21 := hbaseF 21 (not_dst (by kernel_rfl))
                    simp only [List.getElem?_toArray, List.getElem?_cons_zero, List.getElem?_cons_succ, Option.getD_some] at e21
                    have e22 := hbaseF 22 (not_dst (by kernel_rfl))
                    simp only [List.getElem?_toArray, List.getElem?_cons_zero, List.getElem?_cons_succ, Option.getD_some] at e22
                    have e23 := hbaseF 23 (not_dst (by kernel_rfl))
                    simp only [List.getElem?_toArray, List.getElem?_cons_zero, List.getElem?_cons_succ, Option.getD_some] at e23
                    have e24 := hbaseF 24 (not_dst (by kernel_rfl))
                    simp only [List.getElem?_toArray, List.getElem?_cons_zero, List.getElem?_cons_succ, Option.getD_some] at e24
                    have e25 := hbaseF 25 (not_dst (by kernel_rfl))
                    simp only [List.getElem?_toArray, List.getElem?_cons_zero, List.getElem?_cons_succ, Option.getD_some] at e25
                    have e26 := hbaseF 26 (not_dst (by kernel_rfl))
                    simp only [List.getElem?_toArray, List.getElem?_cons_zero, List.getElem?_cons_succ, Option.getD_some] at e26
                    have e27 := hbaseF 27 (not_dst (by kernel_rfl))
                    simp only [List.getElem?_toArray, List.getElem?_cons_zero, List.getElem?_cons_succ, Option.getD_some] at e27
                    have e28 := hbaseF 28 (not_dst (by kernel_rfl))
                    simp only [List.getElem?_toArray, List.getElem?_cons_zero, List.getElem?_cons_succ, Option.getD_some] at e28
                    have e29 := hbaseF 29 (not_dst (by kernel_rfl))
                    simp only [List.getElem?_toArray, List.getElem?_cons_zero, List.getElem?_cons_succ, Option.getD_some] at e29
                    have e30 := hbaseF 30 (not_dst (by kernel_rfl))
                    simp only [List.getElem?_toArray, List.getElem?_cons_zero, List.getElem?_cons_succ, Option.getD_some] at e30
                    have e31 := hbaseF 31 (not_dst (by kernel_rfl))
                    simp only [List.getElem?_toArray, List.getElem?_cons_zero, List.getElem?_cons_succ, Option.getD_some] at e31
                    have e64 := hbaseF 64 (not_dst (by kernel_rfl))
                    simp only [List.getElem?_toArray, List.getElem?_cons_zero, List.getElem?_cons_succ, Option.getD_some] at e64
                    have e63 := hfactF 31 63 (by decide) rfl
                    replace e63 : T[63]?.getD undef = .bool false := e63
                    clear hbaseF hfactF
                    have hT : T = #[T[0]?.getD undef, T[1]?.getD undef, T[2]?.getD undef, T[3]?.getD undef, T[4]?.getD undef, T[5]?.getD undef, T[6]?.getD undef, T[7]?.getD undef, T[8]?.getD undef, T[9]?.getD undef, T[10]?.getD undef, T[11]?.getD undef, T[12]?.getD undef, T[13]?.getD undef, T[14]?.getD undef, T[15]?.getD undef, T[16]?.getD undef, T[17]?.getD undef, T[18]?.getD undef, T[19]?.getD undef, T[20]?.getD undef, T[21]?.getD undef, T[22]?.getD undef, T[23]?.getD undef, T[24]?.getD undef, T[25]?.getD undef, T[26]?.getD undef, T[27]?.getD undef, T[28]?.getD undef, T[29]?.getD undef, T[30]?.getD undef, T[31]?.getD undef, T[32]?.getD undef, T[33]?.getD undef, T[34]?.getD undef, T[35]?.getD undef, T[36]?.getD undef, T[37]?.getD undef, T[38]?.getD undef, T[39]?.getD undef, T[40]?.getD undef, T[41]?.getD undef, T[42]?.getD undef, T[43]?.getD undef, T[44]?.getD undef, T[45]?.getD undef, T[46]?.getD undef, T[47]?.getD undef, T[48]?.getD undef, T[49]?.getD undef, T[50]?.getD undef, T[51]?.getD undef, T[52]?.getD undef, T[53]?.getD undef, T[54]?.getD undef, T[55]?.getD undef, T[56]?.getD undef, T[57]?.getD undef, T[58]?.getD undef, T[59]?.getD undef, T[60]?.getD undef, T[61]?.getD undef, T[62]?.getD undef, T[63]?.getD undef, T[64]?.getD undef] := arr_eq T 65 hsF
                    clear hsF
                    rw [e0] at hT; clear e0
                    rw [e1] at hT; clear e1
                    rw [e2] at hT; clear e2
                    rw [e3] at hT; clear e3
                    rw [e4] at hT; clear e4
                    rw [e5] at hT; clear e5
                    rw [e6] at hT; clear e6
                    rw [e7] at hT; clear e7
                    rw [e8] at hT; clear e8
                    rw [e9] at hT; clear e9
                    rw [e10] at hT; clear e10
                    rw [e11] at hT; clear e11
                    rw [e12] at hT; clear e12
                    rw [e13] at hT; clear e13
                    rw [e14] at hT; clear e14
                    rw [e15] at hT; clear e15
                    rw [e16] at hT; clear e16
                    rw [e17] at hT; clear e17
                    rw [e18] at hT; clear e18
                    rw [e19] at hT; clear e19
                    rw [e20] at hT; clear e20
                    rw [e21] at hT; clear e21
                    rw [e22] at hT; clear e22
                    rw [e23] at hT; clear e23
                    rw [e24] at hT; clear e24
                    rw [e25] at hT; clear e25
                    rw [e26] at hT; clear e26
                    rw [e27] at hT; clear e27
                    rw [e28] at hT; clear e28
                    rw [e29] at hT; clear e29
                    rw [e30] at hT; clear e30
                    rw [e31] at hT; clear e31
                    generalize T[32]?.getD undef = u32 at hT
                    generalize T[33]?.getD undef = u33 at hT
                    generalize T[34]?.getD undef = u34 at hT
                    generalize T[35]?.getD undef = u35 at hT
                    generalize T[36]?.getD undef = u36 at hT
                    generalize T[37]?.getD undef = u37 at hT
                    generalize T[38]?.getD undef = u38 at hT
                    generalize T[39]?.getD undef = u39 at hT
                    generalize T[40]?.getD undef = u40 at hT
                    generalize T[41]?.getD undef = u41 at hT
                    generalize T[42]?.getD undef = u42 at hT
                    generalize T[43]?.getD undef = u43 at hT
                    generalize T[44]?.getD undef = u44 at hT
                    generalize T[45]?.getD undef = u45 at hT
                    generalize T[46]?.getD undef = u46 at hT
                    generalize T[47]?.getD undef = u47 at hT
                    generalize T[48]?.getD undef = u48 at hT
                    generalize T[49]?.getD undef = u49 at hT
                    generalize T[50]?.getD undef = u50 at hT
                    generalize T[51]?.getD undef = u51 at hT
                    generalize T[52]?.getD undef = u52 at hT
                    generalize T[53]?.getD undef = u53 at hT
                    generalize T[54]?.getD undef = u54 at hT
                    generalize T[55]?.getD undef = u55 at hT
                    generalize T[56]?.getD undef = u56 at hT
                    generalize T[57]?.getD undef = u57 at hT
                    generalize T[58]?.getD undef = u58 at hT
                    generalize T[59]?.getD undef = u59 at hT
                    generalize T[60]?.getD undef = u60 at hT
                    generalize T[61]?.getD undef = u61 at hT
                    generalize T[62]?.getD undef = u62 at hT
                    rw [e63] at hT; clear e63
                    rw [e64] at hT; clear e64
                    subst hT
                    go_wp2_with fail
                    go_roundw
                    case rel => exact ⟨k + 1, by omega, by go_num, ⟨K, hy.out⟩, hPa.on hbF, hQa.on hbF, (by (have q_hbF := Below.size hbF; (try simp at q_hbF); have q_ba := Below.size ba; (try simp at q_ba); repeat (first | exact Below.refl _ _ | (refine Below.trans ?_ (Below.mono hbF (by first | omega | (simp; omega) | simp))) | (refine Below.trans ?_ (Below.mono ba (by first | omega | (simp; omega) | simp))) | (refine Below.setCell ?_ (by first | omega | (simp; omega) | simp) _) | (refine Below.alloc ?_ (by first | omega | (simp; omega) | simp) _) | apply Below.drew | apply below_drewN)))⟩
                    case measure => simp [intOf] <;> omega
              · have hne : ((nd : Int) != 256) = true := by simp; omega
                have hno := Lib.hid (hno1.out (by omega))
                clear h256 hLl
                go_wp2_with fail
                refine wp_flows [(fun y_ _ => y_ = .pointer (some ⟨wr.heap.size, 0, none⟩)), (fun y_ _ => y_ = .int .i64 K), (fun y_ _ => y_ = .bool false), (fun y_ _ => y_ = .bool false), (fun y_ _ => y_ = .pointer (some ⟨wr.heap.size, 0, none⟩)), (fun y_ _ => y_ = .int .i64 K), (fun y_ _ => y_ = .agg #[.int .i64 p, .int .i64 t]), (fun y_ _ => y_ = .int .i64 S), (fun y_ _ => y_ = .bool false), (fun y_ _ => y_ = .bool false), (fun y_ _ => y_ = .bool false), (fun y_ _ => y_ = .pointer (some ⟨wr.heap.size, 1, none⟩)), (fun y_ _ => y_ = .slice Ad nd cd), (fun y_ _ => y_ = .int .i64 (nd : Int)), (fun y_ _ => y_ = .bool true), (fun y_ _ => y_ = .bool true), (fun y_ _ => y_ = .bool true), (fun y_ _ => y_ = undef), (fun y_ _ => y_ = undef), (fun y_ _ => y_ = undef), (fun y_ _ => y_ = undef), (fun y_ _ => y_ = undef), (fun y_ _ => y_ = undef), (fun y_ _ => y_ = undef), (fun y_ _ => y_ = undef), (fun y_ _ => y_ = undef), (fun y_ _ => y_ = undef), (fun y_ _ => y_ = undef), (fun y_ _ => y_ = undef), (fun y_ _ => y_ = undef), (fun y_ _ => y_ = undef), (fun y_ _ => y_ = .bool true)] (by kernel_rfl) ⟨Stab.eq _, Stab.eq _, Stab.eq _, Stab.eq _, Stab.eq _, Stab.eq _, Stab.eq _, Stab.eq _, Stab.eq _, Stab.eq _, Stab.eq _, Stab.eq _, Stab.eq _, Stab.eq _, Stab.eq _, Stab.eq _, Stab.eq _, Stab.eq _, Stab.eq _, Stab.eq _, Stab.eq _, Stab.eq _, Stab.eq _, Stab.eq _, Stab.eq _, Stab.eq _, Stab.eq _, Stab.eq _, Stab.eq _, Stab.eq _, Stab.eq _, Stab.eq _, trivial⟩ (by kernel_rfl) (by rfl) ?_ ?_
                · intro kq hkq
                  match kq, hkq with
                  | 0, _ =>
                    refine StepOk.plain _ 32 rfl rfl rfl [(6, none)] (by kernel_rfl) (fun af wf hbw hf Kf hKf => ?_)
                    obtain ⟨g6, _⟩ := hf
                    have h6 : af.tmps[6]?.getD undef = .pointer (some ⟨wr.heap.size, 0, none⟩) := g6
                    clear g6
                    go_simp
                    exact hKf _ _ (Below.refl _ _) rfl
                  | 1, _ =>
                    refine StepOk.plain _ 33 rfl rfl rfl [(32, some 0)] (by kernel_rfl) (fun af wf hbw hf Kf hKf => ?_)
                    obtain ⟨g32, _⟩ := hf
                    have h32 : af.tmps[32]?.getD undef = .pointer (some ⟨wr.heap.size, 0, none⟩) := g32
                    clear g32
                    have cB0 := (Blk.on (Blk.drew (hPa)) hbw).cell
                    have cB1 := (Blk.on (Blk.drew (hQa)) hbw).cell
                    have cB2 := (Blk.on (Blk.drew (Bx)) hbw).cell
                    go_simp
                    exact hKf _ _ (Below.refl _ _) rfl
                  | 2, _ =>
                    refine StepOk.plain _ 34 rfl rfl rfl [(33, some 1)] (by kernel_rfl) (fun af wf hbw hf Kf hKf => ?_)
                    obtain ⟨g33, _⟩ := hf
                    have h33 : af.tmps[33]?.getD undef = .int .i64 K := g33
                    clear g33
                    go_simp
                    exact hKf _ _ (Below.refl _ _) rfl
                  | 3, _ =>
                    refine StepOk.plain _ 35 rfl rfl rfl [(34, some 2)] (by kernel_rfl) (fun af wf hbw hf Kf hKf => ?_)
                    obtain ⟨g34, _⟩ := hf
                    have h34 : af.tmps[34]?.getD undef = .bool false := g34
                    clear g34
                    go_simp
                    exact hKf _ _ (Below.refl _ _) rfl
                  | 4, _ =>
                    refine StepOk.yes _ 36 rfl rfl rfl rfl (fun _ _ h => h) [(6, none)] (by kernel_rfl) (fun af wf hbw hf Kf hKf => ?_)
                    obtain ⟨g6, _⟩ := hf
                    have h6 : af.tmps[6]?.getD undef = .pointer (some ⟨wr.heap.size, 0, none⟩) := g6
                    clear g6
                    go_simp
                    exact hKf _ _ (Below.refl _ _) rfl
                  | 5, _ =>
                    refine StepOk.yes _ 37 rfl rfl rfl rfl (fun _ _ h => h) [(36, some 4)] (by kernel_rfl) (fun af wf hbw hf Kf hKf => ?_)
                    obtain ⟨g36, _⟩ := hf
                    have h36 : af.tmps[36]?.getD undef = .pointer (some ⟨wr.heap.size, 0, none⟩) := g36
                    clear g36
                    have cB0 := (Blk.on (Blk.drew (hPa)) hbw).cell
                    have cB1 := (Blk.on (Blk.drew (hQa)) hbw).cell
                    have cB2 := (Blk.on (Blk.drew (Bx)) hbw).cell
                    go_simp
                    exact hKf _ _ (Below.refl _ _) rfl
                  | 6, _ =>
                    refine StepOk.yes _ 38 rfl rfl rfl rfl (fun _ _ h => h) [(2, none)] (by kernel_rfl) (fun af wf hbw hf Kf hKf => ?_)
                    obtain ⟨g2, _⟩ := hf
                    have h2 : af.tmps[2]?.getD undef = .pointer (some ⟨w.heap.size, 0, none⟩) := g2
                    clear g2
                    have cB0 := (Blk.on (Blk.drew (hPa)) hbw).cell
                    have cB1 := (Blk.on (Blk.drew (hQa)) hbw).cell
                    have cB2 := (Blk.on (Blk.drew (Bx)) hbw).cell
                    go_simp
                    exact hKf _ _ (Below.refl _ _) rfl
                  | 7, _ =>
                    refine StepOk.yes _ 39 rfl rfl rfl rfl (fun _ _ h => h) [(38, some 6)] (by kernel_rfl) (fun af wf hbw hf Kf hKf => ?_)
                    obtain ⟨g38, _⟩ := hf
                    have h38 : af.tmps[38]?.getD undef = .agg #[.int .i64 p, .int .i64 t] := g38
                    clear g38
                    go_simp
                    refine (rsealed_any p t _ g2 g3).mono ?_
                    rintro e wN ⟨rfl, hb⟩
                    exact hKf _ _ (hb) (congrArg (Value.int .i64) HS.out.symm)
                  | 8, _ =>
                    refine StepOk.yes _ 40 rfl rfl rfl rfl (fun _ _ h => h) [(37, some 5), (39, some 7)] (by kernel_rfl) (fun af wf hbw hf Kf hKf => ?_)
                    obtain ⟨g37, g39, _⟩ := hf
                    have h37 : af.tmps[37]?.getD undef = .int .i64 K := g37
                    have h39 : af.tmps[39]?.getD undef = .int .i64 S := g39
                    clear g37 g39
                    go_simp
                    exact hKf _ _ (Below.refl _ _) rfl
                  | 9, _ =>
                    refine StepOk.plain _ 41 rfl rfl rfl [(35, some 3), (40, some 8)] (by kernel_rfl) (fun af wf hbw hf Kf hKf => ?_)
                    obtain ⟨g35, g40, _⟩ := hf
                    have h35 : af.tmps[35]?.getD undef = .bool false := g35
                    have h40 : af.tmps[40]?.getD undef = .bool false := g40
                    clear g35 g40
                    go_simp
                    exact hKf _ _ (Below.refl _ _) rfl
                  | 10, _ =>
                    refine StepOk.plain _ 42 rfl rfl rfl [(41, some 9)] (by kernel_rfl) (fun af wf hbw hf Kf hKf => ?_)
                    obtain ⟨g41, _⟩ := hf
                    have h41 : af.tmps[41]?.getD undef = .bool false := g41
                    clear g41
                    go_simp
                    exact hKf _ _ (Below.refl _ _) rfl
                  | 11, _ =>
                    refine StepOk.yes _ 43 rfl rfl rfl rfl (fun _ _ h => h) [(6, none)] (by kernel_rfl) (fun af wf hbw hf Kf hKf => ?_)
                    obtain ⟨g6, _⟩ := hf
                    have h6 : af.tmps[6]?.getD undef = .pointer (some ⟨wr.heap.size, 0, none⟩) := g6
                    clear g6
                    go_simp
                    exact hKf _ _ (Below.refl _ _) rfl
                  | 12, _ =>
                    refine StepOk.yes _ 44 rfl rfl rfl rfl (fun _ _ h => h) [(43, some 11)] (by kernel_rfl) (fun af wf hbw hf Kf hKf => ?_)
                    obtain ⟨g43, _⟩ := hf
                    have h43 : af.tmps[43]?.getD undef = .pointer (some ⟨wr.heap.size, 1, none⟩) := g43
                    clear g43
                    have cB0 := (Blk.on (Blk.drew (hPa)) hbw).cell
                    have cB1 := (Blk.on (Blk.drew (hQa)) hbw).cell
                    have cB2 := (Blk.on (Blk.drew (Bx)) hbw).cell
                    go_simp
                    exact hKf _ _ (Below.refl _ _) rfl
                  | 13, _ =>
                    refine StepOk.yes _ 45 rfl rfl rfl rfl (fun _ _ h => h) [(44, some 12)] (by kernel_rfl) (fun af wf hbw hf Kf hKf => ?_)
                    obtain ⟨g44, _⟩ := hf
                    have h44 : af.tmps[44]?.getD undef = .slice Ad nd cd := g44
                    clear g44
                    go_simp
                    exact hKf _ _ (Below.refl _ _) rfl
                  | 14, _ =>
                    refine StepOk.yes _ 46 rfl rfl rfl rfl (fun _ _ h => h) [(45, some 13)] (by kernel_rfl) (fun af wf hbw hf Kf hKf => ?_)
                    obtain ⟨g45, _⟩ := hf
                    have h45 : af.tmps[45]?.getD undef = .int .i64 (nd : Int) := g45
                    clear g45
                    go_simp
                    exact hKf _ _ (Below.refl _ _) rfl
                  | 15, _ =>
                    refine StepOk.plain _ 47 rfl rfl rfl [(42, some 10), (46, some 14)] (by kernel_rfl) (fun af wf hbw hf Kf hKf => ?_)
                    obtain ⟨g42, g46, _⟩ := hf
                    have h42 : af.tmps[42]?.getD undef = .bool false := g42
                    have h46 : af.tmps[46]?.getD undef = .bool true := g46
                    clear g42 g46
                    go_simp
                    exact hKf _ _ (Below.refl _ _) rfl
                  | 16, _ =>
                    refine StepOk.plain _ 48 rfl rfl rfl [(47, some 15)] (by kernel_rfl) (fun af wf hbw hf Kf hKf => ?_)
                    obtain ⟨g47, _⟩ := hf
                    have h47 : af.tmps[47]?.getD undef = .bool true := g47
                    clear g47
                    go_simp
                    exact hKf _ _ (Below.refl _ _) rfl
                  | 17, _ => exact StepOk.no _ 49 rfl rfl rfl rfl (fun _ _ h => h) (by decide) (by kernel_rfl) (fun _ => rfl)
                  | 18, _ => exact StepOk.no _ 50 rfl rfl rfl rfl (fun _ _ h => h) (by decide) (by kernel_rfl) (fun _ => rfl)
                  | 19, _ => exact StepOk.no _ 51 rfl rfl rfl rfl (fun _ _ h => h) (by decide) (by kernel_rfl) (fun _ => rfl)
                  | 20, _ => exact StepOk.nou _ 52 rfl rfl rfl rfl (fun _ _ h => h) (by kernel_rfl) (fun _ => rfl)
                  | 21, _ => exact StepOk.nou _ 53 rfl rfl rfl rfl (fun _ _ h => h) (by kernel_rfl) (fun _ => rfl)
                  | 22, _ => exact StepOk.nou _ 54 rfl rfl rfl rfl (fun _ _ h => h) (by kernel_rfl) (fun _ => rfl)
                  | 23, _ => exact StepOk.nou _ 55 rfl rfl rfl rfl (fun _ _ h => h) (by kernel_rfl) (fun _ => rfl)
                  | 24, _ => exact StepOk.nou _ 56 rfl rfl rfl rfl (fun _ _ h => h) (by kernel_rfl) (fun _ => rfl)
                  | 25, _ => exact StepOk.nou _ 57 rfl rfl rfl rfl (fun _ _ h => h) (by kernel_rfl) (fun _ => rfl)
                  | 26, _ => exact StepOk.nou _ 58 rfl rfl rfl rfl (fun _ _ h => h) (by kernel_rfl) (fun _ => rfl)
                  | 27, _ => exact StepOk.nou _ 59 rfl rfl rfl rfl (fun _ _ h => h) (by kernel_rfl) (fun _ => rfl)
                  | 28, _ => exact StepOk.nou _ 60 rfl rfl rfl rfl (fun _ _ h => h) (by kernel_rfl) (fun _ => rfl)
                  | 29, _ => exact StepOk.nou _ 61 rfl rfl rfl rfl (fun _ _ h => h) (by kernel_rfl) (fun _ => rfl)
                  | 30, _ => exact StepOk.no _ 62 rfl rfl rfl rfl (fun _ _ h => h) (by decide) (by kernel_rfl) (fun _ => rfl)
                  | 31, _ =>
                    refine StepOk.plain _ 63 rfl rfl rfl [(48, some 16), (62, some 30)] (by kernel_rfl) (fun af wf hbw hf Kf hKf => ?_)
                    obtain ⟨g48, g62, _⟩ := hf
                    have h48 : af.tmps[48]?.getD undef = .bool true := g48
                    have h62 : af.tmps[62]?.getD undef = undef := g62
                    clear g48 g62
                    go_simp
                    exact hKf _ _ (Below.refl _ _) rfl
                  | i + 32, h => exact absurd h (by show ¬ (i + 32 < 32); omega)
                · intro af wF hbF hdF hsF hbaseF hfactF
                  obtain ⟨T, dsF⟩ := af
                  obtain rfl : dsF = _ := hdF
                  have e0 := hbaseF 0 (not_dst (by kernel_rfl))
                  simp only [List.getElem?_toArray, List.getElem?_cons_zero, Option.getD_some] at e0
                  have e1 := hbaseF 1 (not_dst (by kernel_rfl))
                  simp only [List.getElem?_toArray, List.getElem?_cons_zero, List.getElem?_cons_succ, Option.getD_some] at e1
                  have e2 := hbaseF 2 (not_dst (by kernel_rfl))
                  simp only [List.getElem?_toArray, List.getElem?_cons_zero, List.getElem?_cons_succ, Option.getD_some] at e2
                  have e3 := hbaseF 3 (not_dst (by kernel_rfl))
                  simp only [List.getElem?_toArray, List.getElem?_cons_zero, List.getElem?_cons_succ, Option.getD_some] at e3
                  have e4 := hbaseF 4 (not_dst (by kernel_rfl))
                  simp only [List.getElem?_toArray, List.getElem?_cons_zero, List.getElem?_cons_succ, Option.getD_some] at e4
                  have e5 := hbaseF 5 (not_dst (by kernel_rfl))
                  simp only [List.getElem?_toArray, List.getElem?_cons_zero, List.getElem?_cons_succ, Option.getD_some] at e5
                  have e6 := hbaseF 6 (not_dst (by kernel_rfl))
                  simp only [List.getElem?_toArray, List.getElem?_cons_zero, List.getElem?_cons_succ, Option.getD_some] at e6
                  have e7 := hbaseF 7 (not_dst (by kernel_rfl))
                  simp only [List.getElem?_toArray, List.getElem?_cons_zero, List.getElem?_cons_succ, Option.getD_some] at e7
                  have e8 := hbaseF 8 (not_dst (by kernel_rfl))
                  simp only [List.getElem?_toArray, List.getElem?_cons_zero, List.getElem?_cons_succ, Option.getD_some] at e8
                  have e9 := hbaseF 9 (not_dst (by kernel_rfl))
                  simp only [List.getElem?_toArray, List.getElem?_cons_zero, List.getElem?_cons_succ, Option.getD_some] at e9
                  have e10 := hbaseF 10 (not_dst (by kernel_rfl))
                  simp only [List.getElem?_toArray, List.getElem?_cons_zero, List.getElem?_cons_succ, Option.getD_some] at e10
                  have e11 := hbaseF 11 (not_dst (by kernel_rfl))
                  simp only [List.getElem?_toArray, List.getElem?_cons_zero, List.getElem?_cons_succ, Option.getD_some] at e11
                  have e12 := hbaseF 12 (not_dst (by kernel_rfl))
                  simp only [List.getElem?_toArray, List.getElem?_cons_zero, List.getElem?_cons_succ, Option.getD_some] at e12
                  have e13 := hbaseF 13 (not_dst (by kernel_rfl))
                  simp only [List.getElem?_toArray, List.getElem?_cons_zero, List.getElem?_cons_succ, Option.getD_some] at e13
                  have e14 := hbaseF 14 (not_dst (by kernel_rfl))
                  simp only [List.getElem?_toArray, List.getElem?_cons_zero, List.getElem?_cons_succ, Option.getD_some] at e14
                  have e15 := hbaseF 15 (not_dst (by kernel_rfl))
                  simp only [List.getElem?_toArray, List.getElem?_cons_zero, List.getElem?_cons_succ, Option.getD_some] at e15
                  have e16 := hbaseF 16 (not_dst (by kernel_rfl))
                  simp only [List.getElem?_toArray, List.getElem?_cons_zero, List.getElem?_cons_succ, Option.getD_some] at e16
                  have e17 := hbaseF 17 (not_dst (by kernel_rfl))
                  simp only [List.getElem?_toArray, List.getElem?_cons_zero, List.getElem?_cons_succ, Option.getD_some] at e17
                  have e18 := hbaseF 18 (not_dst (by kernel_rfl))
                  simp only [List.getElem?_toArray, List.getElem?_cons_zero, List.getElem?_cons_succ, Option.getD_some] at e18
                  have e19 := hbaseF 19 (not_dst (by kernel_rfl))
                  simp only [List.getElem?_toArray, List.getElem?_cons_zero, List.getElem?_cons_succ, Option.getD_some] at e19
                  have e20 := hbaseF 20 (not_dst (by kernel_rfl))
                  simp only [List.getElem?_toArray, List.getElem?_cons_zero, List.getElem?_cons_succ, Option.getD_some] at e20
                  have e21 := hbaseF 21 (not_dst (by kernel_rfl))
                  simp only [List.getElem?_toArray, List.getElem?_cons_zero, List.getElem?_cons_succ, Option.getD_some] at e21
                  have e22 := hbaseF 22 (not_dst (by kernel_rfl))
                  simp only [List.getElem?_toArray, List.getElem?_cons_zero, List.getElem?_cons_succ, Option.getD_some] at e22
                  have e23 := hbaseF 23 (not_dst (by kernel_rfl))
                  simp only [List.getElem?_toArray, List.getElem?_cons_zero, List.getElem?_cons_succ, Option.getD_some] at e23
                  have e24 := hbaseF 24 (not_dst (by kernel_rfl))
                  simp only [List.getElem?_toArray, List.getElem?_cons_zero, List.getElem?_cons_succ, Option.getD_some] at e24
                  have e25 := hbaseF 25 (not_dst (by kernel_rfl))
                  simp only [List.getElem?_toArray, List.getElem?_cons_zero, List.getElem?_cons_succ, Option.getD_some] at e25
                  have e26 := hbaseF 26 (not_dst (by kernel_rfl))
                  simp only [List.getElem?_toArray, List.getElem?_cons_zero, List.getElem?_cons_succ, Option.getD_some] at e26
                  have e27 := hbaseF 27 (not_dst (by kernel_rfl))
                  simp only [List.getElem?_toArray, List.getElem?_cons_zero, List.getElem?_cons_succ, Option.getD_some] at e27
                  have e28 := hbaseF 28 (not_dst (by kernel_rfl))
                  simp only [List.getElem?_toArray, List.getElem?_cons_zero, List.getElem?_cons_succ, Option.getD_some] at e28
                  have e29 := hbaseF 29 (not_dst (by kernel_rfl))
                  simp only [List.getElem?_toArray, List.getElem?_cons_zero, List.getElem?_cons_succ, Option.getD_some] at e29
                  have e30 := hbaseF 30 (not_dst (by kernel_rfl))
                  simp only [List.getElem?_toArray, List.getElem?_cons_zero, List.getElem?_cons_succ, Option.getD_some] at e30
                  have e31 := hbaseF 31 (not_dst (by kernel_rfl))
                  simp only [List.getElem?_toArray, List.getElem?_cons_zero, List.getElem?_cons_succ, Option.getD_some] at e31
                  have e64 := hbaseF 64 (not_dst (by kernel_rfl))
                  simp only [List.getElem?_toArray, List.getElem?_cons_zero, List.getElem?_cons_succ, Option.getD_some] at e64
                  have e63 := hfactF 31 63 (by decide) rfl
                  replace e63 : T[63]?.getD undef = .bool true := e63
                  clear hbaseF hfactF
                  have hT : T = #[T[0]?.getD undef, T[1]?.getD undef, T[2]?.getD undef, T[3]?.getD undef, T[4]?.getD undef, T[5]?.getD undef, T[6]?.getD undef, T[7]?.getD undef, T[8]?.getD undef, T[9]?.getD undef, T[10]?.getD undef, T[11]?.getD undef, T[12]?.getD undef, T[13]?.getD undef, T[14]?.getD undef, T[15]?.getD undef, T[16]?.getD undef, T[17]?.getD undef, T[18]?.getD undef, T[19]?.getD undef, T[20]?.getD undef, T[21]?.getD undef, T[22]?.getD undef, T[23]?.getD undef, T[24]?.getD undef, T[25]?.getD undef, T[26]?.getD undef, T[27]?.getD undef, T[28]?.getD undef, T[29]?.getD undef, T[30]?.getD undef, T[31]?.getD undef, T[32]?.getD undef, T[33]?.getD undef, T[34]?.getD undef, T[35]?.getD undef, T[36]?.getD undef, T[37]?.getD undef, T[38]?.getD undef, T[39]?.getD undef, T[40]?.getD undef, T[41]?.getD undef, T[42]?.getD undef, T[43]?.getD undef, T[44]?.getD undef, T[45]?.getD undef, T[46]?.getD undef, T[47]?.getD undef, T[48]?.getD undef, T[49]?.getD undef, T[50]?.getD undef, T[51]?.getD undef, T[52]?.getD undef, T[53]?.getD undef, T[54]?.getD undef, T[55]?.getD undef, T[56]?.getD undef, T[57]?.getD undef, T[58]?.getD undef, T[59]?.getD undef, T[60]?.getD undef, T[61]?.getD undef, T[62]?.getD undef, T[63]?.getD undef, T[64]?.getD undef] := arr_eq T 65 hsF
                  clear hsF
                  rw [e0] at hT; clear e0
                  rw [e1] at hT; clear e1
                  rw [e2] at hT; clear e2
                  rw [e3] at hT; clear e3
                  rw [e4] at hT; clear e4
                  rw [e5] at hT; clear e5
                  rw [e6] at hT; clear e6
                  rw [e7] at hT; clear e7
                  rw [e8] at hT; clear e8
                  rw [e9] at hT; clear e9
                  rw [e10] at hT; clear e10
                  rw [e11] at hT; clear e11
                  rw [e12] at hT; clear e12
                  rw [e13] at hT; clear e13
                  rw [e14] at hT; clear e14
                  rw [e15] at hT; clear e15
                  rw [e16] at hT; clear e16
                  rw [e17] at hT; clear e17
                  rw [e18] at hT; clear e18
                  rw [e19] at hT; clear e19
                  rw [e20] at hT; clear e20
                  rw [e21] at hT; clear e21
                  rw [e22] at hT; clear e22
                  rw [e23] at hT; clear e23
                  rw [e24] at hT; clear e24
                  rw [e25] at hT; clear e25
                  rw [e26] at hT; clear e26
                  rw [e27] at hT; clear e27
                  rw [e28] at hT; clear e28
                  rw [e29] at hT; clear e29
                  rw [e30] at hT; clear e30
                  rw [e31] at hT; clear e31
                  generalize T[32]?.getD undef = u32 at hT
                  generalize T[33]?.getD undef = u33 at hT
                  generalize T[34]?.getD undef = u34 at hT
                  generalize T[35]?.getD undef = u35 at hT
                  generalize T[36]?.getD undef = u36 at hT
                  generalize T[37]?.getD undef = u37 at hT
                  generalize T[38]?.getD undef = u38 at hT
                  generalize T[39]?.getD undef = u39 at hT
                  generalize T[40]?.getD undef = u40 at hT
                  generalize T[41]?.getD undef = u41 at hT
                  generalize T[42]?.getD undef = u42 at hT
                  generalize T[43]?.getD undef = u43 at hT
                  generalize T[44]?.getD undef = u44 at hT
                  generalize T[45]?.getD undef = u45 at hT
                  generalize T[46]?.getD undef = u46 at hT
                  generalize T[47]?.getD undef = u47 at hT
                  generalize T[48]?.getD undef = u48 at hT
                  generalize T[49]?.getD undef = u49 at hT
                  generalize T[50]?.getD undef = u50 at hT
                  generalize T[51]?.getD undef = u51 at hT
                  generalize T[52]?.getD undef = u52 at hT
                  generalize T[53]?.getD undef = u53 at hT
                  generalize T[54]?.getD undef = u54 at hT
                  generalize T[55]?.getD undef = u55 at hT
                  generalize T[56]?.getD undef = u56 at hT
                  generalize T[57]?.getD undef = u57 at hT
                  generalize T[58]?.getD undef = u58 at hT
                  generalize T[59]?.getD undef = u59 at hT
                  generalize T[60]?.getD undef = u60 at hT
                  generalize T[61]?.getD undef = u61 at hT
                  generalize T[62]?.getD undef = u62 at hT
                  rw [e63] at hT; clear e63
                  rw [e64] at hT; clear e64
                  subst hT
                  go_wp2_with fail
                  go_ret
                  exact ⟨by rw [hno.out]; rfl, (by (have q_hbF := Below.size hbF; (try simp at q_hbF); have q_ba := Below.size ba; (try simp at q_ba); repeat (first | exact Below.refl _ _ | (refine Below.trans ?_ (Below.mono hbF (by first | omega | (simp; omega) | simp))) | (refine Below.trans ?_ (Below.mono ba (by first | omega | (simp; omega) | simp))) | (refine Below.setCell ?_ (by first | omega | (simp; omega) | simp) _) | (refine Below.alloc ?_ (by first | omega | (simp; omega) | simp) _) | apply Below.drew | apply below_drewN)))⟩
            · have hK0' : 0 ≤ K := by omega
              have hKS' : S ≤ K := by omega
              have hno := Lib.hid (hno1.out (by omega))
              go_wp2_with fail
              refine wp_flows [(fun y_ _ => y_ = .pointer (some ⟨wr.heap.size, 0, none⟩)), (fun y_ _ => y_ = .int .i64 K), (fun y_ _ => y_ = .bool false), (fun y_ _ => y_ = .bool false), (fun y_ _ => y_ = .pointer (some ⟨wr.heap.size, 0, none⟩)), (fun y_ _ => y_ = .int .i64 K), (fun y_ _ => y_ = .agg #[.int .i64 p, .int .i64 t]), (fun y_ _ => y_ = .int .i64 S), (fun y_ _ => y_ = .bool true), (fun y_ _ => y_ = .bool true), (fun y_ _ => y_ = .bool true), (fun y_ _ => y_ = undef), (fun y_ _ => y_ = undef), (fun y_ _ => y_ = undef), (fun y_ _ => y_ = undef), (fun y_ _ => y_ = .bool true), (fun y_ _ => y_ = .bool true), (fun y_ _ => y_ = undef), (fun y_ _ => y_ = undef), (fun y_ _ => y_ = undef), (fun y_ _ => y_ = undef), (fun y_ _ => y_ = undef), (fun y_ _ => y_ = undef), (fun y_ _ => y_ = undef), (fun y_ _ => y_ = undef), (fun y_ _ => y_ = undef), (fun y_ _ => y_ = undef), (fun y_ _ => y_ = undef), (fun y_ _ => y_ = undef), (fun y_ _ => y_ = undef), (fun y_ _ => y_ = undef), (fun y_ _ => y_ = .bool true)] (by kernel_rfl) ⟨Stab.eq _, Stab.eq _, Stab.eq _, Stab.eq _, Stab.eq _, Stab.eq _, Stab.eq _, Stab.eq _, Stab.eq _, Stab.eq _, Stab.eq _, Stab.eq _, Stab.eq _, Stab.eq _, Stab.eq _, Stab.eq _, Stab.eq _, Stab.eq _, Stab.eq _, Stab.eq _, Stab.eq _, Stab.eq _, Stab.eq _, Stab.eq _, Stab.eq _, Stab.eq _, Stab.eq _, Stab.eq _, Stab.eq _, Stab.eq _, Stab.eq _, Stab.eq _, trivial⟩ (by kernel_rfl) (by rfl) ?_ ?_
              · intro kq hkq
                match kq, hkq with
                | 0, _ =>
                  refine StepOk.plain _ 32 rfl rfl rfl [(6, none)] (by kernel_rfl) (fun af wf hbw hf Kf hKf => ?_)
                  obtain ⟨g6, _⟩ := hf
                  have h6 : af.tmps[6]?.getD undef = .pointer (some ⟨wr.heap.size, 0, none⟩) := g6
                  clear g6
                  go_simp
                  exact hKf _ _ (Below.refl _ _) rfl
                | 1, _ =>
                  refine StepOk.plain _ 33 rfl rfl rfl [(32, some 0)] (by kernel_rfl) (fun af wf hbw hf Kf hKf => ?_)
                  obtain ⟨g32, _⟩ := hf
                  have h32 : af.tmps[32]?.getD undef = .pointer (some ⟨wr.heap.size, 0, none⟩) := g32
                  clear g32
                  have cB0 := (Blk.on (Blk.drew (hPa)) hbw).cell
                  have cB1 := (Blk.on (Blk.drew (hQa)) hbw).cell
                  have cB2 := (Blk.on (Blk.drew (Bx)) hbw).cell
                  go_simp
                  exact hKf _ _ (Below.refl _ _) rfl
                | 2, _ =>
                  refine StepOk.plain _ 34 rfl rfl rfl [(33, some 1)] (by kernel_rfl) (fun af wf hbw hf Kf hKf => ?_)
                  obtain ⟨g33, _⟩ := hf
                  have h33 : af.tmps[33]?.getD undef = .int .i64 K := g33
                  clear g33
                  go_simp
                  exact hKf _ _ (Below.refl _ _) rfl
                | 3, _ =>
                  refine StepOk.plain _ 35 rfl rfl rfl [(34, some 2)] (by kernel_rfl) (fun af wf hbw hf Kf hKf => ?_)
                  obtain ⟨g34, _⟩ := hf
                  have h34 : af.tmps[34]?.getD undef = .bool false := g34
                  clear g34
                  go_simp
                  exact hKf _ _ (Below.refl _ _) rfl
                | 4, _ =>
                  refine StepOk.yes _ 36 rfl rfl rfl rfl (fun _ _ h => h) [(6, none)] (by kernel_rfl) (fun af wf hbw hf Kf hKf => ?_)
                  obtain ⟨g6, _⟩ := hf
                  have h6 : af.tmps[6]?.getD undef = .pointer (some ⟨wr.heap.size, 0, none⟩) := g6
                  clear g6
                  go_simp
                  exact hKf _ _ (Below.refl _ _) rfl
                | 5, _ =>
                  refine StepOk.yes _ 37 rfl rfl rfl rfl (fun _ _ h => h) [(36, some 4)] (by kernel_rfl) (fun af wf hbw hf Kf hKf => ?_)
                  obtain ⟨g36, _⟩ := hf
                  have h36 : af.tmps[36]?.getD undef = .pointer (some ⟨wr.heap.size, 0, none⟩) := g36
                  clear g36
                  have cB0 := (Blk.on (Blk.drew (hPa)) hbw).cell
                  have cB1 := (Blk.on (Blk.drew (hQa)) hbw).cell
                  have cB2 := (Blk.on (Blk.drew (Bx)) hbw).cell
                  go_simp
                  exact hKf _ _ (Below.refl _ _) rfl
                | 6, _ =>
                  refine StepOk.yes _ 38 rfl rfl rfl rfl (fun _ _ h => h) [(2, none)] (by kernel_rfl) (fun af wf hbw hf Kf hKf => ?_)
                  obtain ⟨g2, _⟩ := hf
                  have h2 : af.tmps[2]?.getD undef = .pointer (some ⟨w.heap.size, 0, none⟩) := g2
                  clear g2
                  have cB0 := (Blk.on (Blk.drew (hPa)) hbw).cell
                  have cB1 := (Blk.on (Blk.drew (hQa)) hbw).cell
                  have cB2 := (Blk.on (Blk.drew (Bx)) hbw).cell
                  go_simp
                  exact hKf _ _ (Below.refl _ _) rfl
                | 7, _ =>
                  refine StepOk.yes _ 39 rfl rfl rfl rfl (fun _ _ h => h) [(38, some 6)] (by kernel_rfl) (fun af wf hbw hf Kf hKf => ?_)
                  obtain ⟨g38, _⟩ := hf
                  have h38 : af.tmps[38]?.getD undef = .agg #[.int .i64 p, .int .i64 t] := g38
                  clear g38
                  go_simp
                  refine (rsealed_any p t _ g2 g3).mono ?_
                  rintro e wN ⟨rfl, hb⟩
                  exact hKf _ _ (hb) (congrArg (Value.int .i64) HS.out.symm)
                | 8, _ =>
                  refine StepOk.yes _ 40 rfl rfl rfl rfl (fun _ _ h => h) [(37, some 5), (39, some 7)] (by kernel_rfl) (fun af wf hbw hf Kf hKf => ?_)
                  obtain ⟨g37, g39, _⟩ := hf
                  have h37 : af.tmps[37]?.getD undef = .int .i64 K := g37
                  have h39 : af.tmps[39]?.getD undef = .int .i64 S := g39
                  clear g37 g39
                  go_simp
                  exact hKf _ _ (Below.refl _ _) rfl
                | 9, _ =>
                  refine StepOk.plain _ 41 rfl rfl rfl [(35, some 3), (40, some 8)] (by kernel_rfl) (fun af wf hbw hf Kf hKf => ?_)
                  obtain ⟨g35, g40, _⟩ := hf
                  have h35 : af.tmps[35]?.getD undef = .bool false := g35
                  have h40 : af.tmps[40]?.getD undef = .bool true := g40
                  clear g35 g40
                  go_simp
                  exact hKf _ _ (Below.refl _ _) rfl
                | 10, _ =>
                  refine StepOk.plain _ 42 rfl rfl rfl [(41, some 9)] (by kernel_rfl) (fun af wf hbw hf Kf hKf => ?_)
                  obtain ⟨g41, _⟩ := hf
                  have h41 : af.tmps[41]?.getD undef = .bool true := g41
                  clear g41
                  go_simp
                  exact hKf _ _ (Below.refl _ _) rfl
                | 11, _ => exact StepOk.no _ 43 rfl rfl rfl rfl (fun _ _ h => h) (by decide) (by kernel_rfl) (fun _ => rfl)
                | 12, _ => exact StepOk.no _ 44 rfl rfl rfl rfl (fun _ _ h => h) (by decide) (by kernel_rfl) (fun _ => rfl)
                | 13, _ => exact StepOk.no _ 45 rfl rfl rfl rfl (fun _ _ h => h) (by decide) (by kernel_rfl) (fun _ => rfl)
                | 14, _ => exact StepOk.no _ 46 rfl rfl rfl rfl (fun _ _ h => h) (by decide) (by kernel_rfl) (fun _ => rfl)
                | 15, _ =>
                  refine StepOk.plain _ 47 rfl rfl rfl [(42, some 10), (46, some 14)] (by kernel_rfl) (fun af wf hbw hf Kf hKf => ?_)
                  obtain ⟨g42, g46, _⟩ := hf
                  have h42 : af.tmps[42]?.getD undef = .bool true := g42
                  have h46 : af.tmps[46]?.getD undef = undef := g46
                  clear g42 g46
                  go_simp
                  exact hKf _ _ (Below.refl _ _) rfl
                | 16, _ =>
                  refine StepOk.plain _ 48 rfl rfl rfl [(47, some 15)] (by kernel_rfl) (fun af wf hbw hf Kf hKf => ?_)
                  obtain ⟨g47, _⟩ := hf
                  have h47 : af.tmps[47]?.getD undef = .bool true := g47
                  clear g47
                  go_simp
                  exact hKf _ _ (Below.refl _ _) rfl
                | 17, _ => exact StepOk.no _ 49 rfl rfl rfl rfl (fun _ _ h => h) (by decide) (by kernel_rfl) (fun _ => rfl)
                | 18, _ => exact StepOk.no _ 50 rfl rfl rfl rfl (fun _ _ h => h) (by decide) (by kernel_rfl) (fun _ => rfl)
                | 19, _ => exact StepOk.no _ 51 rfl rfl rfl rfl (fun _ _ h => h) (by decide) (by kernel_rfl) (fun _ => rfl)
                | 20, _ => exact StepOk.nou _ 52 rfl rfl rfl rfl (fun _ _ h => h) (by kernel_rfl) (fun _ => rfl)
                | 21, _ => exact StepOk.nou _ 53 rfl rfl rfl rfl (fun _ _ h => h) (by kernel_rfl) (fun _ => rfl)
                | 22, _ => exact StepOk.nou _ 54 rfl rfl rfl rfl (fun _ _ h => h) (by kernel_rfl) (fun _ => rfl)
                | 23, _ => exact StepOk.nou _ 55 rfl rfl rfl rfl (fun _ _ h => h) (by kernel_rfl) (fun _ => rfl)
                | 24, _ => exact StepOk.nou _ 56 rfl rfl rfl rfl (fun _ _ h => h) (by kernel_rfl) (fun _ => rfl)
                | 25, _ => exact StepOk.nou _ 57 rfl rfl rfl rfl (fun _ _ h => h) (by kernel_rfl) (fun _ => rfl)
                | 26, _ => exact StepOk.nou _ 58 rfl rfl rfl rfl (fun _ _ h => h) (by kernel_rfl) (fun _ => rfl)
                | 27, _ => exact StepOk.nou _ 59 rfl rfl rfl rfl (fun _ _ h => h) (by kernel_rfl) (fun _ => rfl)
                | 28, _ => exact StepOk.nou _ 60 rfl rfl rfl rfl (fun _ _ h => h) (by kernel_rfl) (fun _ => rfl)
                | 29, _ => exact StepOk.nou _ 61 rfl rfl rfl rfl (fun _ _ h => h) (by kernel_rfl) (fun _ => rfl)
                | 30, _ => exact StepOk.no _ 62 rfl rfl rfl rfl (fun _ _ h => h) (by decide) (by kernel_rfl) (fun _ => rfl)
                | 31, _ =>
                  refine StepOk.plain _ 63 rfl rfl rfl [(48, some 16), (62, some 30)] (by kernel_rfl) (fun af wf hbw hf Kf hKf => ?_)
                  obtain ⟨g48, g62, _⟩ := hf
                  have h48 : af.tmps[48]?.getD undef = .bool true := g48
                  have h62 : af.tmps[62]?.getD undef = undef := g62
                  clear g48 g62
                  go_simp
                  exact hKf _ _ (Below.refl _ _) rfl
                | i + 32, h => exact absurd h (by show ¬ (i + 32 < 32); omega)
              · intro af wF hbF hdF hsF hbaseF hfactF
                obtain ⟨T, dsF⟩ := af
                obtain rfl : dsF = _ := hdF
                have e0 := hbaseF 0 (not_dst (by kernel_rfl))
                simp only [List.getElem?_toArray, List.getElem?_cons_zero, Option.getD_some] at e0
                have e1 := hbaseF 1 (not_dst (by kernel_rfl))
                simp only [List.getElem?_toArray, List.getElem?_cons_zero, List.getElem?_cons_succ, Option.getD_some] at e1
                have e2 := hbaseF 2 (not_dst (by kernel_rfl))
                simp only [List.getElem?_toArray, List.getElem?_cons_zero, List.getElem?_cons_succ, Option.getD_some] at e2
                have e3 := hbaseF 3 (not_dst (by kernel_rfl))
                simp only [List.getElem?_toArray, List.getElem?_cons_zero, List.getElem?_cons_succ, Option.getD_some] at e3
                have e4 := hbaseF 4 (not_dst (by kernel_rfl))
                simp only [List.getElem?_toArray, List.getElem?_cons_zero, List.getElem?_cons_succ, Option.getD_some] at e4
                have e5 := hbaseF 5 (not_dst (by kernel_rfl))
                simp only [List.getElem?_toArray, List.getElem?_cons_zero, List.getElem?_cons_succ, Option.getD_some] at e5
                have e6 := hbaseF 6 (not_dst (by kernel_rfl))
                simp only [List.getElem?_toArray, List.getElem?_cons_zero, List.getElem?_cons_succ, Option.getD_some] at e6
                have e7 := hbaseF 7 (not_dst (by kernel_rfl))
                simp only [List.getElem?_toArray, List.getElem?_cons_zero, List.getElem?_cons_succ, Option.getD_some] at e7
                have e8 := hbaseF 8 (not_dst (by kernel_rfl))
                simp only [List.getElem?_toArray, List.getElem?_cons_zero, List.getElem?_cons_succ, Option.getD_some] at e8
                have e9 := hbaseF 9 (not_dst (by kernel_rfl))
                simp only [List.getElem?_toArray, List.getElem?_cons_zero, List.getElem?_cons_succ, Option.getD_some] at e9
                have e10 := hbaseF 10 (not_dst (by kernel_rfl))
                simp only [List.getElem?_toArray, List.getElem?_cons_zero, List.getElem?_cons_succ, Option.getD_some] at e10
                have e11 := hbaseF 11 (not_dst (by kernel_rfl))
                simp only [List.getElem?_toArray, List.getElem?_cons_zero, List.getElem?_cons_succ, Option.getD_some] at e11
                have e12 := hbaseF 12 (not_dst (by kernel_rfl))
                simp only [List.getElem?_toArray, List.getElem?_cons_zero, List.getElem?_cons_succ, Option.getD_some] at e12
                have e13 := hbaseF 13 (not_dst (by kernel_rfl))
                simp only [List.getElem?_toArray, List.getElem?_cons_zero, List.getElem?_cons_succ, Option.getD_some] at e13
                have e14 := hbaseF 14 (not_dst (by kernel_rfl))
                simp only [List.getElem?_toArray, List.getElem?_cons_zero, List.getElem?_cons_succ, Option.getD_some] at e14
                have e15 := hbaseF 15 (not_dst (by kernel_rfl))
                simp only [List.getElem?_toArray, List.getElem?_cons_zero, List.getElem?_cons_succ, Option.getD_some] at e15
                have e16 := hbaseF 16 (not_dst (by kernel_rfl))
                simp only [List.getElem?_toArray, List.getElem?_cons_zero, List.getElem?_cons_succ, Option.getD_some] at e16
                have e17 := hbaseF 17 (not_dst (by kernel_rfl))
                simp only [List.getElem?_toArray, List.getElem?_cons_zero, List.getElem?_cons_succ, Option.getD_some] at e17
                have e18 := hbaseF 18 (not_dst (by kernel_rfl))
                simp only [List.getElem?_toArray, List.getElem?_cons_zero, List.getElem?_cons_succ, Option.getD_some] at e18
                have e19 := hbaseF 19 (not_dst (by kernel_rfl))
                simp only [List.getElem?_toArray, List.getElem?_cons_zero, List.getElem?_cons_succ, Option.getD_some] at e19
                have e20 := hbaseF 20 (not_dst (by kernel_rfl))
                simp only [List.getElem?_toArray, List.getElem?_cons_zero, List.getElem?_cons_succ, Option.getD_some] at e20
                have e21 := hbaseF 21 (not_dst (by kernel_rfl))
                simp only [List.getElem?_toArray, List.getElem?_cons_zero, List.getElem?_cons_succ, Option.getD_some] at e21
                have e22 := hbaseF 22 (not_dst (by kernel_rfl))
                simp only [List.getElem?_toArray, List.getElem?_cons_zero, List.getElem?_cons_succ, Option.getD_some] at e22
                have e23 := hbaseF 23 (not_dst (by kernel_rfl))
                simp only [List.getElem?_toArray, List.getElem?_cons_zero, List.getElem?_cons_succ, Option.getD_some] at e23
                have e24 := hbaseF 24 (not_dst (by kernel_rfl))
                simp only [List.getElem?_toArray, List.getElem?_cons_zero, List.getElem?_cons_succ, Option.getD_some] at e24
                have e25 := hbaseF 25 (not_dst (by kernel_rfl))
                simp only [List.getElem?_toArray, List.getElem?_cons_zero, List.getElem?_cons_succ, Option.getD_some] at e25
                have e26 := hbaseF 26 (not_dst (by kernel_rfl))
                simp only [List.getElem?_toArray, List.getElem?_cons_zero, List.getElem?_cons_succ, Option.getD_some] at e26
                have e27 := hbaseF 27 (not_dst (by kernel_rfl))
                simp only [List.getElem?_toArray, List.getElem?_cons_zero, List.getElem?_cons_succ, Option.getD_some] at e27
                have e28 := hbaseF 28 (not_dst (by kernel_rfl))
                simp only [List.getElem?_toArray, List.getElem?_cons_zero, List.getElem?_cons_succ, Option.getD_some] at e28
                have e29 := hbaseF 29 (not_dst (by kernel_rfl))
                simp only [List.getElem?_toArray, List.getElem?_cons_zero, List.getElem?_cons_succ, Option.getD_some] at e29
                have e30 := hbaseF 30 (not_dst (by kernel_rfl))
                simp only [List.getElem?_toArray, List.getElem?_cons_zero, List.getElem?_cons_succ, Option.getD_some] at e30
                have e31 := hbaseF 31 (not_dst (by kernel_rfl))
                simp only [List.getElem?_toArray, List.getElem?_cons_zero, List.getElem?_cons_succ, Option.getD_some] at e31
                have e64 := hbaseF 64 (not_dst (by kernel_rfl))
                simp only [List.getElem?_toArray, List.getElem?_cons_zero, List.getElem?_cons_succ, Option.getD_some] at e64
                have e63 := hfactF 31 63 (by decide) rfl
                replace e63 : T[63]?.getD undef = .bool true := e63
                clear hbaseF hfactF
                have hT : T = #[T[0]?.getD undef, T[1]?.getD undef, T[2]?.getD undef, T[3]?.getD undef, T[4]?.getD undef, T[5]?.getD undef, T[6]?.getD undef, T[7]?.getD undef, T[8]?.getD undef, T[9]?.getD undef, T[10]?.getD undef, T[11]?.getD undef, T[12]?.getD undef, T[13]?.getD undef, T[14]?.getD undef, T[15]?.getD undef, T[16]?.getD undef, T[17]?.getD undef, T[18]?.getD undef, T[19]?.getD undef, T[20]?.getD undef, T[21]?.getD undef, T[22]?.getD undef, T[23]?.getD undef, T[24]?.getD undef, T[25]?.getD undef, T[26]?.getD undef, T[27]?.getD undef, T[28]?.getD undef, T[29]?.getD undef, T[30]?.getD undef, T[31]?.getD undef, T[32]?.getD undef, T[33]?.getD undef, T[34]?.getD undef, T[35]?.getD undef, T[36]?.getD undef, T[37]?.getD undef, T[38]?.getD undef, T[39]?.getD undef, T[40]?.getD undef, T[41]?.getD undef, T[42]?.getD undef, T[43]?.getD undef, T[44]?.getD undef, T[45]?.getD undef, T[46]?.getD undef, T[47]?.getD undef, T[48]?.getD undef, T[49]?.getD undef, T[50]?.getD undef, T[51]?.getD undef, T[52]?.getD undef, T[53]?.getD undef, T[54]?.getD undef, T[55]?.getD undef, T[56]?.getD undef, T[57]?.getD undef, T[58]?.getD undef, T[59]?.getD undef, T[60]?.getD undef, T[61]?.getD undef, T[62]?.getD undef, T[63]?.getD undef, T[64]?.getD undef] := arr_eq T 65 hsF
                clear hsF
                rw [e0] at hT; clear e0
                rw [e1] at hT; clear e1
                rw [e2] at hT; clear e2
                rw [e3] at hT; clear e3
                rw [e4] at hT; clear e4
                rw [e5] at hT; clear e5
                rw [e6] at hT; clear e6
                rw [e7] at hT; clear e7
                rw [e8] at hT; clear e8
                rw [e9] at hT; clear e9
                rw [e10] at hT; clear e10
                rw [e11] at hT; clear e11
                rw [e12] at hT; clear e12
                rw [e13] at hT; clear e13
                rw [e14] at hT; clear e14
                rw [e15] at hT; clear e15
                rw [e16] at hT; clear e16
                rw [e17] at hT; clear e17
                rw [e18] at hT; clear e18
                rw [e19] at hT; clear e19
                rw [e20] at hT; clear e20
                rw [e21] at hT; clear e21
                rw [e22] at hT; clear e22
                rw [e23] at hT; clear e23
                rw [e24] at hT; clear e24
                rw [e25] at hT; clear e25
                rw [e26] at hT; clear e26
                rw [e27] at hT; clear e27
                rw [e28] at hT; clear e28
                rw [e29] at hT; clear e29
                rw [e30] at hT; clear e30
                rw [e31] at hT; clear e31
                generalize T[32]?.getD undef = u32 at hT
                generalize T[33]?.getD undef = u33 at hT
                generalize T[34]?.getD undef = u34 at hT
                generalize T[35]?.getD undef = u35 at hT
                generalize T[36]?.getD undef = u36 at hT
                generalize T[37]?.getD undef = u37 at hT
                generalize T[38]?.getD undef = u38 at hT
                generalize T[39]?.getD undef = u39 at hT
                generalize T[40]?.getD undef = u40 at hT
                generalize T[41]?.getD undef = u41 at hT
                generalize T[42]?.getD undef = u42 at hT
                generalize T[43]?.getD undef = u43 at hT
                generalize T[44]?.getD undef = u44 at hT
                generalize T[45]?.getD undef = u45 at hT
                generalize T[46]?.getD undef = u46 at hT
                generalize T[47]?.getD undef = u47 at hT
                generalize T[48]?.getD undef = u48 at hT
                generalize T[49]?.getD undef = u49 at hT
                generalize T[50]?.getD undef = u50 at hT
                generalize T[51]?.getD undef = u51 at hT
                generalize T[52]?.getD undef = u52 at hT
                generalize T[53]?.getD undef = u53 at hT
                generalize T[54]?.getD undef = u54 at hT
                generalize T[55]?.getD undef = u55 at hT
                generalize T[56]?.getD undef = u56 at hT
                generalize T[57]?.getD undef = u57 at hT
                generalize T[58]?.getD undef = u58 at hT
                generalize T[59]?.getD undef = u59 at hT
                generalize T[60]?.getD undef = u60 at hT
                generalize T[61]?.getD undef = u61 at hT
                generalize T[62]?.getD undef = u62 at hT
                rw [e63] at hT; clear e63
                rw [e64] at hT; clear e64
                subst hT
                go_wp2_with fail
                go_ret
                exact ⟨by rw [hno.out]; rfl, (by (have q_hbF := Below.size hbF; (try simp at q_hbF); have q_ba := Below.size ba; (try simp at q_ba); repeat (first | exact Below.refl _ _ | (refine Below.trans ?_ (Below.mono hbF (by first | omega | (simp; omega) | simp))) | (refine Below.trans ?_ (Below.mono ba (by first | omega | (simp; omega) | simp))) | (refine Below.setCell ?_ (by first | omega | (simp; omega) | simp) _) | (refine Below.alloc ?_ (by first | omega | (simp; omega) | simp) _) | apply Below.drew | apply below_drewN)))⟩
        · obtain rfl : k = n := by omega
          have hyes := Lib.hid (show mayLog p t es = true by rw [hres.out]; have := HX.out; rw [List.take_of_length_le (by omega)] at this; rw [this]; rfl)
          go_wp2_with fail
          go_ret
          exact ⟨by rw [hyes.out]; rfl, hbel⟩
    · have hres := Lib.hid (show mayLog p t es = false by unfold mayLog; rw [decide_eq_false hlen1]; simp)
      have hcase : n = 0 ∨ (1 ≤ n ∧ t < n) := by omega
      clear hlen1
      rcases hcase with h0 | ⟨h1, h2⟩
      · subst h0
        go_enter Try.func39, Try.ntmps39
        go_wp2_with fail
        refine (grmay_any p t _).mono ?_
        rintro e w1 ⟨rfl, hb1⟩
        have cQ := (Q0.on hb1).cell
        rw [hm]
        go_wp2_with fail
        go_ret
        exact ⟨by rw [hres.out]; rfl, (by (have q_hb1 := Below.size hb1; (try simp at q_hb1); repeat (first | exact Below.refl _ _ | (refine Below.trans ?_ (Below.mono hb1 (by first | omega | (simp; omega) | simp))) | (refine Below.setCell ?_ (by first | omega | (simp; omega) | simp) _) | (refine Below.alloc ?_ (by first | omega | (simp; omega) | simp) _) | apply Below.drew | apply below_drewN)))⟩
      · have l0' : ((n : Int) == 0) = false := by simp; omega
        have l0 : n ≠ 0 := by omega
        go_enter Try.func39, Try.ntmps39
        go_wp2_with fail
        refine (grmay_any p t _).mono ?_
        rintro e w1 ⟨rfl, hb1⟩
        have cQ := (Q0.on hb1).cell
        have cP := (P0.on hb1).cell
        rw [hm]
        go_wp2_with fail
        go_ret
        exact ⟨by rw [hres.out]; rfl, (by (have q_hb1 := Below.size hb1; (try simp at q_hb1); repeat (first | exact Below.refl _ _ | (refine Below.trans ?_ (Below.mono hb1 (by first | omega | (simp; omega) | simp))) | (refine Below.setCell ?_ (by first | omega | (simp; omega) | simp) _) | (refine Below.alloc ?_ (by first | omega | (simp; omega) | simp) _) | apply Below.drew | apply below_drewN)))⟩
end Go.Proofs.Ythepgnankelmeaa
