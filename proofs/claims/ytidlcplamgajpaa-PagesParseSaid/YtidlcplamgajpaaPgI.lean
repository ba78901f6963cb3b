/- slices.Chunk: the library's iterator over pieces of 16 bytes of a slice of 256. -/
import Derived.RangeFuncNested
import Derived.RangeFuncBound
import Derived.RangeFuncCalls
import Derived.RangeFuncLeaves
import Derived.RangeFuncFrom
import Derived.RangeFuncBox
import Derived.Shelf.Abstract
import Derived.Shelf.RegionOpen
import Derived.WalkKit
import Derived.OwnWalkIn
import Derived.TacticsInMore
import Derived.LoopNIn
import Derived.LoopIn
import Derived.Test.YtidlcplamgajpaaProg
import Derived.Test.YtidlcplamgajpaaBase
import Derived.Test.YtidlcplamgajpaaSlices
import Derived.Test.YtidlcplamgajpaaKept
import Derived.Test.YtidlcplamgajpaaFresh
import Derived.Deep.QuietTactic
import Derived.ControlIn
namespace Go.Proofs.Ytidlcplamgajpaa
open Go.RowKit Go.Shelf
attribute [local go_sem] Oper.semAt_some

abbrev K16 := { k : Nat // k < 16 }
def k16 (j : Nat) : K16 := ⟨j % 16, Nat.mod_lt _ (by decide)⟩
theorem k16_val {j : Nat} (h : j < 16) : (k16 j).1 = j := Nat.mod_eq_of_lt h
def upto (k : Nat) : List K16 := (List.range k).map k16
theorem upto_succ (k : Nat) : upto (k + 1) = upto k ++ [k16 k] := by simp [upto, List.range_succ]
theorem upto_length (k : Nat) : (upto k).length = k := by simp [upto]
/-- The two boxes of the iterator are kept. -/
def KpC (Bs Bn : Nat) (A B : World) : Prop :=
  (∀ v, A.cell? ⟨Bs, 0, none⟩ = some v → B.cell? ⟨Bs, 0, none⟩ = some v) ∧ (∀ v, A.cell? ⟨Bn, 0, none⟩ = some v → B.cell? ⟨Bn, 0, none⟩ = some v)
theorem KpC.trans {Bs Bn : Nat} {A B C : World} (h : KpC Bs Bn A B) (k : KpC Bs Bn B C) : KpC Bs Bn A C := ⟨fun v e => k.1 v (h.1 v e), fun v e => k.2 v (h.2 v e)⟩
def encC (ab off : Nat) (x : K16) : Array Value := #[.slice (some ⟨ab, off + x.1 * 16, none⟩) 16 16]

set_option maxHeartbeats 1000000 in
theorem chunkmk_in (F : Fence) (n : Nat) (h5 : F.fn 45) (hro : F.round = none) (A : Option Addr) (len cap : Nat) (w : World) :
    CallsIn F n Try.prog 45 #[.slice A len cap, .int .i64 16] w fun e w' => e = .returned (.func (.func 56) #[] #[.pointer (some ⟨w.heap.size, 0, none⟩), .pointer (some ⟨w.heap.size + 1, 0, none⟩)]) ∧ w' = (w.alloc (.cells #[.slice A len cap] 57)).alloc (.cells #[.int .i64 16] 3) := by
  refine callsIn_of_wp Try.func45 rfl h5 ?_ hro
  simp only [Try.ntmps45, List.size_toArray, List.length_cons, List.length_nil, Nat.reduceAdd, Nat.reduceSub, Array.replicate_succ, Array.replicate_zero, List.push_toArray, List.append_toArray, List.nil_append, List.cons_append]
  gi_wp2
  go_ret
  simp

set_option maxRecDepth 100000 in
set_option maxHeartbeats 2000000 in
theorem chunk1_in (n : Nat) (hn : 1 ≤ n) (l Bs Bn ab off cap : Nat) (hcap : 256 ≤ cap) (hm : cap ≤ maxLen) (J Jx : List K16 → World → Prop) (W : World) (hJ : AbidesFrom W.heap.size J)
    (hY : ∀ pre x W, J pre W → pre.length < 16 → YieldAt Fence.wide (n - 1) Try.prog l (encC ab off x) W fun e W' =>
      (e = .returned (.bool true) ∧ J (pre ++ [x]) W' ∧ KpC Bs Bn W W') ∨ (e = .returned (.bool false) ∧ Jx (pre ++ [x]) W'))
    (hBs : W.cell? ⟨Bs, 0, none⟩ = some (.slice (some ⟨ab, off, none⟩) 256 cap)) (hBn : W.cell? ⟨Bn, 0, none⟩ = some (.int .i64 16)) (h0 : J [] W) :
    CallsIn Fence.wide n Try.prog 56 #[.func (.yield l) #[] #[], .pointer (some ⟨Bs, 0, none⟩), .pointer (some ⟨Bn, 0, none⟩)] W fun e W' => (∃ v, e = .returned v) ∧
      ((∃ ys, ys = upto 16 ∧ J ys W') ∨ (∃ pre, (∃ k, k ≤ 16 ∧ pre = upto k) ∧ Jx pre W')) := by
  refine callsIn_of_wp Try.func56 rfl trivial ?_ rfl
  simp only [Try.ntmps56, List.size_toArray, List.length_cons, List.length_nil, Nat.reduceAdd, Nat.reduceSub, Array.replicate_succ, Array.replicate_zero, List.push_toArray, List.append_toArray, List.nil_append, List.cons_append]
  gi_wp2
  gi_loopw [4] (fun i wr => ∃ k : Nat, k ≤ 16 ∧ i = .int .i64 ((k * 16 : Nat) : Int) ∧ J (upto k) wr ∧ KpC Bs Bn W wr)
    (fun i _ => 256 - (intOf i).toNat)
  case atStart => exact ⟨0, Nat.zero_le _, rfl, h0, fun _ h => h, fun _ h => h⟩
  case round =>
    obtain ⟨k, hk, rfl, hJs, hnx⟩ := hrel
    have hBs' := hnx.1 _ hBs
    have hBn' := hnx.2 _ hBn
    by_cases hlt : k < 16
    · have hK : k * 16 ≤ 256 := by omega
      have hK2 : ((k * 16 : Nat) : Int) ≤ 256 := by omega
      have hK3 : (0 : Int) ≤ ((k * 16 : Nat) : Int) := by omega
      gi_wp2
      refine wpIn_wide.2 ?_
      go_quiet (fail)
      obtain ⟨wy, hwy⟩ : ∃ wy, wr.drewN nq = wy := ⟨_, rfl⟩
      have hg : wr.grownBy wy none := by subst hwy; exact ⟨rfl, rfl, rfl, Nat.le_refl _, fun _ _ _ => rfl⟩
      have hJs' := hJ _ wr wy none hJs hg (fun r e => by cases e)
      have hc1 : wy.cell? ⟨Bs, 0, none⟩ = some (.slice (some ⟨ab, off, none⟩) 256 cap) := by subst hwy; simpa using hBs'
      have hc2 : wy.cell? ⟨Bn, 0, none⟩ = some (.int .i64 16) := by subst hwy; simpa using hBn'
      rw [hwy]
      obtain ⟨fn, tmps, assign, body, hy, hR⟩ := hY _ (k16 k) wy hJs' (by rw [upto_length]; exact hlt)
      simp only [encC, k16_val hlt] at hy
      have hky : KpC Bs Bn wr wy := ⟨fun v e => by subst hwy; simpa using e, fun v e => by subst hwy; simpa using e⟩
      clear hBs' hBn' hwy
      gi_wp2
      refine hR.mono ?_
      rintro e W3 (⟨rfl, hJ3, hk3⟩ | ⟨rfl, hJx3⟩)
      · have hc3 := hk3.2 _ hc2
        gi_wp2
        go_roundw
        case rel => exact ⟨k + 1, by omega, by simp <;> omega, by rw [upto_succ]; exact hJ3, hnx.trans (hky.trans hk3)⟩
        case measure => simp [intOf] <;> omega
      · gi_wp2
        refine bodyPost_ret (results_none rfl _ _ _) rfl ?_
        exact ⟨⟨_, rfl⟩, .inr ⟨_, ⟨k + 1, by omega, (upto_succ _).symm⟩, hJx3⟩⟩
    · obtain rfl : k = 16 := by omega
      gi_wp2
      go_end0
      exact ⟨⟨_, rfl⟩, .inl ⟨_, rfl, hJs⟩⟩
theorem chunk_stops (n : Nat) (hn : 1 ≤ n) (Bs Bn ab off cap : Nat) (hcap : 256 ≤ cap) (hm : cap ≤ maxLen) (w : World) (hs : Bs < w.heap.size) (hn' : Bn < w.heap.size)
    (hBs : w.cell? ⟨Bs, 0, none⟩ = some (.slice (some ⟨ab, off, none⟩) 256 cap)) (hBn : w.cell? ⟨Bn, 0, none⟩ = some (.int .i64 16)) :
    SeqStopsK Fence.wide n Try.prog 56 #[.pointer (some ⟨Bs, 0, none⟩), .pointer (some ⟨Bn, 0, none⟩)] (fun x : K16 => #[Value.slice (some ⟨ab, off + x.1 * 16, none⟩) 16 16]) (KpC Bs Bn) (fun ys => ys = upto 16) (fun pre => ∃ k, k ≤ 16 ∧ pre = upto k) 16 w :=
  fun l J Jx W hW hJ _ hY h0 =>
    chunk1_in n hn l Bs Bn ab off cap hcap hm J Jx W hJ hY ((hW.cell (p := ⟨Bs, 0, none⟩) hs).trans hBs) ((hW.cell (p := ⟨Bn, 0, none⟩) hn').trans hBn) h0
theorem KpC.t {Bs Bn : Nat} {A B C : World} : KpC Bs Bn A B → KpC Bs Bn B C → KpC Bs Bn A C := KpC.trans
theorem KpC.below {Bs Bn n₀ : Nat} {A B : World} (h : Below n₀ A B) (hs : Bs < n₀) (hn : Bn < n₀) : KpC Bs Bn A B := ⟨fun _ e => (h.cell (p := ⟨Bs, 0, none⟩) hs).trans e, fun _ e => (h.cell (p := ⟨Bn, 0, none⟩) hn).trans e⟩
theorem KpC.b {Bs Bn : Nat} {w : World} (hs : Bs < w.heap.size) (hn : Bn < w.heap.size) (W : World) (l : Nat) (o o' : Obj) (hl : w.heap.size ≤ l) (h : W.heap[l]? = some o) (h1 : o.isCells = false) (h2 : o.isWalk = false) : KpC Bs Bn W (W.putObj l o') :=
  .below (belowK_b (n₀ := w.heap.size) (Nat.le_refl _) W l o o' hl h h1 h2) hs hn
/-- What keeps all that lay keeps what is no cells. -/
theorem KeepsOthers.ofBelow {A B : World} (h : Below A.heap.size A B) : KeepsOthers A B :=
  KeepsOthers.of_grownBy (row := none) ⟨h.os, h.tape, h.output, h.size, fun k hk _ => h.block k hk⟩ (by intro k _ e; cases e)
section
variable {α : Type} {E : Enc α} {F : Fence} {nf : Nat} {P : Program}
theorem wpListIn_append_G (w : World) {ops : Array Oper} {rest : List Oper} {o : Oper} {a : Act} {Q : Exit → Act → World → Prop} (hgd : o.guard = none) (s x : Operand) (t : TypeId)
    (ho : o.op = .call { callee := .builtin .append, args := #[s, x], argTypes := #[t, t] })
    (base : Nat) (e : TypeId) {z : Value} {bytes : Nat} (ht : P.underlying t = some (.slice e)) (hi : (P.info? e).map (fun i => (i.zero, i.size, i.bytes)) = some (some z, E.sz, bytes)) (hzs : z.cells.size = E.sz)
    (v : Value) (l : List α) (hs : a.eval s = v) (hF : FreshG E e base w v l) (A : Option Addr) (m c : Nat) (l2 : List α) (hx : a.eval x = .slice A m c) (hr : RdG E w A m l2) (hlen : (l.length + m) * bytes ≤ 140737488355328) (h63 : l.length + m ≤ 140737488355328) (hbase : base ≤ w.heap.size)
    (h : ∀ v' w', FreshG E e base w' v' (l ++ l2) → w.grownBy w' v.ownBlock → Below base w w' → wpListIn F nf P ops Q rest (a.put o.dst v') w') : wpListIn F nf P ops Q (o :: rest) a w := by
  refine wpListIn_plain hgd fun _ hK => ?_
  obtain ⟨v', w', hrun, h2, h3, h4⟩ := run_append_G (P := P) w base t o.type e ht hi hzs v l hF A m c l2 hr hlen h63 hbase
  unfold Oper.wpIn
  refine ⟨?_, ?_⟩
  · simp [Oper.about, ho, resolve, Target.leads, Sem.run_pure]
  · rw [Oper.semAt_plain F _ _ (by rw [ho]; intro c hc'; cases hc')]
    simp [execOp, ho, resolve, invoke, builtin, hs, hx, hrun, Result.andThen]
    exact hK _ _ (h v' w' h2 h3 h4)
end
section
variable {A A' : World} {row : Option Nat} (hg : A.grownBy A' row) (hr : ∀ r, row = some r → ∃ o : Obj, A.heap[r]? = some o ∧ o.isCells = false)
include hg hr
theorem Blk.turned {g : Nat} {T : TypeId} {cs : Array Value} (h : Blk A g T cs) : Blk A' g T cs :=
  h.grown hg (fun e => by
    obtain ⟨o, ho, hc⟩ := hr g e.symm
    rw [show A.heap[g]? = _ from h] at ho
    cases ho
    cases hc)
theorem FreshG.turned {α : Type} {E : Enc α} {B : Nat} {T : TypeId} {v : Value} {l : List α} (h : FreshG E T B A v l) : FreshG E T B A' v l := by
  obtain ⟨A0, c, rfl, hown⟩ := h
  refine ⟨A0, c, rfl, hown.kept hg ?_⟩
  rcases hown.2 with ⟨e, _⟩ | ⟨g, cap, cur, e, _, hgb, _⟩
  · exact .inl (by rw [e]; rfl)
  · refine .inr fun e' => ?_
    rw [e] at e'
    obtain ⟨o, ho, hc⟩ := hr g (by simpa [Value.ownBlock] using e'.symm)
    rw [hgb] at ho
    cases ho
    cases hc
end
theorem KpC.blk {Bs Bn : Nat} {A B : World} {T T' : TypeId} {u u' : Value} (h1 : Blk A Bs T #[u]) (h2 : Blk A Bn T' #[u']) (h3 : Blk B Bs T #[u]) (h4 : Blk B Bn T' #[u']) : KpC Bs Bn A B :=
  ⟨fun _ e => (h3.cell 0).trans ((h1.cell 0).symm.trans e), fun _ e => (h4.cell 0).trans ((h2.cell 0).symm.trans e)⟩
end Go.Proofs.Ytidlcplamgajpaa
