/- Heads: the one as the other. -/
import Derived.Test.YtdnjlhcmihmgdaaRoots2
import Derived.Laws.ResultCell
namespace Go.Proofs.Ytdnjlhcmihmgdaa
open Go.RowKit

theorem Blk.loadVar {P : Program} {w : World} {g : Nat} {T : TypeId} {cur : Array Value} (hB : Blk w g T cur) (ty : TypeId) (d : TypeDesc) (hu : P.underlying ty = some d) (hd : d.isRow = true) (hi : (P.info? ty).map (·.size) = some cur.size) : (loadVar ty ⟨g, 0, none⟩).run P w = .ok (.agg cur) w := by
  have := run_loadVar_mid (P := P) w g 0 ty cur.toList d (fun j v hv => by rw [hB.cell, Nat.zero_add]; simpa using hv) hu hd (by simpa using hi)
  simpa using this

theorem results_cell1 {fn : Func} {p : Tmp} {ty : TypeId} (h : fn.results = #[.cell p ty]) (tmps : Array Value) (P : Program) (w : World) :
    (results fn tmps).run P w = ((asAddr (tmps.getD p undef)).run P w).andThen fun a w₁ => (loadVar ty a).run P w₁ := by
  simp only [results, h]
  simp [Sem.run_bind, Result.andThen]
theorem hd_one (n : Int) (f : Nat → Int) : (hd n f).all (fun x => x.oneCell') = true := by simp [hd, Value.oneCell']
set_option maxRecDepth 100000 in
set_option maxHeartbeats 1000000 in
theorem oursR_any (n : Int) (f : Nat → Int) (w : World) :
    Calls Try.prog 40 #[.agg (hd n f)] w fun e w' => e = .returned (.agg (hd n f)) ∧ Below w.heap.size w w' := by
  have H1 : Blk (((w.alloc (.cells (hd n f) 66)).alloc (.cells (hz 0) 70)).alloc (.cells (hz n) 70)) (w.heap.size + 1 + 1) 70 (hz n) := by simpa using Blk.new ((w.alloc (.cells (hd n f) 66)).alloc (.cells (hz 0) 70)) 70 (hz n)
  have H0 : Blk (((w.alloc (.cells (hd n f) 66)).alloc (.cells (hz 0) 70)).alloc (.cells (hz n) 70)) w.heap.size 66 (hd n f) := ((Blk.new w 66 (hd n f)).alloc _).alloc _
  have H2 : Blk (((w.alloc (.cells (hd n f) 66)).alloc (.cells (hz 0) 70)).alloc (.cells (hz n) 70)) (w.heap.size + 1) 70 (hz 0) := by simpa using (Blk.new (w.alloc (.cells (hd n f) 66)) 70 (hz 0)).alloc (.cells (hz n) 70)
  have hb0 : Below w.heap.size w (((w.alloc (.cells (hd n f) 66)).alloc (.cells (hz 0) 70)).alloc (.cells (hz n) 70)) := (by (repeat (first | exact Below.refl _ _ | (refine Below.setCell ?_ (by first | omega | (simp; omega) | simp) _) | (refine Below.alloc ?_ (by first | omega | (simp; omega) | simp) _) | apply Below.drew | apply below_drewN)))
  go_enter Try.func40, Try.ntmps40
  go_wp2_with (refine wpList_load_blk rfl 64 (.tmp 9) rfl w.heap.size 1 66 (hd n f) (ar f) _ rfl H0 (hd_ar n f) Try.underlying64 rfl (by kernel_rfl) ?_)
  rw [← upto_zero n f] at H1
  go_loopw [11] (fun i wr => ∃ k : Nat, k ≤ 16 ∧ i = .int .i64 k ∧ Blk wr (w.heap.size + 1) 70 (hz 0) ∧ Blk wr (w.heap.size + 1 + 1) 70 (hd n (upto k f)) ∧ Below w.heap.size w wr) (fun i _ => 16 - (intOf i).toNat)
  case atStart => exact ⟨0, by omega, rfl, H2, H1, hb0⟩
  case round =>
    clear H0 H1 H2 hb0
    obtain ⟨k, hk, rfl, hB1, hB2, hbel⟩ := hrel
    by_cases hlt : k < 16
    · have q1 : (k : Int) < 16 := by omega
      have cG := (hB2.cell (1 + k)).trans (hd_get n (upto k f) hlt)
      have fG := hB2.frozen
      have hix := ix_doc f hlt
      have hB2' := hB2.set_ (1 + k) (.int .u64 (f k))
      rw [upto_set n f hlt] at hB2'
      have hB1' := hB1.far (p := ⟨w.heap.size + 1 + 1, 1 + k, none⟩) (by simp) (.int .u64 (f k))
      go_wp2_with fail
      go_roundw
      case rel => exact ⟨k + 1, by omega, by go_num, hB1', hB2', (by (have q_hbel := Below.size hbel; (try simp at q_hbel); repeat (first | exact Below.refl _ _ | (refine Below.trans ?_ (Below.mono hbel (by first | omega | (simp; omega) | simp))) | (refine Below.setCell ?_ (by first | omega | (simp; omega) | simp) _) | (refine Below.alloc ?_ (by first | omega | (simp; omega) | simp) _) | apply Below.drew | apply below_drewN)))⟩
      case measure => simp [intOf] <;> omega
    · obtain rfl : k = 16 := by omega
      rw [upto_all] at hB2
      go_wp2_with (first | (refine wpList_load_blk rfl 70 (.tmp 3) rfl (w.heap.size + 1 + 1) 0 70 (hd n f) (hd n f) _ rfl hB2 (hd_self n f) Try.underlying70 rfl (by kernel_rfl) ?_) | (refine wpList_store_blk rfl 70 (.tmp 2) (.tmp 20) rfl (w.heap.size + 1) 70 (hz 0) (hd n f) rfl rfl hB1 rfl (by kernel_rfl) (hd_one n f) ?_; intro W9 hB9 hK9))
      have hld := hB9.loadVar (P := Try.prog) 70 _ Try.underlying70 rfl (by kernel_rfl)
      refine bodyPost_ret (v := .agg (hd n f)) ?_ rfl ⟨rfl, hbel.trans (hK9.below hbel.size (by simp))⟩
      rw [results_cell1 rfl]
      simp [Act.put, asAddr, Result.andThen, hld]
set_option maxRecDepth 100000 in
set_option maxHeartbeats 1000000 in
theorem plainR_any (n : Int) (f : Nat → Int) (w : World) :
    Calls Try.prog 43 #[.agg (hd n f)] w fun e w' => e = .returned (.agg (hd n f)) ∧ Below w.heap.size w w' := by
  have H1 : Blk (((w.alloc (.cells (hd n f) 70)).alloc (.cells (hz 0) 66)).alloc (.cells (hz n) 66)) (w.heap.size + 1 + 1) 66 (hz n) := by simpa using Blk.new ((w.alloc (.cells (hd n f) 70)).alloc (.cells (hz 0) 66)) 66 (hz n)
  have H0 : Blk (((w.alloc (.cells (hd n f) 70)).alloc (.cells (hz 0) 66)).alloc (.cells (hz n) 66)) w.heap.size 70 (hd n f) := ((Blk.new w 70 (hd n f)).alloc _).alloc _
  have H2 : Blk (((w.alloc (.cells (hd n f) 70)).alloc (.cells (hz 0) 66)).alloc (.cells (hz n) 66)) (w.heap.size + 1) 66 (hz 0) := by simpa using (Blk.new (w.alloc (.cells (hd n f) 70)) 66 (hz 0)).alloc (.cells (hz n) 66)
  have hb0 : Below w.heap.size w (((w.alloc (.cells (hd n f) 70)).alloc (.cells (hz 0) 66)).alloc (.cells (hz n) 66)) := (by (repeat (first | exact Below.refl _ _ | (refine Below.setCell ?_ (by first | omega | (simp; omega) | simp) _) | (refine Below.alloc ?_ (by first | omega | (simp; omega) | simp) _) | apply Below.drew | apply below_drewN)))
  go_enter Try.func43, Try.ntmps43
  go_wp2_with (refine wpList_load_blk rfl 68 (.tmp 9) rfl w.heap.size 1 70 (hd n f) (ar f) _ rfl H0 (hd_ar n f) Try.underlying68 rfl (by kernel_rfl) ?_)
  rw [← upto_zero n f] at H1
  go_loopw [11] (fun i wr => ∃ k : Nat, k ≤ 16 ∧ i = .int .i64 k ∧ Blk wr (w.heap.size + 1) 66 (hz 0) ∧ Blk wr (w.heap.size + 1 + 1) 66 (hd n (upto k f)) ∧ Below w.heap.size w wr) (fun i _ => 16 - (intOf i).toNat)
  case atStart => exact ⟨0, by omega, rfl, H2, H1, hb0⟩
  case round =>
    clear H0 H1 H2 hb0
    obtain ⟨k, hk, rfl, hB1, hB2, hbel⟩ := hrel
    by_cases hlt : k < 16
    · have q1 : (k : Int) < 16 := by omega
      have cG := (hB2.cell (1 + k)).trans (hd_get n (upto k f) hlt)
      have fG := hB2.frozen
      have hix := ix_own f hlt
      have hB2' := hB2.set_ (1 + k) (.int .u64 (f k))
      rw [upto_set n f hlt] at hB2'
      have hB1' := hB1.far (p := ⟨w.heap.size + 1 + 1, 1 + k, none⟩) (by simp) (.int .u64 (f k))
      go_wp2_with fail
      go_roundw
      case rel => exact ⟨k + 1, by omega, by go_num, hB1', hB2', (by (have q_hbel := Below.size hbel; (try simp at q_hbel); repeat (first | exact Below.refl _ _ | (refine Below.trans ?_ (Below.mono hbel (by first | omega | (simp; omega) | simp))) | (refine Below.setCell ?_ (by first | omega | (simp; omega) | simp) _) | (refine Below.alloc ?_ (by first | omega | (simp; omega) | simp) _) | apply Below.drew | apply below_drewN)))⟩
      case measure => simp [intOf] <;> omega
    · obtain rfl : k = 16 := by omega
      rw [upto_all] at hB2
      go_wp2_with (first | (refine wpList_load_blk rfl 66 (.tmp 3) rfl (w.heap.size + 1 + 1) 0 66 (hd n f) (hd n f) _ rfl hB2 (hd_self n f) Try.underlying66 rfl (by kernel_rfl) ?_) | (refine wpList_store_blk rfl 66 (.tmp 2) (.tmp 20) rfl (w.heap.size + 1) 66 (hz 0) (hd n f) rfl rfl hB1 rfl (by kernel_rfl) (hd_one n f) ?_; intro W9 hB9 hK9))
      have hld := hB9.loadVar (P := Try.prog) 66 _ Try.underlying66 rfl (by kernel_rfl)
      refine bodyPost_ret (v := .agg (hd n f)) ?_ rfl ⟨rfl, hbel.trans (hK9.below hbel.size (by simp))⟩
      rw [results_cell1 rfl]
      simp [Act.put, asAddr, Result.andThen, hld]
end Go.Proofs.Ytdnjlhcmihmgdaa
