/- Scripts: the document's bytes; acts as the document's. -/
import Derived.Test.YthlgagjnlnakkaaScriptM
import Derived.Test.YthlgagjnlnakkaaRefNum
namespace Go.Proofs.Ythlgagjnlnakkaa
open Go.RowKit

set_option maxRecDepth 100000 in
set_option maxHeartbeats 8000000 in
theorem rabytes_any (f1 : Int) (f2 : Bool) (f3 f4 f5 f6 : Int) (A : Option Addr) (n c : Nat) (L : List UInt8) (w : World) (ha : Rd w A n L) (hm : mayA ((f1, f2, f3, f4, f5, f6), L) = true) :
    Calls Try.prog 15 #[actV f1 f2 f3 f4 f5 f6 A n c] w (Gives 5 w (encA ((f1, f2, f3, f4, f5, f6), L))) := by
  have hl := ha.len
  obtain ⟨⟨h10, h11⟩, hL, ⟨h30, h31⟩, ⟨h40, h41⟩, ⟨h50, h51⟩, ⟨h60, h61⟩⟩ := mayA_range hm
  have hn0 : n ≤ 1024 := by omega
  have hk8 := byteI_small (x := f1) h10 (by omega)
  have hw8 : IntKind.u8.wrap f1 = f1 := by rw [IntKind.wrap_u8]; omega
  clear hm
  cases f2 with
  | false =>
    have hb0 := Lib.hid (show bodyA ((f1, false, f3, f4, f5, f6), L) 0 = [byteI f1 0, 0] from rfl)
    have hb5 := Lib.hid (show encA ((f1, false, f3, f4, f5, f6), L) = bodyA ((f1, false, f3, f4, f5, f6), L) 5 ++ L from rfl)
    obtain ⟨W0, hW0⟩ : ∃ W0, W0 = (w.alloc (.cells #[.int .i64 f1, .bool false, .int .i64 f3, .int .i64 f4, .int .i64 f5, .int .i64 f6, .slice A n c] 32)).alloc (.cells #[.int .u8 f1, .int .u8 0] 5) := ⟨_, rfl⟩
    have hB : Blk W0 w.heap.size 32 #[.int .i64 f1, .bool false, .int .i64 f3, .int .i64 f4, .int .i64 f5, .int .i64 f6, .slice A n c] := by rw [hW0]; exact (Blk.new _ _ _).alloc _
    have hF : Fresh 5 (w.heap.size + 1) W0 (.slice (some ⟨w.heap.size + 1, 0, none⟩) 2 2) (bodyA ((f1, false, f3, f4, f5, f6), L) 0) := by
      rw [hb0.out]
      have B9 : Blk W0 (w.heap.size + 1) 5 #[.int .u8 f1, .int .u8 0] := by
        rw [hW0]
        simpa using Blk.new (w.alloc (.cells #[.int .i64 f1, .bool false, .int .i64 f3, .int .i64 f4, .int .i64 f5, .int .i64 f6, .slice A n c] 32)) 5 #[.int .u8 f1, .int .u8 0]
      exact Fresh.of_blk B9 (by omega) (by unfold maxLen; omega) rfl (by simp [bv, hk8])
    have hbel : Below w.heap.size w W0 := by rw [hW0]; exact (by (repeat (first | exact Below.refl _ _ | (refine Below.setCell ?_ (by first | omega | (simp; omega) | simp) _) | (refine Below.alloc ?_ (by first | omega | (simp; omega) | simp) _) | apply Below.drew | apply below_drewN)))
    have hz := hB.lt
    go_enter Try.func15, Try.ntmps15
    go_upto_region 4 with (fail)
    rw [← hW0]
    clear hW0 hb0 hk8 hw8
    have cB := hB.cell
    have hst0 := Lib.hid (bodyA_step (e := ((f1, false, f3, f4, f5, f6), L)) (k := 0) (x := f3) (by simp [numsA, hl]))
    have hwu0 : IntKind.u64.wrap (f3) = f3 := by rw [IntKind.wrap_u64]; omega
    go_wp2_with fail
    refine (rput_any 2 f3 _ (by omega) (by omega) (by omega)).mono ?_
    rintro e wp0 ⟨vp0, rfl, hFp, hbp⟩
    obtain ⟨Ap0, cp0, rfl, hRp, _, _, _⟩ := hFp.rdn 2 (putL_len _ _)
    have hB := hB.on hbp
    have hF := hF.below hbp
    have cB := hB.cell
    have hz := hB.lt
    have hbel : Below w.heap.size w wp0 := (by (have q_hbp := Below.size hbp; (try simp at q_hbp); have q_hbel := Below.size hbel; (try simp at q_hbel); repeat (first | exact Below.refl _ _ | (refine Below.trans ?_ (Below.mono hbp (by first | omega | (simp; omega) | simp))) | (refine Below.trans ?_ (Below.mono hbel (by first | omega | (simp; omega) | simp))) | (refine Below.setCell ?_ (by first | omega | (simp; omega) | simp) _) | (refine Below.alloc ?_ (by first | omega | (simp; omega) | simp) _) | apply Below.drew | apply below_drewN)))
    clear hbp hFp
    go_upto_region 5 with (at_builtin; refine wpList_append_bytes _ rfl (.tmp 12) (.tmp 16) _ rfl (w.heap.size + 1) 5 Try.underlying30 info8 _ _ rfl hF _ _ _ (putL 2 f3) rfl hRp (by rw [bodyA_len (by omega)]; omega) (by omega) ?_; intro b0 wq0 hFq hgq hbq)
    rw [hst0.out] at hFq
    have hF := hFq
    have hB := hB.below hbq (by omega)
    have cB := hB.cell
    have hbel : Below w.heap.size w wq0 := (by (have q_hbq := Below.size hbq; (try simp at q_hbq); have q_hbel := Below.size hbel; (try simp at q_hbel); repeat (first | exact Below.refl _ _ | (refine Below.trans ?_ (Below.mono hbq (by first | omega | (simp; omega) | simp))) | (refine Below.trans ?_ (Below.mono hbel (by first | omega | (simp; omega) | simp))) | (refine Below.setCell ?_ (by first | omega | (simp; omega) | simp) _) | (refine Below.alloc ?_ (by first | omega | (simp; omega) | simp) _) | apply Below.drew | apply below_drewN)))
    clear hbq hgq hFq hRp hst0 hwu0
    have hst1 := Lib.hid (bodyA_step (e := ((f1, false, f3, f4, f5, f6), L)) (k := 1) (x := f4) (by simp [numsA, hl]))
    have hwu1 : IntKind.u64.wrap (f4) = f4 := by rw [IntKind.wrap_u64]; omega
    go_wp2_with fail
    refine (rput_any 2 f4 _ (by omega) (by omega) (by omega)).mono ?_
    rintro e wp1 ⟨vp1, rfl, hFp, hbp⟩
    obtain ⟨Ap1, cp1, rfl, hRp, _, _, _⟩ := hFp.rdn 2 (putL_len _ _)
    have hB := hB.on hbp
    have hF := hF.below hbp
    have cB := hB.cell
    have hz := hB.lt
    have hbel : Below w.heap.size w wp1 := (by (have q_hbp := Below.size hbp; (try simp at q_hbp); have q_hbel := Below.size hbel; (try simp at q_hbel); repeat (first | exact Below.refl _ _ | (refine Below.trans ?_ (Below.mono hbp (by first | omega | (simp; omega) | simp))) | (refine Below.trans ?_ (Below.mono hbel (by first | omega | (simp; omega) | simp))) | (refine Below.setCell ?_ (by first | omega | (simp; omega) | simp) _) | (refine Below.alloc ?_ (by first | omega | (simp; omega) | simp) _) | apply Below.drew | apply below_drewN)))
    clear hbp hFp
    go_upto_region 6 with (at_builtin; refine wpList_append_bytes _ rfl (.tmp 18) (.tmp 22) _ rfl (w.heap.size + 1) 5 Try.underlying30 info8 _ _ rfl hF _ _ _ (putL 2 f4) rfl hRp (by rw [bodyA_len (by omega)]; omega) (by omega) ?_; intro b1 wq1 hFq hgq hbq)
    rw [hst1.out] at hFq
    have hF := hFq
    have hB := hB.below hbq (by omega)
    have cB := hB.cell
    have hbel : Below w.heap.size w wq1 := (by (have q_hbq := Below.size hbq; (try simp at q_hbq); have q_hbel := Below.size hbel; (try simp at q_hbel); repeat (first | exact Below.refl _ _ | (refine Below.trans ?_ (Below.mono hbq (by first | omega | (simp; omega) | simp))) | (refine Below.trans ?_ (Below.mono hbel (by first | omega | (simp; omega) | simp))) | (refine Below.setCell ?_ (by first | omega | (simp; omega) | simp) _) | (refine Below.alloc ?_ (by first | omega | (simp; omega) | simp) _) | apply Below.drew | apply below_drewN)))
    clear hbq hgq hFq hRp hst1 hwu1
    have hst2 := Lib.hid (bodyA_step (e := ((f1, false, f3, f4, f5, f6), L)) (k := 2) (x := f5) (by simp [numsA, hl]))
    have hwu2 : IntKind.u64.wrap (f5) = f5 := by rw [IntKind.wrap_u64]; omega
    go_wp2_with fail
    refine (rput_any 2 f5 _ (by omega) (by omega) (by omega)).mono ?_
    rintro e wp2 ⟨vp2, rfl, hFp, hbp⟩
    obtain ⟨Ap2, cp2, rfl, hRp, _, _, _⟩ := hFp.rdn 2 (putL_len _ _)
    have hB := hB.on hbp
    have hF := hF.below hbp
    have cB := hB.cell
    have hz := hB.lt
    have hbel : Below w.heap.size w wp2 := (by (have q_hbp := Below.size hbp; (try simp at q_hbp); have q_hbel := Below.size hbel; (try simp at q_hbel); repeat (first | exact Below.refl _ _ | (refine Below.trans ?_ (Below.mono hbp (by first | omega | (simp; omega) | simp))) | (refine Below.trans ?_ (Below.mono hbel (by first | omega | (simp; omega) | simp))) | (refine Below.setCell ?_ (by first | omega | (simp; omega) | simp) _) | (refine Below.alloc ?_ (by first | omega | (simp; omega) | simp) _) | apply Below.drew | apply below_drewN)))
    clear hbp hFp
    go_upto_region 7 with (at_builtin; refine wpList_append_bytes _ rfl (.tmp 24) (.tmp 28) _ rfl (w.heap.size + 1) 5 Try.underlying30 info8 _ _ rfl hF _ _ _ (putL 2 f5) rfl hRp (by rw [bodyA_len (by omega)]; omega) (by omega) ?_; intro b2 wq2 hFq hgq hbq)
    rw [hst2.out] at hFq
    have hF := hFq
    have hB := hB.below hbq (by omega)
    have cB := hB.cell
    have hbel : Below w.heap.size w wq2 := (by (have q_hbq := Below.size hbq; (try simp at q_hbq); have q_hbel := Below.size hbel; (try simp at q_hbel); repeat (first | exact Below.refl _ _ | (refine Below.trans ?_ (Below.mono hbq (by first | omega | (simp; omega) | simp))) | (refine Below.trans ?_ (Below.mono hbel (by first | omega | (simp; omega) | simp))) | (refine Below.setCell ?_ (by first | omega | (simp; omega) | simp) _) | (refine Below.alloc ?_ (by first | omega | (simp; omega) | simp) _) | apply Below.drew | apply below_drewN)))
    clear hbq hgq hFq hRp hst2 hwu2
    have hst3 := Lib.hid (bodyA_step (e := ((f1, false, f3, f4, f5, f6), L)) (k := 3) (x := f6) (by simp [numsA, hl]))
    have hwu3 : IntKind.u64.wrap (f6) = f6 := by rw [IntKind.wrap_u64]; omega
    go_wp2_with fail
    refine (rput_any 2 f6 _ (by omega) (by omega) (by omega)).mono ?_
    rintro e wp3 ⟨vp3, rfl, hFp, hbp⟩
    obtain ⟨Ap3, cp3, rfl, hRp, _, _, _⟩ := hFp.rdn 2 (putL_len _ _)
    have hB := hB.on hbp
    have hF := hF.below hbp
    have cB := hB.cell
    have hz := hB.lt
    have hbel : Below w.heap.size w wp3 := (by (have q_hbp := Below.size hbp; (try simp at q_hbp); have q_hbel := Below.size hbel; (try simp at q_hbel); repeat (first | exact Below.refl _ _ | (refine Below.trans ?_ (Below.mono hbp (by first | omega | (simp; omega) | simp))) | (refine Below.trans ?_ (Below.mono hbel (by first | omega | (simp; omega) | simp))) | (refine Below.setCell ?_ (by first | omega | (simp; omega) | simp) _) | (refine Below.alloc ?_ (by first | omega | (simp; omega) | simp) _) | apply Below.drew | apply below_drewN)))
    clear hbp hFp
    go_upto_region 8 with (at_builtin; refine wpList_append_bytes _ rfl (.tmp 30) (.tmp 34) _ rfl (w.heap.size + 1) 5 Try.underlying30 info8 _ _ rfl hF _ _ _ (putL 2 f6) rfl hRp (by rw [bodyA_len (by omega)]; omega) (by omega) ?_; intro b3 wq3 hFq hgq hbq)
    rw [hst3.out] at hFq
    have hF := hFq
    have hB := hB.below hbq (by omega)
    have cB := hB.cell
    have hbel : Below w.heap.size w wq3 := (by (have q_hbq := Below.size hbq; (try simp at q_hbq); have q_hbel := Below.size hbel; (try simp at q_hbel); repeat (first | exact Below.refl _ _ | (refine Below.trans ?_ (Below.mono hbq (by first | omega | (simp; omega) | simp))) | (refine Below.trans ?_ (Below.mono hbel (by first | omega | (simp; omega) | simp))) | (refine Below.setCell ?_ (by first | omega | (simp; omega) | simp) _) | (refine Below.alloc ?_ (by first | omega | (simp; omega) | simp) _) | apply Below.drew | apply below_drewN)))
    clear hbq hgq hFq hRp hst3 hwu3
    have hst4 := Lib.hid (bodyA_step (e := ((f1, false, f3, f4, f5, f6), L)) (k := 4) (x := (n : Int)) (by simp [numsA, hl]))
    have hwu4 : IntKind.u64.wrap ((n : Int)) = (n : Int) := by rw [IntKind.wrap_u64]; omega
    go_wp2_with fail
    refine (rput_any 2 (n : Int) _ (by omega) (by omega) (by omega)).mono ?_
    rintro e wp4 ⟨vp4, rfl, hFp, hbp⟩
    obtain ⟨Ap4, cp4, rfl, hRp, _, _, _⟩ := hFp.rdn 2 (putL_len _ _)
    have hB := hB.on hbp
    have hF := hF.below hbp
    have cB := hB.cell
    have hz := hB.lt
    have hbel : Below w.heap.size w wp4 := (by (have q_hbp := Below.size hbp; (try simp at q_hbp); have q_hbel := Below.size hbel; (try simp at q_hbel); repeat (first | exact Below.refl _ _ | (refine Below.trans ?_ (Below.mono hbp (by first | omega | (simp; omega) | simp))) | (refine Below.trans ?_ (Below.mono hbel (by first | omega | (simp; omega) | simp))) | (refine Below.setCell ?_ (by first | omega | (simp; omega) | simp) _) | (refine Below.alloc ?_ (by first | omega | (simp; omega) | simp) _) | apply Below.drew | apply below_drewN)))
    clear hbp hFp
    go_upto_region 9 with (at_builtin; refine wpList_append_bytes _ rfl (.tmp 36) (.tmp 41) _ rfl (w.heap.size + 1) 5 Try.underlying30 info8 _ _ rfl hF _ _ _ (putL 2 (n : Int)) rfl hRp (by rw [bodyA_len (by omega)]; omega) (by omega) ?_; intro b4 wq4 hFq hgq hbq)
    rw [hst4.out] at hFq
    have hF := hFq
    have hB := hB.below hbq (by omega)
    have cB := hB.cell
    have hbel : Below w.heap.size w wq4 := (by (have q_hbq := Below.size hbq; (try simp at q_hbq); have q_hbel := Below.size hbel; (try simp at q_hbel); repeat (first | exact Below.refl _ _ | (refine Below.trans ?_ (Below.mono hbq (by first | omega | (simp; omega) | simp))) | (refine Below.trans ?_ (Below.mono hbel (by first | omega | (simp; omega) | simp))) | (refine Below.setCell ?_ (by first | omega | (simp; omega) | simp) _) | (refine Below.alloc ?_ (by first | omega | (simp; omega) | simp) _) | apply Below.drew | apply below_drewN)))
    clear hbq hgq hFq hRp hst4 hwu4
    have hR3 := ha.on hbel (Nat.le_refl _)
    have hz := hB.lt
    go_wp2_with (at_builtin; refine wpList_append_bytes _ rfl (.tmp 43) (.tmp 45) _ rfl (w.heap.size + 1) 5 Try.underlying30 info8 _ _ rfl hF _ _ _ L rfl hR3 (by rw [bodyA_len (by omega)]; omega) (by omega) ?_; intro b' w3 hF4 hg4 hb4)
    go_ret
    exact ⟨_, rfl, by rw [hb5.out]; exact hF4.from_ (by omega), (by (have q_hb4 := Below.size hb4; (try simp at q_hb4); have q_hbel := Below.size hbel; (try simp at q_hbel); repeat (first | exact Below.refl _ _ | (refine Below.trans ?_ (Below.mono hb4 (by first | omega | (simp; omega) | simp))) | (refine Below.trans ?_ (Below.mono hbel (by first | omega | (simp; omega) | simp))) | (refine Below.setCell ?_ (by first | omega | (simp; omega) | simp) _) | (refine Below.alloc ?_ (by first | omega | (simp; omega) | simp) _) | apply Below.drew | apply below_drewN)))⟩
  | true =>
    have hb0 := Lib.hid (show bodyA ((f1, true, f3, f4, f5, f6), L) 0 = [byteI f1 0, 1] from rfl)
    have hb5 := Lib.hid (show encA ((f1, true, f3, f4, f5, f6), L) = bodyA ((f1, true, f3, f4, f5, f6), L) 5 ++ L from rfl)
    obtain ⟨W0, hW0⟩ : ∃ W0, W0 = (w.alloc (.cells #[.int .i64 f1, .bool true, .int .i64 f3, .int .i64 f4, .int .i64 f5, .int .i64 f6, .slice A n c] 32)).alloc (.cells #[.int .u8 f1, .int .u8 1] 5) := ⟨_, rfl⟩
    have hB : Blk W0 w.heap.size 32 #[.int .i64 f1, .bool true, .int .i64 f3, .int .i64 f4, .int .i64 f5, .int .i64 f6, .slice A n c] := by rw [hW0]; exact (Blk.new _ _ _).alloc _
    have hF : Fresh 5 (w.heap.size + 1) W0 (.slice (some ⟨w.heap.size + 1, 0, none⟩) 2 2) (bodyA ((f1, true, f3, f4, f5, f6), L) 0) := by
      rw [hb0.out]
      have B9 : Blk W0 (w.heap.size + 1) 5 #[.int .u8 f1, .int .u8 1] := by
        rw [hW0]
        simpa using Blk.new (w.alloc (.cells #[.int .i64 f1, .bool true, .int .i64 f3, .int .i64 f4, .int .i64 f5, .int .i64 f6, .slice A n c] 32)) 5 #[.int .u8 f1, .int .u8 1]
      exact Fresh.of_blk B9 (by omega) (by unfold maxLen; omega) rfl (by simp [bv, hk8])
    have hbel : Below w.heap.size w W0 := by rw [hW0]; exact (by (repeat (first | exact Below.refl _ _ | (refine Below.setCell ?_ (by first | omega | (simp; omega) | simp) _) | (refine Below.alloc ?_ (by first | omega | (simp; omega) | simp) _) | apply Below.drew | apply below_drewN)))
    have hz := hB.lt
    go_enter Try.func15, Try.ntmps15
    go_upto_region 4 with (fail)
    rw [← hW0]
    clear hW0 hb0 hk8 hw8
    have cB := hB.cell
    have hst0 := Lib.hid (bodyA_step (e := ((f1, true, f3, f4, f5, f6), L)) (k := 0) (x := f3) (by simp [numsA, hl]))
    have hwu0 : IntKind.u64.wrap (f3) = f3 := by rw [IntKind.wrap_u64]; omega
    go_wp2_with fail
    refine (rput_any 2 f3 _ (by omega) (by omega) (by omega)).mono ?_
    rintro e wp0 ⟨vp0, rfl, hFp, hbp⟩
    obtain ⟨Ap0, cp0, rfl, hRp, _, _, _⟩ := hFp.rdn 2 (putL_len _ _)
    have hB := hB.on hbp
    have hF := hF.below hbp
    have cB := hB.cell
    have hz := hB.lt
    have hbel : Below w.heap.size w wp0 := (by (have q_hbp := Below.size hbp; (try simp at q_hbp); have q_hbel := Below.size hbel; (try simp at q_hbel); repeat (first | exact Below.refl _ _ | (refine Below.trans ?_ (Below.mono hbp (by first | omega | (simp; omega) | simp))) | (refine Below.trans ?_ (Below.mono hbel (by first | omega | (simp; omega) | simp))) | (refine Below.setCell ?_ (by first | omega | (simp; omega) | simp) _) | (refine Below.alloc ?_ (by first | omega | (simp; omega) | simp) _) | apply Below.drew | apply below_drewN)))
    clear hbp hFp
    go_upto_region 5 with (at_builtin; refine wpList_append_bytes _ rfl (.tmp 12) (.tmp 16) _ rfl (w.heap.size + 1) 5 Try.underlying30 info8 _ _ rfl hF _ _ _ (putL 2 f3) rfl hRp (by rw [bodyA_len (by omega)]; omega) (by omega) ?_; intro b0 wq0 hFq hgq hbq)
    rw [hst0.out] at hFq
    have hF := hFq
    have hB := hB.below hbq (by omega)
    have cB := hB.cell
    have hbel : Below w.heap.size w wq0 := (by (have q_hbq := Below.size hbq; (try simp at q_hbq); have q_hbel := Below.size hbel; (try simp at q_hbel); repeat (first | exact Below.refl _ _ | (refine Below.trans ?_ (Below.mono hbq (by first | omega | (simp; omega) | simp))) | (refine Below.trans ?_ (Below.mono hbel (by first | omega | (simp; omega) | simp))) | (refine Below.setCell ?_ (by first | omega | (simp; omega) | simp) _) | (refine Below.alloc ?_ (by first | omega | (simp; omega) | simp) _) | apply Below.drew | apply below_drewN)))
    clear hbq hgq hFq hRp hst0 hwu0
    have hst1 := Lib.hid (bodyA_step (e := ((f1, true, f3, f4, f5, f6), L)) (k := 1) (x := f4) (by simp [numsA, hl]))
    have hwu1 : IntKind.u64.wrap (f4) = f4 := by rw [IntKind.wrap_u64]; omega
    go_wp2_with fail
    refine (rput_any 2 f4 _ (by omega) (by omega) (by omega)).mono ?_
    rintro e wp1 ⟨vp1, rfl, hFp, hbp⟩
    obtain ⟨Ap1, cp1, rfl, hRp, _, _, _⟩ := hFp.rdn 2 (putL_len _ _)
    have hB := hB.on hbp
    have hF := hF.below hbp
    have cB := hB.cell
    have hz := hB.lt
    have hbel : Below w.heap.size w wp1 := (by (have q_hbp := Below.size hbp; (try simp at q_hbp); have q_hbel := Below.size hbel; (try simp at q_hbel); repeat (first | exact Below.refl _ _ | (refine Below.trans ?_ (Below.mono hbp (by first | omega | (simp; omega) | simp))) | (refine Below.trans ?_ (Below.mono hbel (by first | omega | (simp; omega) | simp))) | (refine Below.setCell ?_ (by first | omega | (simp; omega) | simp) _) | (refine Below.alloc ?_ (by first | omega | (simp; omega) | simp) _) | apply Below.drew | apply below_drewN)))
    clear hbp hFp
    go_upto_region 6 with (at_builtin; refine wpList_append_bytes _ rfl (.tmp 18) (.tmp 22) _ rfl (w.heap.size + 1) 5 Try.underlying30 info8 _ _ rfl hF _ _ _ (putL 2 f4) rfl hRp (by rw [bodyA_len (by omega)]; omega) (by omega) ?_; intro b1 wq1 hFq hgq hbq)
    rw [hst1.out] at hFq
    have hF := hFq
    have hB := hB.below hbq (by omega)
    have cB := hB.cell
    have hbel : Below w.heap.size w wq1 := (by (have q_hbq := Below.size hbq; (try simp at q_hbq); have q_hbel := Below.size hbel; (try simp at q_hbel); repeat (first | exact Below.refl _ _ | (refine Below.trans ?_ (Below.mono hbq (by first | omega | (simp; omega) | simp))) | (refine Below.trans ?_ (Below.mono hbel (by first | omega | (simp; omega) | simp))) | (refine Below.setCell ?_ (by first | omega | (simp; omega) | simp) _) | (refine Below.alloc ?_ (by first | omega | (simp; omega) | simp) _) | apply Below.drew | apply below_drewN)))
    clear hbq hgq hFq hRp hst1 hwu1
    have hst2 := Lib.hid (bodyA_step (e := ((f1, true, f3, f4, f5, f6), L)) (k := 2) (x := f5) (by simp [numsA, hl]))
    have hwu2 : IntKind.u64.wrap (f5) = f5 := by rw [IntKind.wrap_u64]; omega
    go_wp2_with fail
    refine (rput_any 2 f5 _ (by omega) (by omega) (by omega)).mono ?_
    rintro e wp2 ⟨vp2, rfl, hFp, hbp⟩
    obtain ⟨Ap2, cp2, rfl, hRp, _, _, _⟩ := hFp.rdn 2 (putL_len _ _)
    have hB := hB.on hbp
    have hF := hF.below hbp
    have cB := hB.cell
    have hz := hB.lt
    have hbel : Below w.heap.size w wp2 := (by (have q_hbp := Below.size hbp; (try simp at q_hbp); have q_hbel := Below.size hbel; (try simp at q_hbel); repeat (first | exact Below.refl _ _ | (refine Below.trans ?_ (Below.mono hbp (by first | omega | (simp; omega) | simp))) | (refine Below.trans ?_ (Below.mono hbel (by first | omega | (simp; omega) | simp))) | (refine Below.setCell ?_ (by first | omega | (simp; omega) | simp) _) | (refine Below.alloc ?_ (by first | omega | (simp; omega) | simp) _) | apply Below.drew | apply below_drewN)))
    clear hbp hFp
    go_upto_region 7 with (at_builtin; refine wpList_append_bytes _ rfl (.tmp 24) (.tmp 28) _ rfl (w.heap.size + 1) 5 Try.underlying30 info8 _ _ rfl hF _ _ _ (putL 2 f5) rfl hRp (by rw [bodyA_len (by omega)]; omega) (by omega) ?_; intro b2 wq2 hFq hgq hbq)
    rw [hst2.out] at hFq
    have hF := hFq
    have hB := hB.below hbq (by omega)
    have cB := hB.cell
    have hbel : Below w.heap.size w wq2 := (by (have q_hbq := Below.size hbq; (try simp at q_hbq); have q_hbel := Below.size hbel; (try simp at q_hbel); repeat (first | exact Below.refl _ _ | (refine Below.trans ?_ (Below.mono hbq (by first | omega | (simp; omega) | simp))) | (refine Below.trans ?_ (Below.mono hbel (by first | omega | (simp; omega) | simp))) | (refine Below.setCell ?_ (by first | omega | (simp; omega) | simp) _) | (refine Below.alloc ?_ (by first | omega | (simp; omega) | simp) _) | apply Below.drew | apply below_drewN)))
    clear hbq hgq hFq hRp hst2 hwu2
    have hst3 := Lib.hid (bodyA_step (e := ((f1, true, f3, f4, f5, f6), L)) (k := 3) (x := f6) (by simp [numsA, hl]))
    have hwu3 : IntKind.u64.wrap (f6) = f6 := by rw [IntKind.wrap_u64]; omega
    go_wp2_with fail
    refine (rput_any 2 f6 _ (by omega) (by omega) (by omega)).mono ?_
    rintro e wp3 ⟨vp3, rfl, hFp, hbp⟩
    obtain ⟨Ap3, cp3, rfl, hRp, _, _, _⟩ := hFp.rdn 2 (putL_len _ _)
    have hB := hB.on hbp
    have hF := hF.below hbp
    have cB := hB.cell
    have hz := hB.lt
    have hbel : Below w.heap.size w wp3 := (by (have q_hbp := Below.size hbp; (try simp at q_hbp); have q_hbel := Below.size hbel; (try simp at q_hbel); repeat (first | exact Below.refl _ _ | (refine Below.trans ?_ (Below.mono hbp (by first | omega | (simp; omega) | simp))) | (refine Below.trans ?_ (Below.mono hbel (by first | omega | (simp; omega) | simp))) | (refine Below.setCell ?_ (by first | omega | (simp; omega) | simp) _) | (refine Below.alloc ?_ (by first | omega | (simp; omega) | simp) _) | apply Below.drew | apply below_drewN)))
    clear hbp hFp
    go_upto_region 8 with (at_builtin; refine wpList_append_bytes _ rfl (.tmp 30) (.tmp 34) _ rfl (w.heap.size + 1) 5 Try.underlying30 info8 _ _ rfl hF _ _ _ (putL 2 f6) rfl hRp (by rw [bodyA_len (by omega)]; omega) (by omega) ?_; intro b3 wq3 hFq hgq hbq)
    rw [hst3.out] at hFq
    have hF := hFq
    have hB := hB.below hbq (by omega)
    have cB := hB.cell
    have hbel : Below w.heap.size w wq3 := (by (have q_hbq := Below.size hbq; (try simp at q_hbq); have q_hbel := Below.size hbel; (try simp at q_hbel); repeat (first | exact Below.refl _ _ | (refine Below.trans ?_ (Below.mono hbq (by first | omega | (simp; omega) | simp))) | (refine Below.trans ?_ (Below.mono hbel (by first | omega | (simp; omega) | simp))) | (refine Below.setCell ?_ (by first | omega | (simp; omega) | simp) _) | (refine Below.alloc ?_ (by first | omega | (simp; omega) | simp) _) | apply Below.drew | apply below_drewN)))
    clear hbq hgq hFq hRp hst3 hwu3
    have hst4 := Lib.hid (bodyA_step (e := ((f1, true, f3, f4, f5, f6), L)) (k := 4) (x := (n : Int)) (by simp [numsA, hl]))
    have hwu4 : IntKind.u64.wrap ((n : Int)) = (n : Int) := by rw [IntKind.wrap_u64]; omega
    go_wp2_with fail
    refine (rput_any 2 (n : Int) _ (by omega) (by omega) (by omega)).mono ?_
    rintro e wp4 ⟨vp4, rfl, hFp, hbp⟩
    obtain ⟨Ap4, cp4, rfl, hRp, _, _, _⟩ := hFp.rdn 2 (putL_len _ _)
    have hB := hB.on hbp
    have hF := hF.below hbp
    have cB := hB.cell
    have hz := hB.lt
    have hbel : Below w.heap.size w wp4 := (by (have q_hbp := Below.size hbp; (try simp at q_hbp); have q_hbel := Below.size hbel; (try simp at q_hbel); repeat (first | exact Below.refl _ _ | (refine Below.trans ?_ (Below.mono hbp (by first | omega | (simp; omega) | simp))) | (refine Below.trans ?_ (Below.mono hbel (by first | omega | (simp; omega) | simp))) | (refine Below.setCell ?_ (by first | omega | (simp; omega) | simp) _) | (refine Below.alloc ?_ (by first | omega | (simp; omega) | simp) _) | apply Below.drew | apply below_drewN)))
    clear hbp hFp
    go_upto_region 9 with (at_builtin; refine wpList_append_bytes _ rfl (.tmp 36) (.tmp 41) _ rfl (w.heap.size + 1) 5 Try.underlying30 info8 _ _ rfl hF _ _ _ (putL 2 (n : Int)) rfl hRp (by rw [bodyA_len (by omega)]; omega) (by omega) ?_; intro b4 wq4 hFq hgq hbq)
    rw [hst4.out] at hFq
    have hF := hFq
    have hB := hB.below hbq (by omega)
    have cB := hB.cell
    have hbel : Below w.heap.size w wq4 := (by (have q_hbq := Below.size hbq; (try simp at q_hbq); have q_hbel := Below.size hbel; (try simp at q_hbel); repeat (first | exact Below.refl _ _ | (refine Below.trans ?_ (Below.mono hbq (by first | omega | (simp; omega) | simp))) | (refine Below.trans ?_ (Below.mono hbel (by first | omega | (simp; omega) | simp))) | (refine Below.setCell ?_ (by first | omega | (simp; omega) | simp) _) | (refine Below.alloc ?_ (by first | omega | (simp; omega) | simp) _) | apply Below.drew | apply below_drewN)))
    clear hbq hgq hFq hRp hst4 hwu4
    have hR3 := ha.on hbel (Nat.le_refl _)
    have hz := hB.lt
    go_wp2_with (at_builtin; refine wpList_append_bytes _ rfl (.tmp 43) (.tmp 45) _ rfl (w.heap.size + 1) 5 Try.underlying30 info8 _ _ rfl hF _ _ _ L rfl hR3 (by rw [bodyA_len (by omega)]; omega) (by omega) ?_; intro b' w3 hF4 hg4 hb4)
    go_ret
    exact ⟨_, rfl, by rw [hb5.out]; exact hF4.from_ (by omega), (by (have q_hb4 := Below.size hb4; (try simp at q_hb4); have q_hbel := Below.size hbel; (try simp at q_hbel); repeat (first | exact Below.refl _ _ | (refine Below.trans ?_ (Below.mono hb4 (by first | omega | (simp; omega) | simp))) | (refine Below.trans ?_ (Below.mono hbel (by first | omega | (simp; omega) | simp))) | (refine Below.setCell ?_ (by first | omega | (simp; omega) | simp) _) | (refine Below.alloc ?_ (by first | omega | (simp; omega) | simp) _) | apply Below.drew | apply below_drewN)))⟩

set_option maxRecDepth 100000 in
set_option maxHeartbeats 8000000 in
theorem aplain_any (A : Option Addr) (n c B0 : Nat) (es : List ActD) (w : World) (hr : RdR actK B0 5 w A n es) (hB00 : B0 ≤ w.heap.size) (hn : n ≤ 1000000000) :
    Calls Try.prog 18 #[.slice A n c] w fun e w' => ∃ v, e = .returned v ∧ OwnR actK 32 w.heap.size B0 5 w' v es ∧ Below w.heap.size w w' := by
  have hlen := hr.len
  go_enter Try.func18, Try.ntmps18
  go_wp2_with fail
  go_loopw [3, 8] (fun v i wr => ∃ k : Nat, k ≤ n ∧ i = .int .i64 k ∧ OwnR actK 32 w.heap.size B0 5 wr v (es.take k) ∧ Below w.heap.size w wr) (fun _ i _ => n - (intOf i).toNat)
  case atStart => exact ⟨0, by omega, rfl, OwnR.nil _, Below.refl _ _⟩
  case round =>
    obtain ⟨k, hk, rfl, hO, hbel⟩ := hrel
    have hbz := hbel.size
    by_cases hlt : k < n
    · obtain ⟨b, off, f1, f2, f3, f4, f5, f6, Ad, nd, cd, L, rfl, hb, he, c0, c1, c2, c3, c4, c5, c6, hX, hnd, hcd⟩ := (hr.below hbel).act hlt
      have hst := Lib.hid (take_step he)
      have hkl : (es.take k).length = k := by simp; omega
      obtain ⟨hs, hFr, hAll⟩ := hO
      have hsl : hs.length = k := by rw [hAll.1, hkl]
      obtain ⟨wa, hwa⟩ : ∃ wa, wa = wr.alloc (.cells #[.int .i64 f1, .bool f2, .int .i64 f3, .int .i64 f4, .int .i64 f5, .int .i64 f6, .slice Ad nd cd] 34) := ⟨_, rfl⟩
      have ba : Below wr.heap.size wr wa := by rw [hwa]; exact (Below.refl _ wr).alloc (Nat.le_refl _) _
      have hA2 := (hAll.below ba).below ((Below.refl _ wa).alloc (Nat.le_refl _) (.cells #[.int .i64 f1, .bool f2, .int .i64 f3, .int .i64 f4, .int .i64 f5, .int .i64 f6, .slice Ad nd cd] 32))
      have hF2 := (hFr.below ba).alloc (.cells #[.int .i64 f1, .bool f2, .int .i64 f3, .int .i64 f4, .int .i64 f5, .int .i64 f6, .slice Ad nd cd] 32)
      have hI2 : RItem actK B0 5 (wa.alloc (.cells #[.int .i64 f1, .bool f2, .int .i64 f3, .int .i64 f4, .int .i64 f5, .int .i64 f6, .slice Ad nd cd] 32)) ((f1, f2, f3, f4, f5, f6), (Ad, nd, cd)) ((f1, f2, f3, f4, f5, f6), L) := ⟨rfl, (hX.below ba).below ((Below.refl _ wa).alloc (Nat.le_refl _) _), hnd, hcd⟩
      have hRb : RdG actE (wa.alloc (.cells #[.int .i64 f1, .bool f2, .int .i64 f3, .int .i64 f4, .int .i64 f5, .int .i64 f6, .slice Ad nd cd] 32)) (some ⟨wr.heap.size + 1, 0, none⟩) 1 [((f1, f2, f3, f4, f5, f6), (Ad, nd, cd))] := by rw [hwa]; exact RdG.boxed2 _ _ _ _ _ rfl
      rw [hwa] at hA2 hF2 hI2 hRb
      clear hwa ba
      have q1 : (k : Int) < n := by omega
      clear he hX
      go_wp2_with (at_builtin; refine wpList_append_G (E := actE) _ rfl (.tmp 12) (.tmp 28) _ rfl w.heap.size 32 Try.underlying22 infoRA rfl u3 hs rfl hF2 (some ⟨wr.heap.size + 1, 0, none⟩) 1 1 [((f1, f2, f3, f4, f5, f6), (Ad, nd, cd))] rfl hRb (by omega) (by omega) (by simp; omega) ?_; intro b' w3 hF3 hg3 hb3)
      have hO3 : OwnR actK 32 w.heap.size B0 5 w3 b' (es.take k ++ [((f1, f2, f3, f4, f5, f6), L)]) := by
        obtain ⟨A4, c4', e4, hown4⟩ := id hF2
        exact ⟨_, hF3, hA2.more hI2 hown4 hB00 (by decide) hg3⟩
      go_roundw
      case rel => exact ⟨k + 1, by omega, by go_num, by rw [hst.out]; exact hO3, (by (have q_hb3 := Below.size hb3; (try simp at q_hb3); have q_hbel := Below.size hbel; (try simp at q_hbel); repeat (first | exact Below.refl _ _ | (refine Below.trans ?_ (Below.mono hb3 (by first | omega | (simp; omega) | simp))) | (refine Below.trans ?_ (Below.mono hbel (by first | omega | (simp; omega) | simp))) | (refine Below.setCell ?_ (by first | omega | (simp; omega) | simp) _) | (refine Below.alloc ?_ (by first | omega | (simp; omega) | simp) _) | apply Below.drew | apply below_drewN)))⟩
      case measure => simp [intOf] <;> omega
    · obtain rfl : k = n := by omega
      have hT := Lib.hid (show es.take k = es from List.take_of_length_le (by omega))
      go_wp2_with fail
      go_ret
      exact ⟨_, rfl, by have := hO; rw [hT.out] at this; exact this, hbel⟩
end Go.Proofs.Ythlgagjnlnakkaa
