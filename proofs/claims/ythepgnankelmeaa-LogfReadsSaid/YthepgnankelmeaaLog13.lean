/- Logs: the program's as the document's. -/
import Derived.Test.YthepgnankelmeaaLog7
import Derived.Test.YthepgnankelmeaaWord4
import Derived.Test.YthepgnankelmeaaSuper2
import Derived.Lib.SmallJoins
namespace Go.Proofs.Ythepgnankelmeaa
open Go.RowKit

set_option maxRecDepth 100000 in
set_option maxHeartbeats 2000000 in
theorem lplain_any (cnt : Int) (A : Option Addr) (n c B0 : Nat) (es : List Ent) (w : World) (hr : RdR entK B0 5 w A n es) (hB00 : B0 ≤ w.heap.size) (hn : n ≤ 1000000) :
    Calls Try.prog 54 #[.agg #[.int .u64 cnt, .slice A n c]] w fun e w' => ∃ v, e = .returned (.agg #[.int .u64 cnt, v]) ∧ OwnR entK 99 w.heap.size B0 5 w' v es ∧ Below w.heap.size w w' := by
  have hlen := hr.len
  have B0' : Blk (((w.alloc (.cells #[.int .u64 cnt, .slice A n c] 56)).alloc (.cells #[.int .u64 0, .slice none 0 0] 49)).alloc (.cells #[.int .u64 cnt, .slice none 0 0] 49)) (w.heap.size + 1) 49 #[.int .u64 0, .slice none 0 0] := by
    have h := (Blk.new (w.alloc (.cells #[.int .u64 cnt, .slice A n c] 56)) 49 #[.int .u64 0, .slice none 0 0]).alloc (.cells #[.int .u64 cnt, .slice none 0 0] 49)
    simpa using h
  have B1' : Blk (((w.alloc (.cells #[.int .u64 cnt, .slice A n c] 56)).alloc (.cells #[.int .u64 0, .slice none 0 0] 49)).alloc (.cells #[.int .u64 cnt, .slice none 0 0] 49)) (w.heap.size + 1 + 1) 49 #[.int .u64 cnt, .slice none 0 0] := by
    have h := Blk.new ((w.alloc (.cells #[.int .u64 cnt, .slice A n c] 56)).alloc (.cells #[.int .u64 0, .slice none 0 0] 49)) 49 #[.int .u64 cnt, .slice none 0 0]
    simpa using h
  go_enter Try.func54, Try.ntmps54
  go_wp2_with fail
  go_loopw [12] (fun i wr => ∃ k : Nat, k ≤ n ∧ i = .int .i64 k ∧ (∃ v, Blk wr (w.heap.size + 1 + 1) 49 #[.int .u64 cnt, v] ∧ OwnR entK 99 (w.heap.size + 1 + 1 + 1) B0 5 wr v (es.take k)) ∧ Blk wr (w.heap.size + 1) 49 #[.int .u64 0, .slice none 0 0] ∧ Below w.heap.size w wr) (fun i _ => n - (intOf i).toNat)
  case atStart => exact ⟨0, by omega, rfl, ⟨_, B1', OwnR.nil _⟩, B0', (by (repeat (first | exact Below.refl _ _ | (refine Below.setCell ?_ (by first | omega | (simp; omega) | simp) _) | (refine Below.alloc ?_ (by first | omega | (simp; omega) | simp) _) | apply Below.drew | apply below_drewN)))⟩
  case round =>
    clear B0' B1'
    obtain ⟨k, hk, rfl, ⟨v, hB1, hO⟩, hB0, hbel⟩ := hrel
    have hbz := hbel.size
    have z1 := hB1.lt
    by_cases hlt : k < n
    · obtain ⟨b, off, K, Ad, nd, cd, L, rfl, hb, he, c0, c1, hX, hnd, hcd⟩ := (hr.below hbel).ent hlt
      have hst := Lib.hid (take_step he)
      have hkl : (es.take k).length = k := by simp; omega
      obtain ⟨hs, hFr, hAll⟩ := hO
      have hsl : hs.length = k := by rw [hAll.1, hkl]
      obtain ⟨Av, cv, hv, _⟩ := id hFr
      rw [hsl] at hv
      subst hv
      obtain ⟨wa, hwa⟩ : ∃ wa, wa = wr.alloc (.cells #[.int .i64 K, .slice Ad nd cd] 102) := ⟨_, rfl⟩
      have ba : Below wr.heap.size wr wa := by rw [hwa]; exact (Below.refl _ wr).alloc (Nat.le_refl _) _
      have hA2 := (hAll.below ba).below ((Below.refl _ wa).alloc (Nat.le_refl _) (.cells #[.int .i64 K, .slice Ad nd cd] 99))
      have hF2 := (hFr.below ba).alloc (.cells #[.int .i64 K, .slice Ad nd cd] 99)
      have hB2 := (hB1.on ba).alloc (.cells #[.int .i64 K, .slice Ad nd cd] 99)
      have hC2 := (hB0.on ba).alloc (.cells #[.int .i64 K, .slice Ad nd cd] 99)
      have hI2 : RItem entK B0 5 (wa.alloc (.cells #[.int .i64 K, .slice Ad nd cd] 99)) (K, (Ad, nd, cd)) (K, L) := ⟨rfl, (hX.below ba).below ((Below.refl _ wa).alloc (Nat.le_refl _) _), hnd, hcd⟩
      have hRb : RdG entE (wa.alloc (.cells #[.int .i64 K, .slice Ad nd cd] 99)) (some ⟨wr.heap.size + 1, 0, none⟩) 1 [(K, (Ad, nd, cd))] := by
        rw [hwa]
        have := RdG.boxed (E := entE) (wr.alloc (.cells #[.int .i64 K, .slice Ad nd cd] 102)) 99 (K, (Ad, nd, cd)) #[.int .i64 K, .slice Ad nd cd] rfl
        simpa using this
      rw [hwa] at hA2 hF2 hI2 hRb hB2 hC2
      clear hwa ba
      have q1 : (k : Int) < n := by omega
      have cB1 := hB1.cell
      have HI2 := Lib.hid hI2
      clear he hX hI2
      go_wp2_with (at_builtin; refine wpList_append_G (E := entE) _ rfl (.tmp 17) (.tmp 23) _ rfl (w.heap.size + 1 + 1 + 1) 99 Try.underlying47 infoRE rfl (.slice Av k cv) hs rfl hF2 (some ⟨wr.heap.size + 1, 0, none⟩) 1 1 [(K, (Ad, nd, cd))] rfl hRb (by omega) (by omega) (by simp; omega) ?_; intro b' w3 hF3 hg3 hb3; have hB3 := hB2.grown hg3 (own_ne hF2 hB2 (by decide)); have hC3 := hC2.grown hg3 (own_ne hF2 hC2 (by decide)); have cB3 := hB3.cell; have fB3 := hB3.frozen; obtain ⟨A9, c9, hv9, _⟩ := id hF3; rw [List.length_append, hsl, List.length_singleton] at hv9; subst hv9)
      have hO3 : OwnR entK 99 (w.heap.size + 1 + 1 + 1) B0 5 w3 (.slice A9 (k + 1) c9) (es.take k ++ [(K, L)]) := by
        obtain ⟨A4, c4', e4, hown4⟩ := id hF2
        exact ⟨_, hF3, hA2.more HI2.out hown4 (by omega) (by decide) hg3⟩
      have hO4 := hO3.set_ hB3 (by decide) (by omega) (by omega) 1 (.slice A9 (k + 1) c9)
      have hB4 := hB3.set_ 1 (.slice A9 (k + 1) c9)
      have hC4 := hC3.far (p := ⟨w.heap.size + 1 + 1, 1, none⟩) (by simp) (.slice A9 (k + 1) c9)
      have b3 : Below w.heap.size w w3 := (show Below w.heap.size w ((wr.alloc (.cells #[.int .i64 K, .slice Ad nd cd] 102)).alloc (.cells #[.int .i64 K, .slice Ad nd cd] 99)) from (by (have q_hbel := Below.size hbel; (try simp at q_hbel); repeat (first | exact Below.refl _ _ | (refine Below.trans ?_ (Below.mono hbel (by first | omega | (simp; omega) | simp))) | (refine Below.setCell ?_ (by first | omega | (simp; omega) | simp) _) | (refine Below.alloc ?_ (by first | omega | (simp; omega) | simp) _) | apply Below.drew | apply below_drewN)))).trans (hb3.mono (by omega))
      go_roundw
      case rel => exact ⟨k + 1, by omega, by go_num, ⟨_, by simpa using hB4, by rw [hst.out]; exact hO4⟩, hC4, (by (have q_b3 := Below.size b3; (try simp at q_b3); repeat (first | exact Below.refl _ _ | (refine Below.trans ?_ (Below.mono b3 (by first | omega | (simp; omega) | simp))) | (refine Below.setCell ?_ (by first | omega | (simp; omega) | simp) _) | (refine Below.alloc ?_ (by first | omega | (simp; omega) | simp) _) | apply Below.drew | apply below_drewN)))⟩
      case measure => simp [intOf] <;> omega
    · obtain rfl : k = n := by omega
      have hT := Lib.hid (show es.take k = es from List.take_of_length_le (by omega))
      obtain ⟨Av, nv, cv, rfl⟩ := hO.shape
      have c3 := hB1.cell
      have c2 := hB0.cell
      have f2 := hB0.frozen
      have R1 := (hB0.set_ 0 (.int .u64 cnt)).set_ 1 (.slice Av nv cv)
      have e0 : (wr.setCell ⟨w.heap.size + 1, 0, none⟩ (.int .u64 cnt)).cell? ⟨w.heap.size + 1, 0, none⟩ = some (.int .u64 cnt) := by simpa using (hB0.set_ 0 (.int .u64 cnt)).cell 0
      have e0' := R1.cell 0
      have e1' := R1.cell 1
      simp at e0' e1'
      have hO2 := (hO.set_ hB0 (by decide) (by omega) (by omega) 0 (.int .u64 cnt)).set_ (hB0.set_ 0 (.int .u64 cnt)) (by decide) (by omega) (by omega) 1 (.slice Av nv cv)
      go_wp2_with fail
      refine bodyPost_ret (v := .agg #[.int .u64 cnt, .slice Av nv cv]) (by simp [results, Try.results54, go_sem, e0', e1']) rfl ⟨_, rfl, by rw [← hT.out]; exact hO2.from_ (by omega), (by (have q_hbel := Below.size hbel; (try simp at q_hbel); repeat (first | exact Below.refl _ _ | (refine Below.trans ?_ (Below.mono hbel (by first | omega | (simp; omega) | simp))) | (refine Below.setCell ?_ (by first | omega | (simp; omega) | simp) _) | (refine Below.alloc ?_ (by first | omega | (simp; omega) | simp) _) | apply Below.drew | apply below_drewN)))⟩
end Go.Proofs.Ythepgnankelmeaa
namespace Go.Proofs.Ythepgnankelmeaa
open Go.RowKit

/-- A row of rows of bytes, each wherever it lies. -/
def ssK : RKind (Option Addr × Nat × Nat) (List UInt8) := ⟨ssE, fun h => h, fun e => e, fun _ _ => True⟩
theorem RdR.ss {B : Nat} {T : TypeId} {w : World} {A : Option Addr} {n k : Nat} {ls : List (List UInt8)} (hr : RdR ssK B T w A n ls) (hk : k < n) : ∃ b off Ad nd cd L, A = some ⟨b, off, none⟩ ∧ b < w.heap.size ∧ ls[k]? = some L ∧ w.cell? ⟨b, off + k, none⟩ = some (.slice Ad nd cd) ∧ RdX B T w Ad nd L ∧ nd ≤ cd ∧ cd ≤ maxLen := by
  obtain ⟨b, off, ⟨Ad, nd, cd⟩, L, hA, hb, he, hc, hi⟩ := hr.at_ hk
  obtain ⟨_, e2, e3, e4⟩ := hi
  have h0 : w.cell? ⟨b, off + k * 1 + 0, none⟩ = some (.slice Ad nd cd) := hc 0 _ rfl
  rw [Nat.mul_one, Nat.add_zero] at h0
  exact ⟨b, off, Ad, nd, cd, L, hA, hb, he, h0, e2, e3, e4⟩
theorem numsE_step {es : List Ent} {k : Nat} {e : Ent} (he : es[k]? = some e) : numsE (es.take k) ++ putL 2 e.1 = numsE (es.take (k + 1)) := by
  rw [take_step he]
  simp [numsE]

set_option maxRecDepth 100000 in
set_option maxHeartbeats 2000000 in
theorem rlenc_any (cnt : Int) (A : Option Addr) (n c B0 : Nat) (es : List Ent) (w : World) (hr : RdR entK B0 5 w A n es) (hB00 : B0 ≤ w.heap.size) (hn : n ≤ 100) (hc0 : 0 ≤ cnt) (hc1 : cnt ≤ 18446744073709551615) (hk : ∀ e ∈ es, 0 ≤ e.1 ∧ e.1 ≤ 65535) :
    Calls Try.prog 51 #[.agg #[.int .u64 cnt, .slice A n c]] w fun e w' => ∃ v, e = .returned v ∧ OwnR ssK 39 w.heap.size B0 5 w' v (encL cnt es) ∧ Below w.heap.size w w' := by
  have hlen := hr.len
  have HK := Lib.hid hk
  have hcv : (convert 39 39 (.slice (some ⟨w.heap.size + 1, 0, none⟩) 8 8)).run Try.prog ((w.alloc (.cells #[.int .u64 cnt, .slice A n c] 49)).alloc (.cells #[.int .u8 82, .int .u8 69, .int .u8 68, .int .u8 79, .int .u8 45, .int .u8 76, .int .u8 79, .int .u8 71] 5)) = .ok (.slice (some ⟨w.heap.size + 1, 0, none⟩) 8 8) ((w.alloc (.cells #[.int .u64 cnt, .slice A n c] 49)).alloc (.cells #[.int .u8 82, .int .u8 69, .int .u8 68, .int .u8 79, .int .u8 45, .int .u8 76, .int .u8 79, .int .u8 71] 5 (8, 9))) :=
    Go.Joins.run_convert_bytes_const_at (w.alloc (.cells #[.int .u64 cnt, .slice A n c] 49)) 39 5 #[.int .u8 82, .int .u8 69, .int .u8 68, .int .u8 79, .int .u8 45, .int .u8 76, .int .u8 79, .int .u8 71] 8 8 (w.heap.size + 1) (by simp) Try.underlying39 Try.underlying5
  have Q0 : Blk ((w.alloc (.cells #[.int .u64 cnt, .slice A n c] 49)).alloc (.cells #[.int .u8 82, .int .u8 69, .int .u8 68, .int .u8 79, .int .u8 45, .int .u8 76, .int .u8 79, .int .u8 71] 5 (8, 9))) w.heap.size 49 #[.int .u64 cnt, .slice A n c] := (Blk.new _ _ _).alloc _
  have hA : Rd ((w.alloc (.cells #[.int .u64 cnt, .slice A n c] 49)).alloc (.cells #[.int .u8 82, .int .u8 69, .int .u8 68, .int .u8 79, .int .u8 45, .int .u8 76, .int .u8 79, .int .u8 71] 5 (8, 9))) (some ⟨w.heap.size + 1, 0, none⟩) 8 markR := by
    have h_ := rd_of_cells (l := markR) (heap_alloc_new (w.alloc (.cells #[.int .u64 cnt, .slice A n c] 49)) (.cells (markR.map bv).toArray 5 (8, 9))) (by simp) (n := 8) rfl
    have hmm : (markR.map bv).toArray = #[.int .u8 82, .int .u8 69, .int .u8 68, .int .u8 79, .int .u8 45, .int .u8 76, .int .u8 79, .int .u8 71] := rfl
    rw [hmm] at h_
    simpa using h_
  have hb0 : Below w.heap.size w ((w.alloc (.cells #[.int .u64 cnt, .slice A n c] 49)).alloc (.cells #[.int .u8 82, .int .u8 69, .int .u8 68, .int .u8 79, .int .u8 45, .int .u8 76, .int .u8 79, .int .u8 71] 5 (8, 9))) := (by (repeat (first | exact Below.refl _ _ | (refine Below.setCell ?_ (by first | omega | (simp; omega) | simp) _) | (refine Below.alloc ?_ (by first | omega | (simp; omega) | simp) _) | apply Below.drew | apply below_drewN)))
  have c0 := Q0.cell
  go_enter Try.func51, Try.ntmps51
  go_wp2_with fail
  refine (rput_any 8 cnt _ (by omega) hc0 hc1).mono ?_
  rintro e w1 ⟨v1, rfl, hF1, hb1⟩
  obtain ⟨A1, c1, rfl, hR1, _, _, _⟩ := hF1.rdn 8 (putL_len _ _)
  obtain ⟨b1, o1, rfl, _, _⟩ := hR1.2 (by omega)
  have Q1 := Q0.on hb1
  have hA1 := hA.below hb1
  have b1' : Below w.heap.size w w1 := (by (have q_hb1 := Below.size hb1; (try simp at q_hb1); have q_hb0 := Below.size hb0; (try simp at q_hb0); repeat (first | exact Below.refl _ _ | (refine Below.trans ?_ (Below.mono hb1 (by first | omega | (simp; omega) | simp))) | (refine Below.trans ?_ (Below.mono hb0 (by first | omega | (simp; omega) | simp))) | (refine Below.setCell ?_ (by first | omega | (simp; omega) | simp) _) | (refine Below.alloc ?_ (by first | omega | (simp; omega) | simp) _) | apply Below.drew | apply below_drewN)))
  have hz1 := Q1.lt
  have c1' := Q1.cell
  clear Q0 hA hb0 c0 hF1 hcv hb1
  go_wp2_with (at_builtin; refine wpList_append_full _ rfl (.tmp 11) (.tmp 14) _ rfl 5 Try.underlying39 info8 (some ⟨w.heap.size + 1, 0, none⟩) 8 8 markR rfl hA1 ⟨b1, o1, none⟩ 8 c1 (putL 8 cnt) rfl hR1 (fun h => by cases h) (by omega) (by omega) ?_; intro v2 w2 hF2' hb2; have Q2 := Q1.on hb2; have c2' := Q2.cell)
  have hF2 := hF2'.from_ (B' := w.heap.size + 1) (by omega)
  have hw2 := hb2.size
  have b2 : Below w.heap.size w w2 := (by (have q_hb2 := Below.size hb2; (try simp at q_hb2); have q_b1' := Below.size b1'; (try simp at q_b1'); repeat (first | exact Below.refl _ _ | (refine Below.trans ?_ (Below.mono hb2 (by first | omega | (simp; omega) | simp))) | (refine Below.trans ?_ (Below.mono b1' (by first | omega | (simp; omega) | simp))) | (refine Below.setCell ?_ (by first | omega | (simp; omega) | simp) _) | (refine Below.alloc ?_ (by first | omega | (simp; omega) | simp) _) | apply Below.drew | apply below_drewN)))
  have hwn : IntKind.u64.wrap (n : Int) = (n : Int) := by rw [IntKind.wrap_u64]; omega
  clear Q1 hA1 c1' b1' hb2 hF2'
  refine (rput_any 2 (n : Int) _ (by omega) (by omega) (by omega)).mono ?_
  rintro e w3 ⟨v3, rfl, hF3, hb3⟩
  obtain ⟨A3, c3, rfl, hR3, _, _, _⟩ := hF3.rdn 2 (putL_len _ _)
  have Q3 := Q2.on hb3
  have F3 := hF2.below hb3
  have hw3 := hb3.size
  have b3 : Below w.heap.size w w3 := (by (have q_hb3 := Below.size hb3; (try simp at q_hb3); have q_b2 := Below.size b2; (try simp at q_b2); repeat (first | exact Below.refl _ _ | (refine Below.trans ?_ (Below.mono hb3 (by first | omega | (simp; omega) | simp))) | (refine Below.trans ?_ (Below.mono b2 (by first | omega | (simp; omega) | simp))) | (refine Below.setCell ?_ (by first | omega | (simp; omega) | simp) _) | (refine Below.alloc ?_ (by first | omega | (simp; omega) | simp) _) | apply Below.drew | apply below_drewN)))
  have hz3 := Q3.lt
  clear Q2 c2' hF2 hF3 hb3 b2
  go_wp2_with (at_builtin; refine wpList_append_bytes _ rfl (.tmp 16) (.tmp 21) _ rfl (w.heap.size + 1) 5 Try.underlying39 info8 v2 (markR ++ putL 8 cnt) rfl F3 A3 2 c3 (putL 2 (n : Int)) rfl hR3 (by rw [List.length_append, putL_len]; simp [markR]) (by omega) ?_; intro v4 w4 hF4 hg4 hb4; have Q4 := Q3.below hb4 (by omega); have c4' := Q4.cell)
  have b4 : Below w.heap.size w w4 := (by (have q_hb4 := Below.size hb4; (try simp at q_hb4); have q_b3 := Below.size b3; (try simp at q_b3); repeat (first | exact Below.refl _ _ | (refine Below.trans ?_ (Below.mono hb4 (by first | omega | (simp; omega) | simp))) | (refine Below.trans ?_ (Below.mono b3 (by first | omega | (simp; omega) | simp))) | (refine Below.setCell ?_ (by first | omega | (simp; omega) | simp) _) | (refine Below.alloc ?_ (by first | omega | (simp; omega) | simp) _) | apply Below.drew | apply below_drewN)))
  have hF4' : Fresh 5 (w.heap.size + 1) w4 v4 ((headParts cnt n).flatten ++ numsE (es.take 0)) := by
    have e0 : (headParts cnt n).flatten ++ numsE (es.take 0) = markR ++ putL 8 cnt ++ putL 2 (n : Int) := by simp [headParts, numsE]
    rw [e0]
    exact hF4
  clear Q3 F3 b3 hg4 hb4 hF4
  go_loopw [3, 26] (fun v i wr => ∃ k : Nat, k ≤ n ∧ i = .int .i64 k ∧ Fresh 5 (w.heap.size + 1) wr v ((headParts cnt n).flatten ++ numsE (es.take k)) ∧ Blk wr w.heap.size 49 #[.int .u64 cnt, .slice A n c] ∧ Below w.heap.size w wr) (fun _ i _ => n - (intOf i).toNat)
  case atStart => exact ⟨0, by omega, rfl, hF4', Q4, b4⟩
  case round =>
    clear Q4 c4' b4 hF4'
    obtain ⟨k, hk1, rfl, hF, hQ, hbel⟩ := hrel
    have hbz := hbel.size
    have hqz := hQ.lt
    by_cases hlt : k < n
    · obtain ⟨b, off, K, Ad, nd, cd, L, rfl, hb, he, c0, c1, hX, hnd, hcd⟩ := (hr.below hbel).ent hlt
      have hKr := HK.out _ (List.mem_of_getElem? he)
      simp only at hKr
      have hst := Lib.hid (numsE_step he)
      have hll : ((headParts cnt n).flatten ++ numsE (es.take k)).length ≤ 300 := by
        rw [List.length_append, headParts_len, numsE_len, List.length_take]
        omega
      obtain ⟨R0, hR0⟩ : ∃ R0, R0 = numsE (es.take k) := ⟨_, rfl⟩
      obtain ⟨H0, hH0⟩ : ∃ H0, H0 = (headParts cnt n).flatten := ⟨_, rfl⟩
      rw [← hR0] at hst hll hF
      rw [← hH0] at hll hF
      have HH0 := Lib.hid hH0
      have q1 : (k : Int) < n := by omega
      have hwK : IntKind.u64.wrap K = K := by rw [IntKind.wrap_u64]; omega
      clear he hX hR0 hH0
      go_wp2_with fail
      refine (rput_any 2 K _ (by omega) (by omega) (by omega)).mono ?_
      rintro e w5 ⟨v5, rfl, hF5, hb5⟩
      obtain ⟨A5, c5, rfl, hR5, _, _, _⟩ := hF5.rdn 2 (putL_len _ _)
      have hF6 := (hF.below (w' := wr.alloc (.cells #[.int .i64 K, .slice Ad nd cd] 99)) (by (repeat (first | exact Below.refl _ _ | (refine Below.setCell ?_ (by first | omega | (simp; omega) | simp) _) | (refine Below.alloc ?_ (by first | omega | (simp; omega) | simp) _) | apply Below.drew | apply below_drewN)))).below hb5
      have hQ6 := (hQ.alloc (.cells #[.int .i64 K, .slice Ad nd cd] 99)).on hb5
      have b5 : Below w.heap.size w w5 := (by (have q_hb5 := Below.size hb5; (try simp at q_hb5); have q_hbel := Below.size hbel; (try simp at q_hbel); repeat (first | exact Below.refl _ _ | (refine Below.trans ?_ (Below.mono hb5 (by first | omega | (simp; omega) | simp))) | (refine Below.trans ?_ (Below.mono hbel (by first | omega | (simp; omega) | simp))) | (refine Below.setCell ?_ (by first | omega | (simp; omega) | simp) _) | (refine Below.alloc ?_ (by first | omega | (simp; omega) | simp) _) | apply Below.drew | apply below_drewN)))
      have hz5 := hQ6.lt
      clear hF hQ hb5 hF5
      go_wp2_with (at_builtin; refine wpList_append_bytes _ rfl (.tmp 30) (.tmp 34) _ rfl (w.heap.size + 1) 5 Try.underlying39 info8 _ (H0 ++ R0) rfl hF6 A5 2 c5 (putL 2 K) rfl hR5 (by omega) (by omega) ?_; intro v9 w9 hF9 hg9 hb9)
      have hQ9 := hQ6.below hb9 (by omega)
      go_roundw
      case rel => exact ⟨k + 1, by omega, by go_num, by rw [← hst.out, ← List.append_assoc, ← HH0.out]; exact hF9, hQ9, (by (have q_hb9 := Below.size hb9; (try simp at q_hb9); have q_b5 := Below.size b5; (try simp at q_b5); repeat (first | exact Below.refl _ _ | (refine Below.trans ?_ (Below.mono hb9 (by first | omega | (simp; omega) | simp))) | (refine Below.trans ?_ (Below.mono b5 (by first | omega | (simp; omega) | simp))) | (refine Below.setCell ?_ (by first | omega | (simp; omega) | simp) _) | (refine Below.alloc ?_ (by first | omega | (simp; omega) | simp) _) | apply Below.drew | apply below_drewN)))⟩
      case measure => simp [intOf] <;> omega
    · obtain rfl : k = n := by omega
      have hT : es.take k = es := List.take_of_length_le (by omega)
      rw [hT] at hF
      obtain ⟨l0, hl0⟩ : ∃ l0, l0 = (headParts cnt k).flatten ++ numsE es := ⟨_, rfl⟩
      have hll : l0.length = 18 + 2 * k := by rw [hl0, List.length_append, headParts_len, numsE_len, hlen]
      have hH := Lib.hid (show headL cnt es = padL 256 l0 by rw [hl0, ← hlen]; rfl)
      rw [← hl0] at hF
      obtain ⟨A6, c6, rfl, hR6, _, _, _⟩ := hF.rdn (18 + 2 * k) hll
      have cQ := hQ.cell
      clear hT hl0 hF
      go_wp2_with fail
      refine (rpad_any A6 (18 + 2 * k) c6 l0 256 _ hR6 (by omega) (by omega)).mono ?_
      rintro e w7 ⟨v7, rfl, hF7, hb7⟩
      rw [← hH.out] at hF7
      obtain ⟨A7, c7, rfl, _, _, hn7, hm7⟩ := hF7.rdn 256 (headL_len _ _)
      have hO0 : OwnR ssK 39 w.heap.size B0 5 (w7.alloc (.cells #[.slice A7 256 c7] 39)) (.slice (some ⟨w7.heap.size, 0, none⟩) 1 1) (headL cnt es :: (es.take 0).map (·.2)) := by
        refine ⟨[(A7, 256, c7)], FreshG.of_blk (Blk.new w7 _ _) (by have := hb7.size; omega) (by unfold maxLen; omega) rfl rfl, rfl, fun i h e h1 h2 => ?_⟩
        match i, h1, h2 with
        | 0, h1, h2 =>
          simp at h1 h2
          subst h1 h2
          exact ⟨trivial, RdX.fresh (hF7.alloc _) (headL_len _ _), hn7, hm7⟩
        | _ + 1, h1, _ => simp at h1
      have b8 : Below w.heap.size w (w7.alloc (.cells #[.slice A7 256 c7] 39)) := (by (have q_hb7 := Below.size hb7; (try simp at q_hb7); have q_hbel := Below.size hbel; (try simp at q_hbel); repeat (first | exact Below.refl _ _ | (refine Below.trans ?_ (Below.mono hb7 (by first | omega | (simp; omega) | simp))) | (refine Below.trans ?_ (Below.mono hbel (by first | omega | (simp; omega) | simp))) | (refine Below.setCell ?_ (by first | omega | (simp; omega) | simp) _) | (refine Below.alloc ?_ (by first | omega | (simp; omega) | simp) _) | apply Below.drew | apply below_drewN)))
      have cQ7 := (hQ.on hb7).alloc (.cells #[.slice A7 256 c7] 39) |>.cell
      clear hQ cQ hF7 hb7 hbel hR6
      go_wp2_with fail
      go_loopw [6, 43] (fun v i wr => ∃ j : Nat, j ≤ k ∧ i = .int .i64 j ∧ OwnR ssK 39 w.heap.size B0 5 wr v (headL cnt es :: (es.take j).map (·.2)) ∧ Below w.heap.size w wr) (fun _ i _ => k - (intOf i).toNat)
      case atStart => exact ⟨0, by omega, rfl, hO0, b8⟩
      case round =>
        clear hO0 b8 cQ7
        obtain ⟨j, hj, rfl, hO, hbel⟩ := hrel
        have hbz2 := hbel.size
        by_cases hlt2 : j < k
        · obtain ⟨b, off, K, Ad, nd, cd, L, rfl, hb, he, c0, c1, hX, hnd, hcd⟩ := (hr.below hbel).ent hlt2
          have hst := Lib.hid (show headL cnt es :: (es.take j).map (·.2) ++ [L] = headL cnt es :: (es.take (j + 1)).map (·.2) by rw [take_step he]; simp)
          obtain ⟨hs, hFr, hAll⟩ := hO
          have hsl : hs.length = j + 1 := by rw [hAll.1]; simp; omega
          obtain ⟨wa, hwa⟩ : ∃ wa, wa = wr.alloc (.cells #[.int .i64 K, .slice Ad nd cd] 99) := ⟨_, rfl⟩
          have ba : Below wr.heap.size wr wa := by rw [hwa]; exact (Below.refl _ wr).alloc (Nat.le_refl _) _
          have hA2 := (hAll.below ba).below ((Below.refl _ wa).alloc (Nat.le_refl _) (.cells #[.slice Ad nd cd] 39))
          have hF2 := (hFr.below ba).alloc (.cells #[.slice Ad nd cd] 39)
          have hI2 : RItem ssK B0 5 (wa.alloc (.cells #[.slice Ad nd cd] 39)) (Ad, nd, cd) L := ⟨trivial, (hX.below ba).below ((Below.refl _ wa).alloc (Nat.le_refl _) _), hnd, hcd⟩
          have hRb : RdG ssE (wa.alloc (.cells #[.slice Ad nd cd] 39)) (some ⟨wr.heap.size + 1, 0, none⟩) 1 [(Ad, nd, cd)] := by
            rw [hwa]
            have := RdG.boxed (E := ssE) (wr.alloc (.cells #[.int .i64 K, .slice Ad nd cd] 99)) 39 (Ad, nd, cd) #[.slice Ad nd cd] rfl
            simpa using this
          rw [hwa] at hA2 hF2 hI2 hRb
          clear hwa ba
          have q1 : (j : Int) < k := by omega
          have HI2 := Lib.hid hI2
          clear he hX hI2
          go_wp2_with (at_builtin; refine wpList_append_G (E := ssE) _ rfl (.tmp 47) (.tmp 50) _ rfl w.heap.size 39 Try.underlying51 infoSS rfl u6 hs rfl hF2 (some ⟨wr.heap.size + 1, 0, none⟩) 1 1 [(Ad, nd, cd)] rfl hRb (by omega) (by omega) (by simp; omega) ?_; intro b' w9 hF9 hg9 hb9)
          have hO9 : OwnR ssK 39 w.heap.size B0 5 w9 b' (headL cnt es :: (es.take j).map (·.2) ++ [L]) := by
            obtain ⟨A4, c4', e4, hown4⟩ := id hF2
            exact ⟨_, hF9, hA2.more HI2.out hown4 hB00 (by decide) hg9⟩
          have b9 : Below w.heap.size w w9 := (show Below w.heap.size w ((wr.alloc (.cells #[.int .i64 K, .slice Ad nd cd] 99)).alloc (.cells #[.slice Ad nd cd] 39)) from (by (have q_hbel := Below.size hbel; (try simp at q_hbel); repeat (first | exact Below.refl _ _ | (refine Below.trans ?_ (Below.mono hbel (by first | omega | (simp; omega) | simp))) | (refine Below.setCell ?_ (by first | omega | (simp; omega) | simp) _) | (refine Below.alloc ?_ (by first | omega | (simp; omega) | simp) _) | apply Below.drew | apply below_drewN)))).trans hb9
          go_roundw
          case rel => exact ⟨j + 1, by omega, by go_num, by rw [← hst.out]; exact hO9, b9⟩
          case measure => simp [intOf] <;> omega
        · obtain rfl : j = k := by omega
          have hT := Lib.hid (show headL cnt es :: (es.take j).map (·.2) = encL cnt es by rw [List.take_of_length_le (by omega)]; rfl)
          go_wp2_with fail
          go_ret
          exact ⟨_, rfl, by rw [← hT.out]; exact hO, hbel⟩
end Go.Proofs.Ythepgnankelmeaa
namespace Go.Proofs.Ythepgnankelmeaa
open Go.RowKit

theorem RAll.grown {η α : Type} {K : RKind η α} {B Br : Nat} {T T2 : TypeId} {w w' : World} {hs : List η} {es : List α} (ha : RAll K B T w hs es) {s : Nat} {v : Value} {m : Nat} {xs : List Value} (hrow : w.ownsRow Br T2 s v m xs) (hBr : B ≤ Br) (hT : T ≠ T2) (hg : w.grownBy w' v.ownBlock) : RAll K B T w' hs es :=
  ⟨ha.1, fun i h e h1 h2 => ⟨(ha.2 i h e h1 h2).1, (ha.2 i h e h1 h2).2.1.grown hrow hBr hT hg, (ha.2 i h e h1 h2).2.2⟩⟩
/-- Records whose heads are slices of bytes: a row of rows. -/
theorem RdR.toSS {B : Nat} {T : TypeId} {w : World} {A : Option Addr} {n : Nat} {ls : List (List UInt8)} (hr : RdR ssK B T w A n ls) : RdSS w A n ls := by
  refine ⟨hr.len, fun hn => ?_⟩
  obtain ⟨hs, h1, h2⟩ := hr
  obtain ⟨b, off, hA, hb, hc⟩ := h1.2 hn
  refine ⟨b, off, hA, hb, fun k l hk => ?_⟩
  have hkl : k < ls.length := (List.getElem?_eq_some_iff.1 hk).1
  have hkh : k < hs.length := by rw [h2.1]; exact hkl
  obtain ⟨_, hX, e3, e4⟩ := h2.2 k hs[k] l (List.getElem?_eq_getElem hkh) hk
  have h0 := hc k hs[k] (List.getElem?_eq_getElem hkh) 0 _ rfl
  have hll : l.length = hs[k].2.1 := hX.1.len
  have hsz : ssK.E.sz = 1 := rfl
  rw [hsz, Nat.mul_one, Nat.add_zero] at h0
  refine ⟨hs[k].1, hs[k].2.2, ?_⟩
  have hX1 := hX.1
  rw [hll]
  exact ⟨h0, hX1, e3, e4⟩

set_option maxRecDepth 100000 in
set_option maxHeartbeats 2000000 in
theorem filled_any (p t : Int) (A : Option Addr) (n c B0 : Nat) (ls : List (List UInt8)) (x : UInt8) (w : World) (hr : RdR ssK B0 5 w A n ls) (hB00 : B0 ≤ w.heap.size) (ht0 : 0 ≤ t) (ht : t ≤ 1000) (hn : (n : Int) ≤ 1 + t) :
    Calls Try.prog 53 #[.agg #[.int .i64 p, .int .i64 t], .slice A n c, .int .u8 x.toNat] w fun e w' => ∃ v, e = .returned v ∧ OwnR ssK 39 w.heap.size B0 5 w' v (ls ++ List.replicate ((1 + t).toNat - n) (fullL [x])) ∧ Below w.heap.size w w' := by
  have hlen := hr.len
  obtain ⟨m, hm⟩ : ∃ m : Nat, 1 + t = m := ⟨(1 + t).toNat, by omega⟩
  have hm' : (1 + t).toNat = m := by omega
  rw [hm']
  clear hm'
  obtain ⟨hs, hR, hAll⟩ := hr
  have hsl : hs.length = n := hR.len
  have hF0 : FreshG ssE 39 (w.heap.size + 1) ((w.alloc (.cells #[.int .i64 p, .int .i64 t] 23)).alloc (.cells #[] 39)) (.slice (some ⟨w.heap.size + 1, 0, none⟩) 0 0) [] := by
    have h_ := FreshG.of_blk (E := ssE) (l := []) (n := 0) (Blk.new (w.alloc (.cells #[.int .i64 p, .int .i64 t] 23)) 39 #[]) (Nat.le_refl _) (by unfold maxLen; omega) rfl rfl
    simpa using h_
  have hR0 := (hR.alloc (.cells #[.int .i64 p, .int .i64 t] 23)).alloc (.cells #[] 39)
  have hA0 := (hAll.below ((Below.refl _ w).alloc (Nat.le_refl _) (.cells #[.int .i64 p, .int .i64 t] 23))).below ((Below.refl _ _).alloc (Nat.le_refl _) (.cells #[] 39))
  have Q0 : Blk ((w.alloc (.cells #[.int .i64 p, .int .i64 t] 23)).alloc (.cells #[] 39)) w.heap.size 23 #[.int .i64 p, .int .i64 t] := (Blk.new _ _ _).alloc _
  clear hR hAll
  go_enter Try.func53, Try.ntmps53
  go_wp2_with (at_builtin; refine wpList_append_G (E := ssE) _ rfl (.tmp 8) (.tmp 9) _ rfl (w.heap.size + 1) 39 Try.underlying51 infoSS rfl _ [] rfl hF0 A n c hs rfl hR0 (by simp <;> omega) (by simp <;> omega) (by simp <;> omega) ?_; intro v1 w1 hF1 hg1 hb1)
  have hO1 : OwnR ssK 39 (w.heap.size + 1) B0 5 w1 v1 (ls ++ List.replicate 0 (fullL [x])) := by
    obtain ⟨A4, c4', e4, hown4⟩ := id hF0
    refine ⟨hs, hF1, ?_⟩
    rw [List.replicate_zero, List.append_nil]
    exact hA0.grown hown4 (by omega) (by decide) hg1
  have Q1 := Q0.below hb1 (by omega)
  have b1 : Below w.heap.size w w1 := (by (have q_hb1 := Below.size hb1; (try simp at q_hb1); repeat (first | exact Below.refl _ _ | (refine Below.trans ?_ (Below.mono hb1 (by first | omega | (simp; omega) | simp))) | (refine Below.setCell ?_ (by first | omega | (simp; omega) | simp) _) | (refine Below.alloc ?_ (by first | omega | (simp; omega) | simp) _) | apply Below.drew | apply below_drewN)))
  clear hF0 hR0 hA0 Q0 hF1 hg1 hb1
  go_loopw [7] (fun v wr => ∃ j : Nat, n + j ≤ m ∧ OwnR ssK 39 (w.heap.size + 1) B0 5 wr v (ls ++ List.replicate j (fullL [x])) ∧ Blk wr w.heap.size 23 #[.int .i64 p, .int .i64 t] ∧ Below w.heap.size w wr) (fun v _ => m - lenV v)
  case atStart => exact ⟨0, by omega, hO1, Q1, b1⟩
  case round =>
    clear hO1 Q1 b1
    obtain ⟨j, hj, hO, hQ, hbel⟩ := hrel
    have hbz := hbel.size
    have hqz := hQ.lt
    have cQ := hQ.cell
    by_cases hlt : n + j < m
    · obtain ⟨hs1, hFr, hAll⟩ := hO
      obtain ⟨F, hF⟩ : ∃ F, F = fullL [x] := ⟨_, rfl⟩
      have HF := Lib.hid hF
      have hFl : F.length = 256 := by rw [hF, fullL_len]
      rw [← hF] at hAll
      have hsl1 : hs1.length = n + j := by rw [hAll.1]; simp [hlen]
      obtain ⟨Av, cv, rfl, _⟩ := id hFr
      rw [hsl1] at hFr ⊢
      have hlt' : ((n + j : Nat) : Int) < m := by omega
      clear hF
      go_wp2_with fail
      refine (lfull_any (some ⟨wr.heap.size, 0, none⟩) 1 1 [x] _ (Rd.byte _ _ _ x rfl) (by omega)).mono ?_
      rintro e w2 ⟨v2, rfl, hF2, hb2⟩
      rw [← HF.out] at hF2
      obtain ⟨A2, c2, rfl, _, _, h1, h2⟩ := hF2.rdn 256 hFl
      have bw2 : Below wr.heap.size wr w2 := (by (have q_hb2 := Below.size hb2; (try simp at q_hb2); repeat (first | exact Below.refl _ _ | (refine Below.trans ?_ (Below.mono hb2 (by first | omega | (simp; omega) | simp))) | (refine Below.setCell ?_ (by first | omega | (simp; omega) | simp) _) | (refine Below.alloc ?_ (by first | omega | (simp; omega) | simp) _) | apply Below.drew | apply below_drewN)))
      have hA2 := (hAll.below bw2).below ((Below.refl _ w2).alloc (Nat.le_refl _) (.cells #[.slice A2 256 c2] 39))
      have hFr2 := (hFr.below bw2).alloc (.cells #[.slice A2 256 c2] 39)
      have hQ2 := (hQ.on bw2).alloc (.cells #[.slice A2 256 c2] 39)
      have hI2 : RItem ssK B0 5 (w2.alloc (.cells #[.slice A2 256 c2] 39)) (A2, 256, c2) F := ⟨trivial, (RdX.fresh hF2 hFl).below ((Below.refl _ w2).alloc (Nat.le_refl _) _), h1, h2⟩
      have hRb : RdG ssE (w2.alloc (.cells #[.slice A2 256 c2] 39)) (some ⟨w2.heap.size, 0, none⟩) 1 [(A2, 256, c2)] := RdG.boxed _ _ _ _ rfl
      have z2 := bw2.size
      clear hFr hAll hQ cQ hF2
      go_wp2_with (at_builtin; refine wpList_append_G (E := ssE) _ rfl (.tmp 17) (.tmp 21) _ rfl (w.heap.size + 1) 39 Try.underlying51 infoSS rfl _ hs1 rfl hFr2 (some ⟨w2.heap.size, 0, none⟩) 1 1 [(A2, 256, c2)] rfl hRb (by omega) (by omega) (by simp; omega) ?_; intro v3 w3 hF3 hg3 hb3)
      have hO3 : OwnR ssK 39 (w.heap.size + 1) B0 5 w3 v3 (ls ++ List.replicate j F ++ [F]) := by
        obtain ⟨A4, c4', e4, hown4⟩ := id hFr2
        exact ⟨_, hF3, hA2.more hI2 hown4 (by omega) (by decide) hg3⟩
      rw [List.append_assoc, ← List.replicate_succ', HF.out] at hO3
      have hsh := hO3.rd (n + (j + 1)) (by simp [hlen])
      obtain ⟨A5, c5, rfl, _⟩ := hsh
      have hQ3 := hQ2.below hb3 (by omega)
      have b3 : Below w.heap.size w w3 := (show Below w.heap.size w (w2.alloc (.cells #[.slice A2 256 c2] 39)) from (by (have q_bw2 := Below.size bw2; (try simp at q_bw2); have q_hbel := Below.size hbel; (try simp at q_hbel); repeat (first | exact Below.refl _ _ | (refine Below.trans ?_ (Below.mono bw2 (by first | omega | (simp; omega) | simp))) | (refine Below.trans ?_ (Below.mono hbel (by first | omega | (simp; omega) | simp))) | (refine Below.setCell ?_ (by first | omega | (simp; omega) | simp) _) | (refine Below.alloc ?_ (by first | omega | (simp; omega) | simp) _) | apply Below.drew | apply below_drewN)))).trans (hb3.mono (by omega))
      go_roundw
      case rel => exact ⟨j + 1, by omega, hO3, hQ3, b3⟩
      case measure => simp [lenV]; omega
    · obtain rfl : j = m - n := by omega
      obtain ⟨Av, cv, rfl, _⟩ := hO.rd m (by simp [hlen]; omega)
      have hO2 := hO.from_ (Br' := w.heap.size) (by omega)
      go_wp2_with fail
      go_ret
      exact ⟨_, rfl, hO2, hbel⟩
end Go.Proofs.Ythepgnankelmeaa
