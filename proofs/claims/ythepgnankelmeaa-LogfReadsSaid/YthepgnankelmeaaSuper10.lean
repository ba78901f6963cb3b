/- A slice of numbers that came in; copy of numbers; the plain law of epoch blocks; the document's Block. -/
import Derived.Test.YthepgnankelmeaaSuper9
import Derived.Test.YthepgnankelmeaaViews
import Derived.Test.YthepgnankelmeaaWord4
namespace Go.Proofs.Ythepgnankelmeaa
open Go.ChangeShapes Go.WideShapes Go.RowKit Go.Joins Go.Deep

section
variable {H : Type} {enc : TypeId × Value → H} {P : Program} {w : World} {base : Nat} {held : Bool} {r : Reach} {b0 : Nat} {v : Value} {d : DataW H} {p : List MemPlace}
theorem view_u64s {t e : TypeId} (ht : P.underlying t = some (.slice e)) (he : P.underlying e = some (.int .u64)) (hC : P.cellsOf e = 1) (hv : Value.okWide P w r b0 t v) (h : DataW.Trod enc P w base (fun _ => true) held t v d p) :
    ∃ (A : Option Addr) (n c : Nat) (l : List Nat), v = .slice A n c ∧ RdG u64E w A n l ∧ n ≤ c ∧ c ≤ maxLen ∧ ∀ v ∈ l, v ≤ 18446744073709551615 := by
  obtain ⟨A, n, c, rfl⟩ := okWide_slice ht hv
  obtain ⟨fuel, hf⟩ := h
  rcases open_ints ht he hC hf with ⟨hcs, _⟩ | ⟨x, l, cc, zs, hcs, _, hl, hm, hz, _, hcell, hwz⟩
  · simp [Value.cells] at hcs
    obtain ⟨rfl, rfl, rfl⟩ := hcs
    exact ⟨none, 0, 0, [], rfl, RdG.nil, Nat.le_refl _, by unfold maxLen; omega, by simp⟩
  · simp [Value.cells] at hcs
    obtain ⟨rfl, rfl, rfl⟩ := hcs
    have hzl : zs.length = c := by simpa using hz
    refine ⟨some x, n, c, (zs.take n).map fun z => z.toNat, rfl, ⟨by simp; omega, fun hn => ?_⟩, hl, hm, ?_⟩
    · obtain ⟨b, off, spot⟩ := x
      have h0 := hcell 0 (by omega)
      have hspot : spot = none := by simpa [Addr.add] using World.cell?_spot h0
      subst hspot
      refine ⟨b, off, rfl, ?_, fun k a hk j u hu => ?_⟩
      · have := World.block_lt_of_cell? w _ h0
        simpa [Addr.add] using this
      · rw [List.getElem?_map] at hk
        obtain ⟨z, hzj, rfl⟩ := Option.map_eq_some_iff.1 hk
        rw [List.getElem?_take] at hzj
        split at hzj
        · have hjl : k < zs.length := (List.getElem?_eq_some_iff.1 hzj).1
          have hcj := hcell k hjl
          have h2 : (⟨b, off, none⟩ : Addr).add k = ⟨b, off + k, none⟩ := by unfold Addr.add; split <;> simp_all
          rw [h2] at hcj
          have hzz : zs.getD k 0 = z := by simp [List.getD, hzj]
          have hw := hwz z (List.mem_of_getElem? hzj)
          simp [Lit.wf, IntKind.min, IntKind.max, IntKind.signed, IntKind.bits] at hw
          have hj : j = 0 := by have := (List.getElem?_eq_some_iff.1 hu).1; simp [u64E] at this; exact this
          subst hj
          simp [u64E] at hu
          subst hu
          show w.cell? ⟨b, off + k * 1 + 0, none⟩ = _
          rw [Nat.mul_one, Nat.add_zero, hcj, hzz]
          congr 2
          omega
        · cases hzj
    · intro q hq
      obtain ⟨z, hz2, rfl⟩ := List.mem_map.1 hq
      have hw := hwz z (List.mem_of_mem_take hz2)
      simp [Lit.wf, IntKind.min, IntKind.max, IntKind.signed, IntKind.bits] at hw
      omega
end

/-- S numbers: those of l, noughts behind the last. -/
def nallL (l : List Nat) (S : Nat) : List Nat := l.take S ++ List.replicate (S - l.length) 0
theorem nallL_len (l : List Nat) (S : Nat) : (nallL l S).length = S := by simp [nallL]; omega
theorem nallL_le {l : List Nat} {S : Nat} (h : ∀ v ∈ l, v ≤ 18446744073709551615) : ∀ v ∈ nallL l S, v ≤ 18446744073709551615 := by
  intro v hv
  rcases List.mem_append.1 hv with hv | hv
  · exact h v (List.mem_of_mem_take hv)
  · have := (List.mem_replicate.1 hv).2; omega
theorem flat_u64 (l : List Nat) : l.flatMap u64E.f = l.map fun v : Nat => Value.int .u64 (v : Int) := by
  induction l with
  | nil => rfl
  | cons v l ih => rw [List.flatMap_cons, ih]; rfl
theorem Kept.row {g : Nat} (w : World) (cs : Array Value) : Kept [g] w (w.setRow g cs) :=
  ⟨rfl, rfl, rfl, by simp, fun k _ hk => setRow_other w g k cs (by simpa using hk)⟩
/-- copy(all, l), all a row of noughts. -/
theorem run_copy_u64 {P : Program} {W : World} {g : Nat} {T dT e : TypeId} {cur : Array Value} {A : Option Addr} {n : Nat} {l : List Nat} (S : Nat) (hB : Blk W g T cur) (hcur : cur.toList = (List.replicate S 0).flatMap u64E.f) (hr : RdG u64E W A n l)
    (hu : P.underlying dT = some (.slice e)) (hi : (P.info? e).map (fun i => (i.zero, i.size, i.bytes)) = some (some (.int .u64 0), 1, 8)) (ty : TypeId) (dCap c : Nat) :
    ∃ cs, (Builtin.copy_ #[dT, dT] ty #[.slice (some ⟨g, 0, none⟩) S dCap, .slice A n c]).run P W = .ok (.int .i64 ((min n S : Nat) : Int)) (W.setRow g cs) ∧ cs.toList = (nallL l S).flatMap u64E.f := by
  have hs : (P.info? e).map (·.size) = some 1 := by
    obtain ⟨i, h1, h2, h3, h4⟩ := info_parts hi
    rw [h1]; simp [h3]
  have hl := hr.len
  have hcl : cur.size = S := by
    have := congrArg List.length hcur
    rw [flat_len] at this
    simpa [u64E] using this
  by_cases h0 : min n S = 0
  · refine ⟨cur, ?_, ?_⟩
    · rw [run_copy_none W dT dT ty e (some ⟨g, 0, none⟩) A S dCap n c hu hs h0, h0, setRow_self W g cur T (0, 0) hB]
      rfl
    · have : nallL l S = List.replicate S 0 := by
        unfold nallL
        by_cases hS : S = 0
        · subst hS; simp
        · have : l = [] := List.eq_nil_of_length_eq_zero (by omega)
          subst this; simp
      rw [this]; exact hcur
  · obtain ⟨b, o, rfl, hb, hc⟩ := hr.2 (by omega)
    have hlen : ((l.take S).map fun v : Nat => Value.int .u64 (v : Int)).length = min n S := by
      simp only [List.length_map, List.length_take, hl]
      exact Nat.min_comm _ _
    have h := run_copy_row (P := P) W dT dT ty e g 0 S dCap ⟨b, o, none⟩ n c cur T ((l.take S).map fun v : Nat => Value.int .u64 (v : Int)) hu hs hB hlen (by
      intro j v hj
      have h2 : (⟨b, o, none⟩ : Addr).add j = ⟨b, o + j, none⟩ := by unfold Addr.add; split <;> simp_all
      rw [h2]
      rw [List.getElem?_map] at hj
      obtain ⟨x, hx, rfl⟩ := Option.map_eq_some_iff.1 hj
      rw [List.getElem?_take] at hx
      split at hx
      · have := hc j x hx 0 (.int .u64 (x : Int)) rfl
        simpa [u64E] using this
      · cases hx) (by rw [hlen, hcl]; omega) (by intro v hv; obtain ⟨x, _, rfl⟩ := List.mem_map.1 hv; rfl)
    refine ⟨_, h.trans (by rw [hlen]; rfl), ?_⟩
    rw [hcur, flat_u64, flat_u64]
    unfold nallL
    simp only [List.take_zero, List.nil_append, Nat.zero_add, List.length_map, List.length_take, List.map_append, List.map_replicate, List.drop_replicate]
    congr 2
    omega

/-- The blocks of the numbers. -/
def blksL (l : List Nat) (E : Nat) : List (List UInt8) := (List.range E).map fun k => bytes8 (nums32 l k)
theorem nums32_len (l : List Nat) (k : Nat) : (nums32 l k).length = 32 := by simp [nums32]
theorem blksL_len (l : List Nat) (E : Nat) : (blksL l E).length = E := by simp [blksL]
theorem blksL_succ (l : List Nat) (E : Nat) : blksL l (E + 1) = blksL l E ++ [bytes8 (nums32 l E)] := by simp [blksL, List.range_succ]
theorem blksL_ok (l : List Nat) (E : Nat) : (blksL l E).any shortB = false := by
  rw [List.any_eq_false]
  intro b hb
  obtain ⟨q, _, rfl⟩ := List.mem_map.1 hb
  simp [shortB, bytes8_len, nums32_len]
theorem bytes8_at : ∀ (m : List Nat) (r v : Nat), m[r]? = some v → ((bytes8 m).drop (8 * r)).take 8 = putL 8 (v : Int)
  | [], r, v, h => by simp at h
  | x :: m, 0, v, h => by
    simp at h
    subst h
    show ((putL 8 (x : Int) ++ bytes8 m).drop 0).take 8 = _
    rw [List.drop_zero, List.take_append_of_le_length (by rw [putL_len]; exact Nat.le_refl _)]
    exact List.take_of_length_le (by rw [putL_len]; exact Nat.le_refl _)
  | x :: m, r + 1, v, h => by
    have ih := bytes8_at m r v (by simpa using h)
    show ((putL 8 (x : Int) ++ bytes8 m).drop (8 * (r + 1))).take 8 = _
    rw [show 8 * (r + 1) = (putL 8 (x : Int)).length + 8 * r from by rw [putL_len]; omega, ← List.drop_drop, List.drop_left]
    exact ih
theorem getL_put8 : ∀ (n : Nat) (v : Int), 0 ≤ v → (getL (putL n v) : Int) = v % 256 ^ n := by
  intro n
  induction n with
  | zero => intro v _; simp [putL, getL]
  | succ n ih =>
    intro v h0
    have e : putL (n + 1) v = byteI v 0 :: putL n (v / 256) := by
      unfold putL
      rw [List.range_succ_eq_map, List.map_cons, List.map_map]
      congr 1
      apply List.map_congr_left
      intro k _
      exact (byteI_next v k).symm
    rw [e, getL]
    have h1 := ih (v / 256) (Int.ediv_nonneg h0 (by omega))
    have h2 := byteI_val v 0
    rw [Int.natCast_add, Int.natCast_mul, h1, h2]
    simp only [Int.pow_zero, Int.ediv_one]
    have h3 := Int.emod_def (v / 256) (256 ^ n)
    rw [Int.emod_def v (256 ^ (n + 1)), h3, Int.pow_succ, Int.mul_comm (256 ^ n) 256, ← Int.ediv_ediv_of_nonneg (by omega)]
    generalize v / 256 / 256 ^ n = q
    rw [Int.mul_assoc]
    generalize (256 : Int) ^ n * q = r
    omega
/-- What is read of the blocks is what was put. -/
theorem epochs_back (l : List Nat) (S E : Nat) (hl : l.length = S) (hS : S ≤ 32 * E) (hv : ∀ v ∈ l, v ≤ 18446744073709551615) : epsL (blksL l E).flatten S = l := by
  apply List.ext_getElem?
  intro j
  by_cases hj : j < S
  · rw [epsL_get _ _ _ hj]
    have hb : (blksL l E)[j / 32]? = some (bytes8 (nums32 l (j / 32))) := by
      unfold blksL
      rw [List.getElem?_map, List.getElem?_range (by omega)]; rfl
    have hx : l[j]? = some (l[j]'(by omega)) := List.getElem?_eq_getElem (by omega)
    have hn : (nums32 l (j / 32))[j % 32]? = some (l[j]'(by omega)) := by
      unfold nums32
      rw [List.getElem?_map, List.getElem?_range (by omega)]
      simp only [Option.map_some]
      rw [show 32 * (j / 32) + j % 32 = j from by omega, hx]
      rfl
    rw [(numAt_flat (blksL_ok l E) hb).1, bytes8_at _ _ _ hn, hx]
    have h1 := getL_put8 8 ((l[j]'(by omega) : Nat) : Int) (Int.natCast_nonneg _)
    have hle := hv _ (List.getElem_mem (show j < l.length by omega))
    generalize l[j]'(by omega) = y at h1 hle ⊢
    rw [show (256 : Int) ^ 8 = 18446744073709551616 from by decide +kernel] at h1
    exact congrArg some (by omega)
  · rw [List.getElem?_eq_none (by rw [epsL_len]; omega), List.getElem?_eq_none (by omega)]

theorem nums32_step (l : List Nat) (k j : Nat) (h : j < 32) : (nums32 l k).take (j + 1) = (nums32 l k).take j ++ [(l[32 * k + j]?).getD 0] := by
  refine take_step ?_
  unfold nums32
  rw [List.getElem?_map, List.getElem?_range h]
  rfl
set_option maxRecDepth 100000 in
set_option maxHeartbeats 2000000 in
theorem rblock_any (k : Nat) (A : Option Addr) (n c : Nat) (l : List Nat) (w : World) (hr : RdG u64E w A n l) (hn : n ≤ 69) (hk : k ≤ 3) (hv : ∀ v ∈ l, v ≤ 18446744073709551615) :
    Calls Try.prog 48 #[.int .i64 k, .slice A n c] w (Gives 5 w (bytes8 (nums32 l k))) := by
  have HV := Lib.hid hv
  clear hv
  go_enter Try.func48, Try.ntmps48
  go_wp2_with fail
  go_loopw [5, 6] (fun bb i wr => ∃ j : Nat, j ≤ 32 ∧ i = .int .i64 ((32 * k + j : Nat) : Int) ∧ Fresh 5 w.heap.size wr bb (bytes8 ((nums32 l k).take j)) ∧ Below w.heap.size w wr) (fun _ i _ => 32 * k + 32 - (intOf i).toNat)
  case atStart => exact ⟨0, by omega, int_eq (by omega), Fresh.nil _ _ _, (by (repeat (first | exact Below.refl _ _ | (refine Below.setCell ?_ (by first | omega | (simp; omega) | simp) _) | (refine Below.alloc ?_ (by first | omega | (simp; omega) | simp) _) | apply Below.drew | apply below_drewN)))⟩
  case round =>
    obtain ⟨j, hj, rfl, hF, hbr⟩ := hrel
    by_cases hlt : j < 32
    · have hst := Lib.hid (nums32_step l k j hlt)
      have hlen := Lib.hid (show ((nums32 l k).take j).length ≤ 32 by rw [List.length_take, nums32_len]; omega)
      have hbz := hbr.size
      obtain ⟨i, hi⟩ : ∃ i, i = 32 * k + j := ⟨_, rfl⟩
      have HI := Lib.hid hi
      have hi1 : (i : Int) < 32 * (k : Int) + 32 := by omega
      have hi2 : i ≤ 200 := by omega
      rw [← hi] at hst ⊢
      clear hi
      by_cases hin : i < n
      · obtain ⟨bx, offx, v, rfl, hbx, hx, hc0⟩ := (hr.below hbr).at_ hin
        have hcx : wr.cell? ⟨bx, offx + i, none⟩ = some (.int .u64 (v : Int)) := by
          have := hc0 0 (.int .u64 (v : Int)) rfl
          simpa [u64E] using this
        have hv1 : (v : Int) ≤ 18446744073709551615 := by have := HV.out v (List.mem_of_getElem? hx); omega
        have hv0 : (0 : Int) ≤ v := by omega
        have hin' : (i : Int) < n := by omega
        have hst2 := Lib.hid hst.out
        rw [hx] at hst
        clear hc0 hx hst2
        go_wp2_with fail
        refine (rput_any 8 (v : Int) _ (by omega) hv0 hv1).mono ?_
        rintro e w4 ⟨v4, rfl, hF4, hb4⟩
        obtain ⟨A4, c4, rfl, hR4, _, _, _⟩ := hF4.rdn 8 (putL_len _ _)
        have hbz4 := hb4.size
        go_wp2_with (at_builtin; refine wpList_append_bytes _ rfl (.tmp 25) (.tmp 27) _ rfl w.heap.size 5 Try.underlying39 info8 _ _ rfl (hF.below hb4) _ _ _ (putL 8 (v : Int)) rfl hR4 (by have := hlen.out; rw [bytes8_len]; omega) (by omega) ?_; intro b' w5 hF5 hg5 hb5)
        go_roundw
        case rel => exact ⟨j + 1, by omega, by rw [HI.out] at *; go_num, by rw [hst.out]; simp only [Option.getD_some]; rw [bytes8_snoc]; exact hF5, (by (have q_hb5 := Below.size hb5; (try simp at q_hb5); have q_hb4 := Below.size hb4; (try simp at q_hb4); have q_hbr := Below.size hbr; (try simp at q_hbr); repeat (first | exact Below.refl _ _ | (refine Below.trans ?_ (Below.mono hb5 (by first | omega | (simp; omega) | simp))) | (refine Below.trans ?_ (Below.mono hb4 (by first | omega | (simp; omega) | simp))) | (refine Below.trans ?_ (Below.mono hbr (by first | omega | (simp; omega) | simp))) | (refine Below.setCell ?_ (by first | omega | (simp; omega) | simp) _) | (refine Below.alloc ?_ (by first | omega | (simp; omega) | simp) _) | apply Below.drew | apply below_drewN)))⟩
        case measure => rw [HI.out]; simp [intOf] <;> omega
      · have hx : l[i]? = none := List.getElem?_eq_none (by rw [hr.len]; omega)
        have hin' : (n : Int) ≤ i := by omega
        rw [hx] at hst
        clear hx
        go_wp2_with fail
        refine (rput_any 8 0 _ (by omega) (by omega) (by omega)).mono ?_
        rintro e w4 ⟨v4, rfl, hF4, hb4⟩
        obtain ⟨A4, c4, rfl, hR4, _, _, _⟩ := hF4.rdn 8 (putL_len _ _)
        have hbz4 := hb4.size
        go_wp2_with (at_builtin; refine wpList_append_bytes _ rfl (.tmp 25) (.tmp 27) _ rfl w.heap.size 5 Try.underlying39 info8 _ _ rfl (hF.below hb4) _ _ _ (putL 8 0) rfl hR4 (by have := hlen.out; rw [bytes8_len]; omega) (by omega) ?_; intro b' w5 hF5 hg5 hb5)
        go_roundw
        case rel => exact ⟨j + 1, by omega, by rw [HI.out] at *; go_num, by rw [hst.out]; simp only [Option.getD_none]; rw [bytes8_snoc]; exact hF5, (by (have q_hb5 := Below.size hb5; (try simp at q_hb5); have q_hb4 := Below.size hb4; (try simp at q_hb4); have q_hbr := Below.size hbr; (try simp at q_hbr); repeat (first | exact Below.refl _ _ | (refine Below.trans ?_ (Below.mono hb5 (by first | omega | (simp; omega) | simp))) | (refine Below.trans ?_ (Below.mono hb4 (by first | omega | (simp; omega) | simp))) | (refine Below.trans ?_ (Below.mono hbr (by first | omega | (simp; omega) | simp))) | (refine Below.setCell ?_ (by first | omega | (simp; omega) | simp) _) | (refine Below.alloc ?_ (by first | omega | (simp; omega) | simp) _) | apply Below.drew | apply below_drewN)))⟩
        case measure => rw [HI.out]; simp [intOf] <;> omega
    · obtain rfl : j = 32 := by omega
      rw [List.take_of_length_le (by rw [nums32_len]; exact Nat.le_refl _)] at hF
      go_wp2_with fail
      go_ret
      exact ⟨_, rfl, hF, hbr⟩
end Go.Proofs.Ythepgnankelmeaa
