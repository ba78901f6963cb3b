/- Pages: Give, Turn. -/
import Derived.Test.YtidlcplamgajpaaPages12
import Derived.Test.YtidlcplamgajpaaKept
namespace Go.Proofs.Ytidlcplamgajpaa
open Go.RowKit

theorem run_clear_pages {P : Program} {w : World} {g : Nat} {T t e : TypeId} {cur : Array Value} (ht : P.underlying t = some (.slice e)) (hi : (P.info? e).map (fun i => (i.zero, i.size, i.bytes)) = some (some (.agg #[.int .i64 0, .int .i64 0, .int .i64 0, .int .i64 0, .int .u64 0]), 5, 40)) (hB : Blk w g T cur) (o m c : Nat) (hm : 1 ≤ m) (hfit : o + m * 5 ≤ cur.size) :
    ∃ cs : Array Value, (∀ ty, (Builtin.clear_ #[t] ty #[.slice (some ⟨g, o, none⟩) m c]).run P w = .ok (.tuple #[]) (w.setRow g cs)) ∧ cs.size = cur.size ∧ (∀ i, i < o ∨ o + m * 5 ≤ i → cs[i]? = cur[i]?) ∧ ∀ i u, ((List.replicate m zeroPg).flatMap pgE.f)[i]? = some u → cs[o + i]? = some u := by
  obtain ⟨i, h1, h2, h3, h4⟩ := info_parts hi
  have hz : ∀ W : World, (zeroValue e).run P W = .ok (.agg #[.int .i64 0, .int .i64 0, .int .i64 0, .int .i64 0, .int .u64 0]) W := fun W => by simp [zeroValue, typeInfo, h1, h2]
  have hzc : (Builtin.zeroCells (Value.agg #[.int .i64 0, .int .i64 0, .int .i64 0, .int .i64 0, .int .u64 0]).cells m).toList = (List.replicate m zeroPg).flatMap pgE.f := by
    rw [← made_pages m]
    rfl
  have hlen : ((List.replicate m zeroPg).flatMap pgE.f).length = m * 5 := by rw [flat_len]; simp; rfl
  have hone := flat_one pgE (List.replicate m zeroPg)
  obtain ⟨V, hV⟩ : ∃ V, V = (List.replicate m zeroPg).flatMap pgE.f := ⟨_, rfl⟩
  rw [← hV] at hzc hlen hone ⊢
  clear hV
  have hst := run_storeCells_at P g o T V 0 cur w hB (by rw [hlen]; omega) hone
  rw [hlen, Nat.add_zero] at hst
  have e : (cur.toList.take o).length = o := by simp; omega
  refine ⟨(cur.toList.take o ++ V ++ cur.toList.drop (o + m * 5)).toArray, fun ty => ?_, ?_, ?_, ?_⟩
  · obtain ⟨q, rfl⟩ : ∃ q, m = q + 1 := ⟨m - 1, by omega⟩
    simp [Builtin.clear_, run_underlying ht, hz, hzc]
    rw [hst]
    simp
  · simp [hlen]; omega
  · intro i hi'
    simp only [List.getElem?_toArray]
    rcases hi' with hi' | hi'
    · rw [List.append_assoc, List.getElem?_append_left (by omega), List.getElem?_take, if_pos hi', Array.getElem?_toList]
    · rw [List.getElem?_append_right (by rw [List.length_append, e, hlen]; omega), List.getElem?_drop, List.length_append, e, hlen, show o + m * 5 + (i - (o + m * 5)) = i from by omega, Array.getElem?_toList]
  · intro i u hu
    simp only [List.getElem?_toArray]
    have hi2 := (List.getElem?_eq_some_iff.1 hu).1
    rw [List.append_assoc, List.getElem?_append_right (by omega), e, show o + i - o = i from by omega, List.getElem?_append_left hi2]
    exact hu
/-- Pages are cleared. -/
theorem FreshG.clear_ {T : TypeId} {B : Nat} {w w' : World} {l : List Pg} {A : Option Addr} {n c : Nat} (h : FreshG pgE T B w (.slice A n c) l) (hn : l.length = n) {g : Nat} {cur cs : Array Value} (hA : A = some ⟨g, 0, none⟩) (hB : Blk w g T cur) (k m : Nat) (hm : 1 ≤ m) (hk : k + m ≤ n)
    (hB' : Blk w' g T cs) (hs : cs.size = cur.size) (h1 : ∀ i, i < k * 5 ∨ k * 5 + m * 5 ≤ i → cs[i]? = cur[i]?) (h2 : ∀ i u, ((List.replicate m zeroPg).flatMap pgE.f)[i]? = some u → cs[k * 5 + i]? = some u) :
    FreshG pgE T B w' (.slice A n c) (layQ l k m zeroPg) := by
  refine h.turn hn (by omega) hA hB hB' hs (by rw [layQ_len, hn]) fun q j x u hq hu => ?_
  have hj : j < 5 := by have := (List.getElem?_eq_some_iff.1 hu).1; rw [pgE.len] at this; exact this
  have hql : q < n := by have := (List.getElem?_eq_some_iff.1 hq).1; rw [layQ_len] at this; omega
  show cs[q * 5 + j]? = some u
  have hlq : l[q]? = some l[q] := List.getElem?_eq_getElem (by omega)
  unfold layQ at hq
  rw [List.getElem?_mapIdx, hlq] at hq
  simp only [Option.map_some] at hq
  by_cases hin : k ≤ q ∧ q < k + m
  · rw [if_pos hin] at hq
    injection hq with hq
    subst hq
    have := flat_get pgE (List.replicate m zeroPg) (q - k) j zeroPg u (by rw [List.getElem?_replicate, if_pos (by omega)]) hu
    have h3 := h2 _ _ this
    rw [show k * 5 + ((q - k) * pgE.sz + j) = q * 5 + j from by show k * 5 + ((q - k) * 5 + j) = q * 5 + j; omega] at h3
    exact h3
  · rw [if_neg hin] at hq
    injection hq with hq
    subst hq
    rw [h1 _ (by omega)]
    exact h.cells hn hA hB hlq hu
theorem sz_le {T : TypeId} {B : Nat} {w : World} {l : List Pg} {A : Option Addr} {n c : Nat} (h : FreshG pgE T B w (.slice A n c) l) (hn : l.length = n) (hpos : 0 < n) {g : Nat} {cur : Array Value} (hA : A = some ⟨g, 0, none⟩) (hB : Blk w g T cur) : n * 5 ≤ cur.size := by
  obtain ⟨g', cur', hA', _, hB', hs, _⟩ := h.open_ hn hpos
  rw [hA] at hA'
  injection hA' with hA'
  injection hA' with hA'
  subst hA'
  have e : cur = cur' := by unfold Blk at hB hB'; rw [hB] at hB'; injection hB' with hB'; injection hB'
  subst e
  exact hs
theorem Kept.rowP {g : Nat} (w : World) (cs : Array Value) : Kept [g] w (w.setRow g cs) :=
  ⟨rfl, rfl, rfl, by simp, fun k _ hk => setRow_other w g k cs (by simpa using hk)⟩

set_option maxRecDepth 100000 in
set_option maxHeartbeats 8000000 in
theorem give_any (A : Option Addr) (n c : Nat) (l : List Pg) (a : Int) (w : World) (hr : RdG pgE w A n l) (hn : n ≤ 1000000) :
    Calls Try.prog 20 #[.slice A n c, .int .i64 a] w (GivesP 65 w (giveR l a) (giveErr l a)) := by
  have hlen := hr.len
  go_enter Try.func20, Try.ntmps20
  go_wp2_with fail
  refine (check_any A n c l _ hr hn).mono ?_
  rintro e w1 ⟨rfl, hb1⟩
  have hr1 := hr.below hb1
  cases hk : okL l
  · have h4 := Lib.hid (show chkE l = 4 by unfold chkE; rw [hk]; rfl)
    obtain ⟨e1, e2⟩ := gv4 (a := a) hk
    have HX := Lib.hid e1
    have HR := Lib.hid e2
    clear e1 e2
    rw [h4.out]
    go_wp2_with fail
    go_ret2
    rw [HX.out, HR.out]
    exact GivesP.none rfl rfl hb1
  · have h4 := Lib.hid (show chkE l = 0 by unfold chkE; rw [hk]; rfl)
    rw [h4.out]
    by_cases hin : 0 ≤ a ∧ a < n
    · obtain ⟨k, rfl⟩ := Int.eq_ofNat_of_zero_le hin.1
      obtain ⟨b, off, p, rfl, hbk, hp, hcell⟩ := hr1.at_ (show k < n by omega)
      have c0 := hcell 0 _ rfl
      have c1 := hcell 1 _ rfl
      have c2 := hcell 2 _ rfl
      have c3 := hcell 3 _ rfl
      have c4 := hcell 4 _ rfl
      simp only [show pgE.sz = 5 from rfl, Nat.add_zero] at c0 c1 c2 c3 c4
      clear hcell
      obtain ⟨p1, p2, p3, p4, p5⟩ := p
      simp only at c0 c1 c2 c3 c4
      have q2 : (k : Int) < n := by omega
      by_cases h2 : p1 = 2
      · subst h2
        obtain ⟨r1, r2, r3⟩ := head_room hk hp rfl
        obtain ⟨e1, e2⟩ := gv0 hk hp rfl
        simp only at r1 r2 r3 e2
        obtain ⟨R, rfl⟩ := Int.eq_ofNat_of_zero_le (show 0 ≤ p3 by omega)
        simp only [Int.toNat_natCast] at r3 e2
        have HX := Lib.hid e1
        have HR := Lib.hid e2
        clear e1 e2
        clear hp
        go_wp2_with fail
        refine (cloneP_any _ n c l _ hr1 (by omega)).mono ?_
        rintro e w3 ⟨v, rfl, hF3, hb3⟩
        have d2 := (hb3.cell (p := ⟨b, off + k * 5 + 2, none⟩) hbk).trans c2
        have hn0 : 0 < n := by omega
        obtain ⟨A3, cz, rfl, _, _, hc31, hc32⟩ := hF3.rdn n hlen
        obtain ⟨g, cur, rfl, hg, hB, _, _, _⟩ := hF3.open_ hlen hn0
        have hsz := sz_le hF3 hlen hn0 rfl hB
        obtain ⟨cs, hcl, hcs, hk1, hk2⟩ := run_clear_pages (P := Try.prog) Try.underlying24 infoPg hB (k * 5) R (cz - k) (by omega) (by omega)
        have hF4 := hF3.clear_ hlen rfl hB k R (by omega) (by omega) (hB.row cs) hcs hk1 hk2
        have hK := Kept.rowP (g := g) w3 cs
        have b3 : Below w.heap.size w w3 := (by (have q_hb3 := Below.size hb3; (try simp at q_hb3); have q_hb1 := Below.size hb1; (try simp at q_hb1); repeat (first | exact Below.refl _ _ | (refine Below.trans ?_ (Below.mono hb3 (by first | omega | (simp; omega) | simp))) | (refine Below.trans ?_ (Below.mono hb1 (by first | omega | (simp; omega) | simp))) | (refine Below.setCell ?_ (by first | omega | (simp; omega) | simp) _) | (refine Below.alloc ?_ (by first | omega | (simp; omega) | simp) _) | apply Below.drew | apply below_drewN)))
        have hz := hb1.size
        have b4 : Below w.heap.size w (w3.setRow g cs) := b3.trans (hK.below b3.size (by simp; omega))
        unfold maxLen at hc32
        have q3 : (k : Int) ≤ (k : Int) + R := by omega
        have q4 : (k : Int) + R ≤ cz := by omega
        have q5 : ((k : Int) + R).toNat = k + R := by omega
        have q6 : k + R - k = R := by omega
        have q7 : ¬ (cz = k) := by omega
        clear hk1 hk2 hB hF3 hK hcs c0 c1 c3 c4
        go_wp2_with fail
        go_ret2
        rw [HX.out, HR.out]
        exact ⟨_, rfl, hF4.from_ hz, b4⟩
      · obtain ⟨e1, e2⟩ := gv6 (a := (k : Int)) hk (by rw [nth_get hp]; exact fun h => h2 h.2.2)
        have HX := Lib.hid e1
        have HR := Lib.hid e2
        clear e1 e2
        have e3 : (p1 != 2) = true := by simp [h2]
        clear hp
        go_wp2_with fail
        go_ret2
        rw [HX.out, HR.out]
        exact GivesP.none rfl rfl hb1
    · obtain ⟨e1, e2⟩ := gv6 (a := a) hk (by rw [hlen]; exact fun h => hin ⟨h.1, h.2.1⟩)
      have HX := Lib.hid e1
      have HR := Lib.hid e2
      clear e1 e2
      have hcase : a < 0 ∨ (0 ≤ a ∧ (n : Int) ≤ a) := by omega
      clear hin
      rcases hcase with h | ⟨h, h'⟩
      all_goals
        go_wp2_with fail
        go_ret2
        rw [HX.out, HR.out]
        exact GivesP.none rfl rfl hb1

set_option maxRecDepth 100000 in
set_option maxHeartbeats 8000000 in
theorem turn_any (A : Option Addr) (n c : Nat) (l : List Pg) (a cl : Int) (w : World) (hr : RdG pgE w A n l) (hn : n ≤ 1000000) :
    Calls Try.prog 32 #[.slice A n c, .int .i64 a, .int .i64 cl] w (GivesP 65 w (turnR l a cl) (turnErr l a cl)) := by
  have hlen := hr.len
  go_enter Try.func32, Try.ntmps32
  go_wp2_with fail
  refine (check_any A n c l _ hr hn).mono ?_
  rintro e w1 ⟨rfl, hb1⟩
  have hr1 := hr.below hb1
  cases hk : okL l
  · have h4 := Lib.hid (show chkE l = 4 by unfold chkE; rw [hk]; rfl)
    obtain ⟨e1, e2⟩ := tn4 (a := a) (c := cl) hk
    have HX := Lib.hid e1
    have HR := Lib.hid e2
    clear e1 e2
    rw [h4.out]
    go_wp2_with fail
    go_ret2
    rw [HX.out, HR.out]
    exact GivesP.none rfl rfl hb1
  · have h4 := Lib.hid (show chkE l = 0 by unfold chkE; rw [hk]; rfl)
    rw [h4.out]
    by_cases hin : 0 ≤ a ∧ a < n
    · obtain ⟨k, rfl⟩ := Int.eq_ofNat_of_zero_le hin.1
      obtain ⟨b, off, p, rfl, hbk, hp, hcell⟩ := hr1.at_ (show k < n by omega)
      have c0 := hcell 0 _ rfl
      have c1 := hcell 1 _ rfl
      have c2 := hcell 2 _ rfl
      have c3 := hcell 3 _ rfl
      have c4 := hcell 4 _ rfl
      simp only [show pgE.sz = 5 from rfl, Nat.add_zero] at c0 c1 c2 c3 c4
      clear hcell
      obtain ⟨p1, p2, p3, p4, p5⟩ := p
      simp only at c0 c1 c2 c3 c4
      have q2 : (k : Int) < n := by omega
      have hfr := taken_kind hk hp
      simp only at hfr
      by_cases hc : cl = -1
      · subst hc
        by_cases h1 : p1 = 1
        · subst h1
          obtain ⟨e1, e2⟩ := tn0 hk hp rfl
          have HX := Lib.hid e1
          have HR := Lib.hid e2
          clear e1 e2
          clear hp hfr
          go_wp2_with fail
          refine (cloneP_any _ n c l _ hr1 (by omega)).mono ?_
          rintro e w3 ⟨v, rfl, hF3, hb3⟩
          go_wp2_with fail
          refine (plain_any 0 _).mono ?_
          rintro e w4 ⟨rfl, hb4⟩
          have hF4 := hF3.below hb4
          obtain ⟨A3, cz, rfl, _, _, hc31, hc32⟩ := hF4.rdn n hlen
          obtain ⟨g, cur, rfl, hg, hB, _, _, _⟩ := hF4.open_ hlen (by omega)
          have hset := hF4.setPg hlen rfl hB k (by omega) 0 0 0 0 0
          have cs := hF4.pgCell hlen rfl hB k (by omega)
          obtain ⟨u0, cc0⟩ := cs 0 (by omega)
          obtain ⟨u1, cc1⟩ := cs 1 (by omega)
          obtain ⟨u2, cc2⟩ := cs 2 (by omega)
          obtain ⟨u3, cc3⟩ := cs 3 (by omega)
          obtain ⟨u4, cc4⟩ := cs 4 (by omega)
          simp only [Nat.add_zero] at cc0
          have f0 := hB.frozen
          clear cs
          have b4 : Below w.heap.size w w4 := (by (have q_hb4 := Below.size hb4; (try simp at q_hb4); have q_hb3 := Below.size hb3; (try simp at q_hb3); have q_hb1 := Below.size hb1; (try simp at q_hb1); repeat (first | exact Below.refl _ _ | (refine Below.trans ?_ (Below.mono hb4 (by first | omega | (simp; omega) | simp))) | (refine Below.trans ?_ (Below.mono hb3 (by first | omega | (simp; omega) | simp))) | (refine Below.trans ?_ (Below.mono hb1 (by first | omega | (simp; omega) | simp))) | (refine Below.setCell ?_ (by first | omega | (simp; omega) | simp) _) | (refine Below.alloc ?_ (by first | omega | (simp; omega) | simp) _) | apply Below.drew | apply below_drewN)))
          have hz := hb1.size
          clear hF3 hF4 c0 c1 c2 c3 c4
          go_wp2_with fail
          go_ret2
          rw [HX.out, HR.out]
          exact ⟨_, rfl, hset.from_ hz, (by (have q_b4 := Below.size b4; (try simp at q_b4); repeat (first | exact Below.refl _ _ | (refine Below.trans ?_ (Below.mono b4 (by first | omega | (simp; omega) | simp))) | (refine Below.setCell ?_ (by first | omega | (simp; omega) | simp) _) | (refine Below.alloc ?_ (by first | omega | (simp; omega) | simp) _) | apply Below.drew | apply below_drewN)))⟩
        · obtain ⟨e1, e2⟩ := tn6 hk hp h1
          have HX := Lib.hid e1
          have HR := Lib.hid e2
          clear e1 e2
          have e3 : (p1 != 1) = true := by simp [h1]
          clear hp hfr
          go_wp2_with fail
          go_ret2
          rw [HX.out, HR.out]
          exact GivesP.none rfl rfl hb1
      · have hc' : (cl == -1) = false := by simp [hc]
        have hc'' : (cl != -1) = true := by simp [hc]
        by_cases hs : sizeI cl = 0
        · obtain ⟨e1, e2⟩ := tn1 hk hp hc hs
          have HX := Lib.hid e1
          have HR := Lib.hid e2
          clear e1 e2
          clear hp hfr
          have HS := Lib.hid hs
          clear hs
          go_wp2_with fail
          refine (size_any cl _).mono ?_
          rintro e w2 ⟨rfl, rfl⟩
          rw [HS.out]
          go_wp2_with fail
          go_ret2
          rw [HX.out, HR.out]
          exact GivesP.none rfl rfl hb1
        · have e3 : (sizeI cl == 0) = false := by simp [hs]
          by_cases h0 : p1 = 0
          · subst h0
            obtain ⟨e1, e2⟩ := tn0' hk hp hc hs rfl
            have HX := Lib.hid e1
            have HR := Lib.hid e2
            clear e1 e2
            have HF := Lib.hid hfr
            clear hp hs hfr
            go_wp2_with fail
            refine (size_any cl _).mono ?_
            rintro e w2 ⟨rfl, rfl⟩
            go_wp2_with fail
            refine (taken_any _ _ _ _ _ _).mono ?_
            rintro e w2 ⟨rfl, hb2⟩
            rw [HF.out]
            go_wp2_with fail
            refine (cloneP_any _ n c l _ (hr1.below hb2) (by omega)).mono ?_
            rintro e w3 ⟨v, rfl, hF3, hb3⟩
            go_wp2_with fail
            refine (plain_any 0 _).mono ?_
            rintro e w4 ⟨rfl, hb4⟩
            have hF4 := hF3.below hb4
            obtain ⟨A3, cz, rfl, _, _, hc31, hc32⟩ := hF4.rdn n hlen
            obtain ⟨g, cur, rfl, hg, hB, _, _, _⟩ := hF4.open_ hlen (by omega)
            have hset := hF4.setPg hlen rfl hB k (by omega) 0 0 0 0 0
            have cs := hF4.pgCell hlen rfl hB k (by omega)
            obtain ⟨u0, cc0⟩ := cs 0 (by omega)
            obtain ⟨u1, cc1⟩ := cs 1 (by omega)
            obtain ⟨u2, cc2⟩ := cs 2 (by omega)
            obtain ⟨u3, cc3⟩ := cs 3 (by omega)
            obtain ⟨u4, cc4⟩ := cs 4 (by omega)
            simp only [Nat.add_zero] at cc0
            have f0 := hB.frozen
            clear cs
            have b4 : Below w.heap.size w w4 := (by (have q_hb4 := Below.size hb4; (try simp at q_hb4); have q_hb3 := Below.size hb3; (try simp at q_hb3); have q_hb2 := Below.size hb2; (try simp at q_hb2); have q_hb1 := Below.size hb1; (try simp at q_hb1); repeat (first | exact Below.refl _ _ | (refine Below.trans ?_ (Below.mono hb4 (by first | omega | (simp; omega) | simp))) | (refine Below.trans ?_ (Below.mono hb3 (by first | omega | (simp; omega) | simp))) | (refine Below.trans ?_ (Below.mono hb2 (by first | omega | (simp; omega) | simp))) | (refine Below.trans ?_ (Below.mono hb1 (by first | omega | (simp; omega) | simp))) | (refine Below.setCell ?_ (by first | omega | (simp; omega) | simp) _) | (refine Below.alloc ?_ (by first | omega | (simp; omega) | simp) _) | apply Below.drew | apply below_drewN)))
            have hz := hb1.size
            have hz2 := hb2.size
            clear hF3 hF4 c0 c1 c2 c3 c4
            go_upto_region 13 with fail
            have b5 : Below w.heap.size w (((((w4.setCell ⟨g, k * 5, none⟩ (.int .i64 0)).setCell ⟨g, k * 5 + 1, none⟩ (.int .i64 0)).setCell ⟨g, k * 5 + 2, none⟩ (.int .i64 0)).setCell ⟨g, k * 5 + 3, none⟩ (.int .i64 0)).setCell ⟨g, k * 5 + 4, none⟩ (.int .u64 0)) := (by (have q_b4 := Below.size b4; (try simp at q_b4); repeat (first | exact Below.refl _ _ | (refine Below.trans ?_ (Below.mono b4 (by first | omega | (simp; omega) | simp))) | (refine Below.setCell ?_ (by first | omega | (simp; omega) | simp) _) | (refine Below.alloc ?_ (by first | omega | (simp; omega) | simp) _) | apply Below.drew | apply below_drewN)))
            obtain ⟨w5, hw5⟩ : ∃ w5, w5 = (((((w4.setCell ⟨g, k * 5, none⟩ (.int .i64 0)).setCell ⟨g, k * 5 + 1, none⟩ (.int .i64 0)).setCell ⟨g, k * 5 + 2, none⟩ (.int .i64 0)).setCell ⟨g, k * 5 + 3, none⟩ (.int .i64 0)).setCell ⟨g, k * 5 + 4, none⟩ (.int .u64 0)) := ⟨_, rfl⟩
            rw [← hw5] at b5 hset ⊢
            clear hw5 cc0 cc1 cc2 cc3 cc4 f0 hB b4
            obtain ⟨g', cur', hA', _, hB, _, _, _⟩ := hset.open_ (by simpa using hlen) (by omega)
            injection hA' with hA'
            injection hA' with hA'
            subst hA'
            have hF5 := hset
            clear hset
            have hset := hF5.setPg (by simpa using hlen) rfl hB k (by omega) 1 cl 0 0 0
            have cs := hF5.pgCell (by simpa using hlen) rfl hB k (by omega)
            obtain ⟨u0, cc0⟩ := cs 0 (by omega)
            obtain ⟨u1, cc1⟩ := cs 1 (by omega)
            obtain ⟨u2, cc2⟩ := cs 2 (by omega)
            obtain ⟨u3, cc3⟩ := cs 3 (by omega)
            obtain ⟨u4, cc4⟩ := cs 4 (by omega)
            simp only [Nat.add_zero] at cc0
            have f0 := hB.frozen
            clear cs
            rw [List.set_set] at hset
            clear hF5
            go_wp2_with fail
            go_ret2
            rw [HX.out, HR.out]
            exact ⟨_, rfl, hset.from_ (by omega), (by (have q_b5 := Below.size b5; (try simp at q_b5); repeat (first | exact Below.refl _ _ | (refine Below.trans ?_ (Below.mono b5 (by first | omega | (simp; omega) | simp))) | (refine Below.setCell ?_ (by first | omega | (simp; omega) | simp) _) | (refine Below.alloc ?_ (by first | omega | (simp; omega) | simp) _) | apply Below.drew | apply below_drewN)))⟩
          · obtain ⟨e1, e2⟩ := tn7 hk hp hc hs h0
            have HX := Lib.hid e1
            have HR := Lib.hid e2
            clear e1 e2
            rw [decide_eq_false h0] at hfr
            have HF := Lib.hid hfr
            clear hp hs hfr
            go_wp2_with fail
            refine (size_any cl _).mono ?_
            rintro e w2 ⟨rfl, rfl⟩
            go_wp2_with fail
            refine (taken_any _ _ _ _ _ _).mono ?_
            rintro e w2 ⟨rfl, hb2⟩
            rw [HF.out]
            go_wp2_with fail
            go_ret2
            rw [HX.out, HR.out]
            exact GivesP.none rfl rfl (by (have q_hb2 := Below.size hb2; (try simp at q_hb2); have q_hb1 := Below.size hb1; (try simp at q_hb1); repeat (first | exact Below.refl _ _ | (refine Below.trans ?_ (Below.mono hb2 (by first | omega | (simp; omega) | simp))) | (refine Below.trans ?_ (Below.mono hb1 (by first | omega | (simp; omega) | simp))) | (refine Below.setCell ?_ (by first | omega | (simp; omega) | simp) _) | (refine Below.alloc ?_ (by first | omega | (simp; omega) | simp) _) | apply Below.drew | apply below_drewN)))
    · obtain ⟨e1, e2⟩ := tn3 (a := a) (c := cl) hk (by rw [hlen]; exact hin)
      have HX := Lib.hid e1
      have HR := Lib.hid e2
      clear e1 e2
      have hcase : a < 0 ∨ (0 ≤ a ∧ (n : Int) ≤ a) := by omega
      clear hin
      rcases hcase with h | ⟨h, h'⟩
      all_goals
        go_wp2_with fail
        go_ret2
        rw [HX.out, HR.out]
        exact GivesP.none rfl rfl hb1
end Go.Proofs.Ytidlcplamgajpaa
