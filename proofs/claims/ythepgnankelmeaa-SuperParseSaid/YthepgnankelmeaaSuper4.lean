/- The walk of the statement SuperParse. -/
import Derived.Test.YthepgnankelmeaaSuper3
import Derived.Test.YthepgnankelmeaaFresh
import Derived.Deep.DeepCutAuto

namespace Go.Proofs.Ythepgnankelmeaa
open Go.RowKit

/-- What the loops have found, ahead of a pair of numbers. -/
def fndB (b : List UInt8) (p t : Int) : Bool := sOK b && decide ((sGeo b).1 < p ∨ ((sGeo b).1 = p ∧ (sGeo b).2 < t))
def fnd1 (b : List UInt8) (p t : Int) : Int := if fndB b p t = true then (sGeo b).1 else 0
def fnd2 (b : List UInt8) (p t : Int) : Int := if fndB b p t = true then (sGeo b).2 else 0
theorem sok_true {b : List UInt8} (h : sOK b = true) : gmay (sGeo b).1 (sGeo b).2 = true ∧ b = superL (sGeo b).1 (sGeo b).2 := by
  unfold sOK at h
  simpa using h
theorem fnd_start (b : List UInt8) : fndB b 1 4 = false ∧ fnd1 b 1 4 = 0 ∧ fnd2 b 1 4 = 0 := by
  have h : fndB b 1 4 = false := by
    unfold fndB
    cases hs : sOK b
    · rfl
    · obtain ⟨h1, h2, h3, h4⟩ := gmay_true (sok_true hs).1
      simp
      omega
  refine ⟨h, ?_, ?_⟩
  · unfold fnd1; rw [h]; rfl
  · unfold fnd2; rw [h]; rfl
theorem fnd_hit {b : List UInt8} {p t : Int} (hm : gmay p t = true) (h : b = superL p t) : fndB b p (t + 1) = true ∧ fnd1 b p (t + 1) = p ∧ fnd2 b p (t + 1) = t := by
  obtain ⟨h1, h2⟩ := sok_superL hm
  rw [← h] at h1 h2
  have h3 : fndB b p (t + 1) = true := by unfold fndB; rw [h1, h2]; simp; omega
  refine ⟨h3, ?_, ?_⟩
  · unfold fnd1; rw [if_pos h3, h2]
  · unfold fnd2; rw [if_pos h3, h2]
theorem fnd_miss {b : List UInt8} {p t : Int} (h : b ≠ superL p t) : fndB b p (t + 1) = fndB b p t ∧ fnd1 b p (t + 1) = fnd1 b p t ∧ fnd2 b p (t + 1) = fnd2 b p t := by
  have h3 : fndB b p (t + 1) = fndB b p t := by
    unfold fndB
    cases hs : sOK b
    · rfl
    · have h2 := (sok_true hs).2
      simp only [Bool.true_and]
      rw [Bool.eq_iff_iff]
      simp only [decide_eq_true_eq]
      constructor
      · rintro (h5 | ⟨h5, h6⟩)
        · exact .inl h5
        · rcases Int.lt_or_eq_of_le (show (sGeo b).2 ≤ t by omega) with h7 | h7
          · exact .inr ⟨h5, h7⟩
          · rw [h5, h7] at h2; exact absurd h2 h
      · rintro (h5 | ⟨h5, h6⟩)
        · exact .inl h5
        · exact .inr ⟨h5, by omega⟩
  exact ⟨h3, by unfold fnd1; rw [h3], by unfold fnd2; rw [h3]⟩
theorem fnd_row (b : List UInt8) (p : Int) : fndB b (p + 1) 4 = fndB b p 25 ∧ fnd1 b (p + 1) 4 = fnd1 b p 25 ∧ fnd2 b (p + 1) 4 = fnd2 b p 25 := by
  have h3 : fndB b (p + 1) 4 = fndB b p 25 := by
    unfold fndB
    cases hs : sOK b
    · rfl
    · obtain ⟨h1, h2, h3, h4⟩ := gmay_true (sok_true hs).1
      simp only [Bool.true_and]
      rw [Bool.eq_iff_iff]
      simp only [decide_eq_true_eq]
      omega
  exact ⟨h3, by unfold fnd1; rw [h3], by unfold fnd2; rw [h3]⟩
theorem fnd_end (b : List UInt8) : fndB b 65 4 = sOK b := by
  unfold fndB
  cases hs : sOK b
  · rfl
  · obtain ⟨h1, h2, h3, h4⟩ := gmay_true (sok_true hs).1
    simp
    omega

theorem superL_10 (p t : Int) : (superL p t)[10]? = some (byteI p 0) := by
  obtain ⟨r, hr⟩ := superL_parts p t
  rw [hr]
  rfl
theorem superL_12 (p t : Int) : (superL p t)[12]? = some (byteI t 0) := by
  obtain ⟨r, hr⟩ := superL_parts p t
  rw [hr]
  rfl
/-- A row of the call's own, of lo to hi bytes. -/
def SomeB (T : TypeId) (w : World) (lo hi : Nat) (s : Value) (wx : World) : Prop := ∃ l, Fresh T w.heap.size wx s l ∧ lo ≤ l.length ∧ l.length ≤ hi ∧ Below w.heap.size w wx
/-- A part of bytes that came in, of at most hi. -/
def SomeR (w : World) (hi : Nat) (s : Value) (wx : World) : Prop := ∃ A n c l, s = .slice A n c ∧ Rd w A n l ∧ n ≤ hi ∧ wx = w
theorem nought_row (n : Nat) : part (List.replicate n (0 : UInt8)) 0 = ((List.replicate n (0 : UInt8)).map bv).toArray := by simp [part, bv]

set_option maxRecDepth 100000 in
set_option maxHeartbeats 8000000 in
theorem law_sparse (p t at_ : Int) (v : UInt8) (ct : Int) (Am : Option Addr) (mm mc : Nat) (more : List UInt8) (w : World) (hr : Rd w Am mm more) (hmc : mm ≤ mc) (hmx : mc ≤ maxLen) (ha : at_ ≤ 9223372036854775807) (hc0 : -9223372036854775808 ≤ ct) (hc1 : ct ≤ 9223372036854775807) :
    Calls Try.prog 7 #[.agg #[.int .i64 p, .int .i64 t], .int .i64 at_, .int .u8 (v.toNat : Int), .int .i64 ct, .slice Am mm mc] w fun e w' => e = .returned (.bool true) ∧ Below w.heap.size w w' := by
  unfold maxLen at hmx
  have hmk : ∀ W : World, (Instr.makeSlice 39 (.int .i64 256) (.int .i64 256)).run Try.prog W = .ok (.slice (some ⟨W.heap.size, 0, none⟩) 256 256) (W.alloc (.cells (part (List.replicate 256 0) 0) 5)) :=
    make_bytes (P := Try.prog) Try.underlying39 info8 .i64 .i64 256 (by omega) (List.replicate 256 0) (by simp)
  go_enter Try.func7, Try.ntmps7
  go_upto_region 2 with fail
  clear hmk
  have Z0 : Fresh 5 w.heap.size ((w.alloc (.cells #[.int .i64 p, .int .i64 t] 23)).alloc (.cells (part (List.replicate 256 0) 0) 5)) (.slice (some ⟨w.heap.size + 1, 0, none⟩) 256 256) (List.replicate 256 0) :=
    Fresh.of_blk (by simpa using Blk.new (w.alloc (.cells #[.int .i64 p, .int .i64 t] 23)) 5 _) (by omega) (by unfold maxLen; omega) (by simp) (nought_row 256)
  have B0 : Blk ((w.alloc (.cells #[.int .i64 p, .int .i64 t] 23)).alloc (.cells (part (List.replicate 256 0) 0) 5)) w.heap.size 23 #[.int .i64 p, .int .i64 t] := (Blk.new w _ _).alloc _
  have c0 := B0.cell
  have b0 : Below w.heap.size w ((w.alloc (.cells #[.int .i64 p, .int .i64 t] 23)).alloc (.cells (part (List.replicate 256 0) 0) 5)) := (by (repeat (first | exact Below.refl _ _ | (refine Below.setCell ?_ (by first | omega | (simp; omega) | simp) _) | (refine Below.alloc ?_ (by first | omega | (simp; omega) | simp) _) | apply Below.drew | apply below_drewN)))
  go_wp2_with fail
  refine (grmay_any p t _).mono ?_
  rintro e w1 ⟨rfl, hb1⟩
  have B1 := B0.on hb1
  have Z1 := Z0.below hb1
  have b1 := b0.trans (hb1.mono b0.size)
  clear B0 Z0 b0 c0 hb1
  go_upto_if 21 with fail
  go_cut [11] (fun s wx => SomeB 5 w 256 256 s wx)
  case first =>
    have c1 := B1.cell
    cases hm : gmay p t
    · go_wp2_with fail
      go_meet
      exact ⟨_, Z1, by simp, by simp, b1⟩
    · go_wp2_with fail
      refine (srbytes_any p t _ hm).mono ?_
      rintro e w2 ⟨r, rfl, hF, hb2⟩
      go_wp2_with fail
      go_meet
      exact ⟨_, hF.from_ b1.size, by rw [superL_len]; omega, by rw [superL_len]; omega, b1.trans (hb2.mono b1.size)⟩
  case rest =>
    obtain ⟨l1, hF1, hl1, hl2, hbl1⟩ := hcut
    clear B1 Z1 b1
    obtain ⟨A1, c1, rfl, hR1, _, hc1, hc2⟩ := hF1.rdn 256 (by omega)
    have hl256 := Lib.hid (show l1.length = 256 by omega)
    clear hR1 hl1 hl2
    go_upto_region 4 with fail
    go_cut [29] (fun s wx => s = .bool (decide (0 ≤ at_ ∧ at_ < 256)) ∧ Fresh 5 w.heap.size wx (.slice A1 256 c1) l1 ∧ Below w.heap.size w wx)
    case first =>
      have hcase : at_ < 0 ∨ (0 ≤ at_ ∧ at_ < 256) ∨ (0 ≤ at_ ∧ 256 ≤ at_) := by omega
      rcases hcase with h | ⟨h, h'⟩ | ⟨h, h'⟩
      all_goals
        go_wp2_with fail
        go_meet
        exact ⟨by congr 1; symm; simp; omega, hF1, hbl1⟩
    case rest =>
      clear hF1 hbl1
      obtain ⟨rfl, hF1, hbl1⟩ := hcut
      go_upto_if 29 with fail
      go_cut [11] (fun s wx => SomeB 5 w 256 256 s wx)
      case first =>
        by_cases hc : 0 ≤ at_ ∧ at_ < 256
        · rw [decide_eq_true hc]
          obtain ⟨k, rfl⟩ := Int.eq_ofNat_of_zero_le hc.1
          have hk : k < 256 := by omega
          have hk' : (k : Int) < 256 := by omega
          obtain ⟨g, cur, rfl, hg, hB, hn1, hn2, _⟩ := hF1.open_ hl256.out (by omega)
          have hset := hF1.set_ hl256.out rfl hB k v hk
          have hcur : ∃ u, cur[k]? = some u := ⟨_, Array.getElem?_eq_getElem (by omega)⟩
          obtain ⟨u, hu⟩ := hcur
          have cc := (hB.cell k).trans hu
          have ff := hB.frozen k
          clear hu hn2 hc
          go_wp2_with fail
          go_meet
          exact ⟨_, hset, by rw [List.length_set, hl256.out]; omega, by rw [List.length_set, hl256.out]; omega, (by (have q_hbl1 := Below.size hbl1; (try simp at q_hbl1); repeat (first | exact Below.refl _ _ | (refine Below.trans ?_ (Below.mono hbl1 (by first | omega | (simp; omega) | simp))) | (refine Below.setCell ?_ (by first | omega | (simp; omega) | simp) _) | (refine Below.alloc ?_ (by first | omega | (simp; omega) | simp) _) | apply Below.drew | apply below_drewN)))⟩
        · rw [decide_eq_false hc]
          clear hc
          go_wp2_with fail
          go_meet
          exact ⟨_, hF1, by rw [hl256.out]; omega, by rw [hl256.out]; omega, hbl1⟩
      case rest =>
        clear hF1 hbl1
        clear hl256 hc1 hc2
        obtain ⟨l2, hF2, hl1, hl2, hbl2⟩ := hcut
        obtain ⟨A2, c2, rfl, _, _, hc1, hc2⟩ := hF2.rdn 256 (by omega)
        have hl256 := Lib.hid (show l2.length = 256 by omega)
        clear hl1 hl2
        unfold maxLen at hc2
        go_upto_region 6 with fail
        go_cut [39] (fun s wx => s = .bool (decide (0 < ct ∧ ct ≤ 256)) ∧ Fresh 5 w.heap.size wx (.slice A2 256 c2) l2 ∧ Below w.heap.size w wx)
        case first =>
          have hcase : ct ≤ 0 ∨ (0 < ct ∧ ct ≤ 256) ∨ (0 < ct ∧ 256 < ct) := by omega
          rcases hcase with h | ⟨h, h'⟩ | ⟨h, h'⟩
          all_goals
            go_wp2_with fail
            go_meet
            exact ⟨by congr 1; symm; simp; omega, hF2, hbl2⟩
        case rest =>
          clear hF2 hbl2
          obtain ⟨rfl, hF2, hbl2⟩ := hcut
          go_upto_if 39 with fail
          go_cut [11] (fun s wx => SomeB 5 w 0 256 s wx)
          case first =>
            by_cases hc : 0 < ct ∧ ct ≤ 256
            · rw [decide_eq_true hc]
              obtain ⟨k, hk⟩ := Int.eq_ofNat_of_zero_le (show 0 ≤ 256 - ct by omega)
              have hk0 : k ≤ 256 := by omega
              have hwr : IntKind.i64.wrap (256 - ct) = (k : Int) := by rw [hk]; exact IntWalk.i64_in _ (by omega)
              have hcut := hF2.cut_ hl256.out k hk0
              have hk1 : k ≤ c2 := by omega
              clear hk hc
              go_wp2_with fail
              go_meet
              exact ⟨_, hcut, by omega, by simp; omega, hbl2⟩
            · rw [decide_eq_false hc]
              clear hc
              go_wp2_with fail
              go_meet
              exact ⟨_, hF2, by rw [hl256.out]; omega, by rw [hl256.out]; omega, hbl2⟩
          case rest =>
            clear hF2 hbl2 hl256 hc1 hc2
            obtain ⟨l3, hF3, _, hl3, hbl3⟩ := hcut
            have hr3 := hr.on hbl3 (Nat.le_refl _)
            go_upto_if 46 with fail
            go_cut [4] (fun s wx => SomeR wc 20 s wx)
            case first =>
              by_cases hc : mm ≤ 20
              · go_wp2_with fail
                go_meet
                exact ⟨_, _, _, _, rfl, hr3, hc, rfl⟩
              · have hq := hr3.head 20 (by omega)
                have q1 : 20 ≤ mc := by omega
                go_wp2_with fail
                go_meet
                exact ⟨_, _, _, _, rfl, hq, by omega, rfl⟩
            case rest =>
              clear hr3 hr hmc hmx ha hc0 hc1
              obtain ⟨Aq, nq, cq, lq, rfl, hRq, hnq, rfl⟩ := hcut
              go_wp2_with (at_builtin; refine wpList_append_bytes _ rfl (.tmp 49) (.tmp 50) _ rfl w.heap.size 5 Try.underlying39 info8 _ l3 rfl hF3 _ _ _ lq rfl hRq (by omega) hbl3.size ?_; intro b' w4 hF4 hg4 hb4)
              have hb : Below w.heap.size w w4 := hbl3.trans hb4
              obtain ⟨b, hbq⟩ : ∃ b, b = l3 ++ lq := ⟨_, rfl⟩
              rw [← hbq] at hF4
              have hblen : b.length ≤ 276 := by rw [hbq, List.length_append, hRq.len]; omega
              clear hbq hF3 hbl3 hRq hg4 hb4
              obtain ⟨n, hn⟩ : ∃ n, n = b.length := ⟨_, rfl⟩
              obtain ⟨A, c, rfl, hR, _, hnc, hcm⟩ := hF4.rdn n hn.symm
              have HN := Lib.hid hn
              rw [← hn] at hblen
              clear hn hF4
              unfold maxLen at hcm
              go_wp2_with fail
              refine (sparse_any A n c b _ hR (by omega)).mono ?_
              rintro e w5 ⟨rfl, hb5⟩
              obtain ⟨X1, hX1⟩ : ∃ X1, X1 = fnd1 b 65 4 := ⟨_, rfl⟩
              obtain ⟨X2, hX2⟩ : ∃ X2, X2 = fnd2 b 65 4 := ⟨_, rfl⟩
              obtain ⟨E, hE⟩ : ∃ E : Int, E = if sOK b = true then 0 else 4 := ⟨_, rfl⟩
              have hres : (if sOK b = true then #[.agg #[.int .i64 (sGeo b).1, .int .i64 (sGeo b).2], .int .i64 0] else #[.agg #[.int .i64 0, .int .i64 0], .int .i64 4] : Array Value) = #[.agg #[.int .i64 X1, .int .i64 X2], .int .i64 E] := by
                rw [hX1, hX2, hE]
                unfold fnd1 fnd2
                rw [fnd_end]
                split <;> rfl
              rw [hres]
              clear hres
              have HX1 := Lib.hid hX1
              have HX2 := Lib.hid hX2
              have HE := Lib.hid hE
              clear hX1 hX2 hE
              have hR5 := hR.below hb5
              have hb' := hb.trans (hb5.mono hb.size)
              clear hR hb hb5
              obtain ⟨s1, s2, s3⟩ := fnd_start b
              have S1 := Lib.hid s1
              have S2 := Lib.hid s2
              have S3 := Lib.hid s3
              clear s1 s2 s3
              have hz5 := hb'.size
              go_wp2_with fail
              obtain ⟨gx, hgx⟩ : ∃ gx, gx = w5.heap.size := ⟨_, rfl⟩
              obtain ⟨w6, hw6⟩ : ∃ w6, w6 = (w5.alloc (.cells #[.int .i64 X1, .int .i64 X2] 23)).alloc (.cells #[.int .i64 0, .int .i64 0] 23) := ⟨_, rfl⟩
              have Bx : Blk w6 gx 23 #[.int .i64 X1, .int .i64 X2] := by rw [hw6, hgx]; exact (Blk.new _ _ _).alloc _
              have Bw : Blk w6 (gx + 1) 23 #[.int .i64 0, .int .i64 0] := by rw [hw6, hgx]; simpa using Blk.new (w5.alloc (.cells #[.int .i64 X1, .int .i64 X2] 23)) 23 _
              have hb65 : Below w5.heap.size w5 w6 := by rw [hw6]; exact (by (repeat (first | exact Below.refl _ _ | (refine Below.setCell ?_ (by first | omega | (simp; omega) | simp) _) | (refine Below.alloc ?_ (by first | omega | (simp; omega) | simp) _) | apply Below.drew | apply below_drewN)))
              have hR6 : RdN w6 [gx + 1] A n b := (RdN.old (gs := [gx + 1]) hR5 (by simp; omega)).below hb65
              have hb6 := hb'.trans (hb65.mono hb'.size)
              have hgw : w.heap.size ≤ gx := by omega
              rw [← hw6, ← hgx]
              clear hw6 hgx hb65 hb' hR5 hz5
              go_loopw [14, 16] (fun s i wr => ∃ P : Nat, 1 ≤ P ∧ P ≤ 65 ∧ i = .int .i64 P ∧ s = .bool (fndB b P 4) ∧ Blk wr gx 23 #[.int .i64 X1, .int .i64 X2] ∧ Blk wr (gx + 1) 23 #[.int .i64 (fnd1 b P 4), .int .i64 (fnd2 b P 4)] ∧ RdN wr [gx + 1] A n b ∧ Below w.heap.size w wr) (fun _ i _ => 65 - (intOf i).toNat)
              case atStart => exact ⟨1, by omega, by omega, rfl, by rw [show ((1 : Nat) : Int) = 1 from rfl, S1.out], Bx, by rw [show ((1 : Nat) : Int) = 1 from rfl, S2.out, S3.out]; exact Bw, hR6, hb6⟩
              case round =>
                clear Bx Bw hR6 hb6
                obtain ⟨P, hP1, hP2, rfl, rfl, hx, hw, hRr, hbr⟩ := hrel
                by_cases hP : P < 65
                · go_wp2_with fail
                  go_loopw [14, 17] (fun s i wi => ∃ Q : Nat, 4 ≤ Q ∧ Q ≤ 25 ∧ i = .int .i64 Q ∧ s = .bool (fndB b P Q) ∧ Blk wi gx 23 #[.int .i64 X1, .int .i64 X2] ∧ Blk wi (gx + 1) 23 #[.int .i64 (fnd1 b P Q), .int .i64 (fnd2 b P Q)] ∧ RdN wi [gx + 1] A n b ∧ Below w.heap.size w wi) (fun _ i _ => 25 - (intOf i).toNat)
                  case atStart => exact ⟨4, by omega, by omega, rfl, rfl, hx, hw, hRr, hbr⟩
                  case round =>
                    clear hx hw hRr hbr
                    obtain ⟨wi, hwi_⟩ : ∃ wi, wi = wr := ⟨_, rfl⟩
                    subst hwi_
                    obtain ⟨Q, hQ1, hQ2, rfl, rfl, hxi, hwi, hRi, hbi⟩ := hrel
                    by_cases hQ : Q < 25
                    · have hm : gmay P Q = true := by simp [gmay]; omega
                      have Bo := Blk.new wi 23 #[.int .i64 (P : Int), .int .i64 (Q : Int)]
                      have hRa := hRi.1.alloc (.cells #[.int .i64 (P : Int), .int .i64 (Q : Int)] 23)
                      go_wp2_with fail
                      by_cases hn : n = 256
                      · obtain rfl := hn
                        obtain ⟨ba, off, x10, rfl, hba, hx10, hc10⟩ := hRa.at_ (show 10 < 256 by omega)
                        obtain ⟨ba', off', x12, hA', _, hx12, hc12⟩ := hRa.at_ (show 12 < 256 by omega)
                        injection hA' with hA'
                        injection hA' with e1 e2
                        subst e1 e2
                        by_cases hit : b = superL P Q
                        · have HM := Lib.hid (fnd_hit hm hit)
                          have HQ := Lib.hid hit
                          have h10 : (x10.toNat : Int) = P := by
                            rw [hit, superL_10] at hx10; injection hx10 with hx10; rw [← hx10, byteI_val]; simp; omega
                          have h12 : (x12.toNat : Int) = Q := by
                            rw [hit, superL_12] at hx12; injection hx12 with hx12; rw [← hx12, byteI_val]; simp; omega
                          have hq10 : ((x10.toNat : Int) == (P : Int)) = true := by simp [h10]
                          have hq12 : ((x12.toNat : Int) == (Q : Int)) = true := by simp [h12]
                          clear h10 h12 hx10 hx12 hit
                          refine wp_flows [(fun y_ _ => y_ = .slice (some ⟨ba, off, none⟩) 256 c), (fun y_ _ => y_ = .int .i64 256), (fun y_ _ => y_ = .bool true), (fun y_ _ => y_ = .bool true), (fun y_ _ => y_ = .slice (some ⟨ba, off, none⟩) 256 c), (fun y_ _ => y_ = .pointer (some ⟨ba, off + 10, none⟩)), (fun y_ _ => y_ = .int .u8 (x10.toNat : Int)), (fun y_ _ => y_ = .int .i64 (P : Int)), (fun y_ _ => y_ = .int .u8 (P : Int)), (fun y_ _ => y_ = .bool true), (fun y_ _ => y_ = .bool true), (fun y_ _ => y_ = .bool true), (fun y_ _ => y_ = .slice (some ⟨ba, off, none⟩) 256 c), (fun y_ _ => y_ = .pointer (some ⟨ba, off + 12, none⟩)), (fun y_ _ => y_ = .int .u8 (x12.toNat : Int)), (fun y_ _ => y_ = .int .i64 (Q : Int)), (fun y_ _ => y_ = .int .u8 (Q : Int)), (fun y_ _ => y_ = .bool true), (fun y_ _ => y_ = .bool true), (fun y_ _ => y_ = .bool true), (fun y_ _ => y_ = .slice (some ⟨ba, off, none⟩) 256 c), (fun y_ _ => y_ = .string (str b)), (fun y_ _ => y_ = .agg #[.int .i64 (P : Int), .int .i64 (Q : Int)]), (IsB (256) (superL P Q)), (fun y_ _ => y_ = .string (str (superL P Q))), (fun y_ _ => y_ = .bool true), (fun y_ _ => y_ = .bool true)] (by kernel_rfl) ⟨Stab.eq _, Stab.eq _, Stab.eq _, Stab.eq _, Stab.eq _, Stab.eq _, Stab.eq _, Stab.eq _, Stab.eq _, Stab.eq _, Stab.eq _, Stab.eq _, Stab.eq _, Stab.eq _, Stab.eq _, Stab.eq _, Stab.eq _, Stab.eq _, Stab.eq _, Stab.eq _, Stab.eq _, Stab.eq _, Stab.eq _, Stab.b _ _, Stab.eq _, Stab.eq _, Stab.eq _, trivial⟩ (by kernel_rfl) (by rfl) ?_ ?_
                          · intro kq hkq
                            match kq, hkq with
                            | 0, _ =>
                              refine StepOk.plain _ 69 rfl rfl rfl [(11, none)] (by kernel_rfl) (fun af wf hbw hf Kf hKf => ?_)
                              obtain ⟨g11, _⟩ := hf
                              have h11 : af.tmps[11]?.getD undef = .slice (some ⟨ba, off, none⟩) 256 c := g11
                              clear g11
                              go_simp
                              exact hKf _ _ (Below.refl _ _) rfl
                            | 1, _ =>
                              refine StepOk.plain _ 70 rfl rfl rfl [(69, some 0)] (by kernel_rfl) (fun af wf hbw hf Kf hKf => ?_)
                              obtain ⟨g69, _⟩ := hf
                              have h69 : af.tmps[69]?.getD undef = .slice (some ⟨ba, off, none⟩) 256 c := g69
                              clear g69
                              go_simp
                              exact hKf _ _ (Below.refl _ _) rfl
                            | 2, _ =>
                              refine StepOk.plain _ 71 rfl rfl rfl [(70, some 1)] (by kernel_rfl) (fun af wf hbw hf Kf hKf => ?_)
                              obtain ⟨g70, _⟩ := hf
                              have h70 : af.tmps[70]?.getD undef = .int .i64 256 := g70
                              clear g70
                              go_simp
                              exact hKf _ _ (Below.refl _ _) rfl
                            | 3, _ =>
                              refine StepOk.plain _ 72 rfl rfl rfl [(71, some 2)] (by kernel_rfl) (fun af wf hbw hf Kf hKf => ?_)
                              obtain ⟨g71, _⟩ := hf
                              have h71 : af.tmps[71]?.getD undef = .bool true := g71
                              clear g71
                              go_simp
                              exact hKf _ _ (Below.refl _ _) rfl
                            | 4, _ =>
                              refine StepOk.yes _ 73 rfl rfl rfl rfl (fun _ _ h => h) [(11, none)] (by kernel_rfl) (fun af wf hbw hf Kf hKf => ?_)
                              obtain ⟨g11, _⟩ := hf
                              have h11 : af.tmps[11]?.getD undef = .slice (some ⟨ba, off, none⟩) 256 c := g11
                              clear g11
                              go_simp
                              exact hKf _ _ (Below.refl _ _) rfl
                            | 5, _ =>
                              refine StepOk.yes _ 74 rfl rfl rfl rfl (fun _ _ h => h) [(73, some 4)] (by kernel_rfl) (fun af wf hbw hf Kf hKf => ?_)
                              obtain ⟨g73, _⟩ := hf
                              have h73 : af.tmps[73]?.getD undef = .slice (some ⟨ba, off, none⟩) 256 c := g73
                              clear g73
                              have hq5 : (0 : Int) ≤ 10 := by omega
                              go_simp
                              exact hKf _ _ (Below.refl _ _) rfl
                            | 6, _ =>
                              refine StepOk.yes _ 75 rfl rfl rfl rfl (fun _ _ h => h) [(74, some 5)] (by kernel_rfl) (fun af wf hbw hf Kf hKf => ?_)
                              obtain ⟨g74, _⟩ := hf
                              have h74 : af.tmps[74]?.getD undef = .pointer (some ⟨ba, off + 10, none⟩) := g74
                              clear g74
                              have cB0 := (Blk.on (Blk.drew (Bo)) hbw).cell
                              have hcx := (Below.cell (p := ⟨ba, off + 10, none⟩) hbw hba).trans hc10
                              go_simp
                              exact hKf _ _ (Below.refl _ _) rfl
                            | 7, _ =>
                              refine StepOk.yes _ 76 rfl rfl rfl rfl (fun _ _ h => h) [(16, none)] (by kernel_rfl) (fun af wf hbw hf Kf hKf => ?_)
                              obtain ⟨g16, _⟩ := hf
                              have h16 : af.tmps[16]?.getD undef = .int .i64 (P : Int) := g16
                              clear g16
                              go_simp
                              exact hKf _ _ (Below.refl _ _) rfl
                            | 8, _ =>
                              refine StepOk.yes _ 77 rfl rfl rfl rfl (fun _ _ h => h) [(76, some 7)] (by kernel_rfl) (fun af wf hbw hf Kf hKf => ?_)
                              obtain ⟨g76, _⟩ := hf
                              have h76 : af.tmps[76]?.getD undef = .int .i64 (P : Int) := g76
                              clear g76
                              have hwu : IntKind.u8.wrap (P : Int) = (P : Int) := by simp [IntKind.wrap, IntKind.signed, IntKind.bits]; omega
                              go_simp
                              exact hKf _ _ (Below.refl _ _) rfl
                            | 9, _ =>
                              refine StepOk.yes _ 78 rfl rfl rfl rfl (fun _ _ h => h) [(75, some 6), (77, some 8)] (by kernel_rfl) (fun af wf hbw hf Kf hKf => ?_)
                              obtain ⟨g75, g77, _⟩ := hf
                              have h75 : af.tmps[75]?.getD undef = .int .u8 (x10.toNat : Int) := g75
                              have h77 : af.tmps[77]?.getD undef = .int .u8 (P : Int) := g77
                              clear g75 g77
                              go_simp
                              exact hKf _ _ (Below.refl _ _) rfl
                            | 10, _ =>
                              refine StepOk.plain _ 79 rfl rfl rfl [(72, some 3), (78, some 9)] (by kernel_rfl) (fun af wf hbw hf Kf hKf => ?_)
                              obtain ⟨g72, g78, _⟩ := hf
                              have h72 : af.tmps[72]?.getD undef = .bool true := g72
                              have h78 : af.tmps[78]?.getD undef = .bool true := g78
                              clear g72 g78
                              go_simp
                              exact hKf _ _ (Below.refl _ _) rfl
                            | 11, _ =>
                              refine StepOk.plain _ 80 rfl rfl rfl [(79, some 10)] (by kernel_rfl) (fun af wf hbw hf Kf hKf => ?_)
                              obtain ⟨g79, _⟩ := hf
                              have h79 : af.tmps[79]?.getD undef = .bool true := g79
                              clear g79
                              go_simp
                              exact hKf _ _ (Below.refl _ _) rfl
                            | 12, _ =>
                              refine StepOk.yes _ 81 rfl rfl rfl rfl (fun _ _ h => h) [(11, none)] (by kernel_rfl) (fun af wf hbw hf Kf hKf => ?_)
                              obtain ⟨g11, _⟩ := hf
                              have h11 : af.tmps[11]?.getD undef = .slice (some ⟨ba, off, none⟩) 256 c := g11
                              clear g11
                              go_simp
                              exact hKf _ _ (Below.refl _ _) rfl
                            | 13, _ =>
                              refine StepOk.yes _ 82 rfl rfl rfl rfl (fun _ _ h => h) [(81, some 12)] (by kernel_rfl) (fun af wf hbw hf Kf hKf => ?_)
                              obtain ⟨g81, _⟩ := hf
                              have h81 : af.tmps[81]?.getD undef = .slice (some ⟨ba, off, none⟩) 256 c := g81
                              clear g81
                              go_simp
                              exact hKf _ _ (Below.refl _ _) rfl
                            | 14, _ =>
                              refine StepOk.yes _ 83 rfl rfl rfl rfl (fun _ _ h => h) [(82, some 13)] (by kernel_rfl) (fun af wf hbw hf Kf hKf => ?_)
                              obtain ⟨g82, _⟩ := hf
                              have h82 : af.tmps[82]?.getD undef = .pointer (some ⟨ba, off + 12, none⟩) := g82
                              clear g82
                              have cB0 := (Blk.on (Blk.drew (Bo)) hbw).cell
                              have hcx := (Below.cell (p := ⟨ba, off + 12, none⟩) hbw hba).trans hc12
                              go_simp
                              exact hKf _ _ (Below.refl _ _) rfl
                            | 15, _ =>
                              refine StepOk.yes _ 84 rfl rfl rfl rfl (fun _ _ h => h) [(17, none)] (by kernel_rfl) (fun af wf hbw hf Kf hKf => ?_)
                              obtain ⟨g17, _⟩ := hf
                              have h17 : af.tmps[17]?.getD undef = .int .i64 (Q : Int) := g17
                              clear g17
                              go_simp
                              exact hKf _ _ (Below.refl _ _) rfl
                            | 16, _ =>
                              refine StepOk.yes _ 85 rfl rfl rfl rfl (fun _ _ h => h) [(84, some 15)] (by kernel_rfl) (fun af wf hbw hf Kf hKf => ?_)
                              obtain ⟨g84, _⟩ := hf
                              have h84 : af.tmps[84]?.getD undef = .int .i64 (Q : Int) := g84
                              clear g84
                              have hwu : IntKind.u8.wrap (Q : Int) = (Q : Int) := by simp [IntKind.wrap, IntKind.signed, IntKind.bits]; omega
                              go_simp
                              exact hKf _ _ (Below.refl _ _) rfl
                            | 17, _ =>
                              refine StepOk.yes _ 86 rfl rfl rfl rfl (fun _ _ h => h) [(83, some 14), (85, some 16)] (by kernel_rfl) (fun af wf hbw hf Kf hKf => ?_)
                              obtain ⟨g83, g85, _⟩ := hf
                              have h83 : af.tmps[83]?.getD undef = .int .u8 (x12.toNat : Int) := g83
                              have h85 : af.tmps[85]?.getD undef = .int .u8 (Q : Int) := g85
                              clear g83 g85
                              go_simp
                              exact hKf _ _ (Below.refl _ _) rfl
                            | 18, _ =>
                              refine StepOk.plain _ 87 rfl rfl rfl [(80, some 11), (86, some 17)] (by kernel_rfl) (fun af wf hbw hf Kf hKf => ?_)
                              obtain ⟨g80, g86, _⟩ := hf
                              have h80 : af.tmps[80]?.getD undef = .bool true := g80
                              have h86 : af.tmps[86]?.getD undef = .bool true := g86
                              clear g80 g86
                              go_simp
                              exact hKf _ _ (Below.refl _ _) rfl
                            | 19, _ =>
                              refine StepOk.plain _ 88 rfl rfl rfl [(87, some 18)] (by kernel_rfl) (fun af wf hbw hf Kf hKf => ?_)
                              obtain ⟨g87, _⟩ := hf
                              have h87 : af.tmps[87]?.getD undef = .bool true := g87
                              clear g87
                              go_simp
                              exact hKf _ _ (Below.refl _ _) rfl
                            | 20, _ =>
                              refine StepOk.yes _ 89 rfl rfl rfl rfl (fun _ _ h => h) [(11, none)] (by kernel_rfl) (fun af wf hbw hf Kf hKf => ?_)
                              obtain ⟨g11, _⟩ := hf
                              have h11 : af.tmps[11]?.getD undef = .slice (some ⟨ba, off, none⟩) 256 c := g11
                              clear g11
                              go_simp
                              exact hKf _ _ (Below.refl _ _) rfl
                            | 21, _ =>
                              refine StepOk.yes _ 90 rfl rfl rfl rfl (fun _ _ h => h) [(89, some 20)] (by kernel_rfl) (fun af wf hbw hf Kf hKf => ?_)
                              obtain ⟨g89, _⟩ := hf
                              have h89 : af.tmps[89]?.getD undef = .slice (some ⟨ba, off, none⟩) 256 c := g89
                              clear g89
                              have hcv := conv c _ (Rd.below (Rd.drew (hRa)) hbw)
                              go_simp
                              exact hKf _ _ (Below.refl _ _) rfl
                            | 22, _ =>
                              refine StepOk.yes _ 91 rfl rfl rfl rfl (fun _ _ h => h) [(18, none)] (by kernel_rfl) (fun af wf hbw hf Kf hKf => ?_)
                              obtain ⟨g18, _⟩ := hf
                              have h18 : af.tmps[18]?.getD undef = .pointer (some ⟨wi.heap.size, 0, none⟩) := g18
                              clear g18
                              have cB0 := (Blk.on (Blk.drew (Bo)) hbw).cell
                              go_simp
                              exact hKf _ _ (Below.refl _ _) rfl
                            | 23, _ =>
                              refine StepOk.yes _ 92 rfl rfl rfl rfl (fun _ _ h => h) [(91, some 22)] (by kernel_rfl) (fun af wf hbw hf Kf hKf => ?_)
                              obtain ⟨g91, _⟩ := hf
                              have h91 : af.tmps[91]?.getD undef = .agg #[.int .i64 (P : Int), .int .i64 (Q : Int)] := g91
                              clear g91
                              go_simp
                              refine (srbytes_any P Q _ hm).mono ?_
                              rintro e wN ⟨r, rfl, hF, hb⟩
                              exact hKf _ _ (hb) (IsB.of hF (superL_len P Q))
                            | 24, _ =>
                              refine StepOk.yes _ 93 rfl rfl rfl rfl (fun _ _ h => h) [(92, some 23)] (by kernel_rfl) (fun af wf hbw hf Kf hKf => ?_)
                              obtain ⟨g92, _⟩ := hf
                              obtain ⟨A92, c92, h92, hR92, hn92, hm92⟩ : IsB (256) (superL P Q) (af.tmps[92]?.getD undef) wf := g92
                              have hcv := conv c92 _ hR92
                              go_simp
                              exact hKf _ _ (Below.refl _ _) rfl
                            | 25, _ =>
                              refine StepOk.yes _ 94 rfl rfl rfl rfl (fun _ _ h => h) [(90, some 21), (93, some 24)] (by kernel_rfl) (fun af wf hbw hf Kf hKf => ?_)
                              obtain ⟨g90, g93, _⟩ := hf
                              have h90 : af.tmps[90]?.getD undef = .string (str b) := g90
                              have h93 : af.tmps[93]?.getD undef = .string (str (superL P Q)) := g93
                              clear g90 g93
                              have hqq : ((str b).toList == (str (superL P Q)).toList) = true := by rw [str_toL, str_toL]; rw [← HQ.out]; simp
                              go_simp
                              exact hKf _ _ (Below.refl _ _) rfl
                            | 26, _ =>
                              refine StepOk.plain _ 95 rfl rfl rfl [(88, some 19), (94, some 25)] (by kernel_rfl) (fun af wf hbw hf Kf hKf => ?_)
                              obtain ⟨g88, g94, _⟩ := hf
                              have h88 : af.tmps[88]?.getD undef = .bool true := g88
                              have h94 : af.tmps[94]?.getD undef = .bool true := g94
                              clear g88 g94
                              go_simp
                              exact hKf _ _ (Below.refl _ _) rfl
                            | i + 27, h => exact absurd h (by show ¬ (i + 27 < 27); omega)
                          · intro af wF hbF hdF hsF hbaseF hfactF
                            obtain ⟨T, dsF⟩ := af
                            obtain rfl : dsF = _ := hdF
                            have e0 := hbaseF 0 (not_dst (by kernel_rfl))
                            simp only [List.getElem?_toArray, List.getElem?_cons_zero, Option.getD_some] at e0
                            have e1 := hbaseF 1 (not_dst (by kernel_rfl))
                            simp only [List.getElem?_toArray, List.getElem?_cons_zero, List.getElem?_cons_succ, Option.getD_some] at e1
                            have e2 := hbaseF 2 (not_dst (by kernel_rfl))
                            simp only [List.getElem?_toArray, List.getElem?_cons_zero, List.getElem?_cons_succ, Option.getD_some] at e2
                            have e3 := hbaseF 3 (not_dst (by kernel_rfl))
                            simp only [List.getElem?_toArray, List.getElem?_cons_zero, List.getElem?_cons_succ, Option.getD_some] at e3
                            have e4 := hbaseF 4 (not_dst (by kernel_rfl))
                            simp only [List.getElem?_toArray, List.getElem?_cons_zero, List.getElem?_cons_succ, Option.getD_some] at e4
                            have e5 := hbaseF 5 (not_dst (by kernel_rfl))
                            simp only [List.getElem?_toArray, List.getElem?_cons_zero, List.getElem?_cons_succ, Option.getD_some] at e5
                            have e6 := hbaseF 6 (not_dst (by kernel_rfl))
                            simp only [List.getElem?_toArray, List.getElem?_cons_zero, List.getElem?_cons_succ, Option.getD_some] at e6
                            have e7 := hbaseF 7 (not_dst (by kernel_rfl))
                            simp only [List.getElem?_toArray, List.getElem?_cons_zero, List.getElem?_cons_succ, Option.getD_some] at e7
                            have e8 := hbaseF 8 (not_dst (by kernel_rfl))
                            simp only [List.getElem?_toArray, List.getElem?_cons_zero, List.getElem?_cons_succ, Option.getD_some] at e8
                            have e9 := hbaseF 9 (not_dst (by kernel_rfl))
                            simp only [List.getElem?_toArray, List.getElem?_cons_zero, List.getElem?_cons_succ, Option.getD_some] at e9
                            have e10 := hbaseF 10 (not_dst (by kernel_rfl))
                            simp only [List.getElem?_toArray, List.getElem?_cons_zero, List.getElem?_cons_succ, Option.getD_some] at e10
                            have e11 := hbaseF 11 (not_dst (by kernel_rfl))
                            simp only [List.getElem?_toArray, List.getElem?_cons_zero, List.getElem?_cons_succ, Option.getD_some] at e11
                            have e12 := hbaseF 12 (not_dst (by kernel_rfl))
                            simp only [List.getElem?_toArray, List.getElem?_cons_zero, List.getElem?_cons_succ, Option.getD_some] at e12
                            have e13 := hbaseF 13 (not_dst (by kernel_rfl))
                            simp only [List.getElem?_toArray, List.getElem?_cons_zero, List.getElem?_cons_succ, Option.getD_some] at e13
                            have e14 := hbaseF 14 (not_dst (by kernel_rfl))
                            simp only [List.getElem?_toArray, List.getElem?_cons_zero, List.getElem?_cons_succ, Option.getD_some] at e14
                            have e15 := hbaseF 15 (not_dst (by kernel_rfl))
                            simp only [List.getElem?_toArray, List.getElem?_cons_zero, List.getElem?_cons_succ, Option.getD_some] at e15
                            have e16 := hbaseF 16 (not_dst (by kernel_rfl))
                            simp only [List.getElem?_toArray, List.getElem?_cons_zero, List.getElem?_cons_succ, Option.getD_some] at e16
                            have e17 := hbaseF 17 (not_dst (by kernel_rfl))
                            simp only [List.getElem?_toArray, List.getElem?_cons_zero, List.getElem?_cons_succ, Option.getD_some] at e17
                            have e18 := hbaseF 18 (not_dst (by kernel_rfl))
                            simp only [List.getElem?_toArray, List.getElem?_cons_zero, List.getElem?_cons_succ, Option.getD_some] at e18
                            have e19 := hbaseF 19 (not_dst (by kernel_rfl))
                            simp only [List.getElem?_toArray, List.getElem?_cons_zero, List.getElem?_cons_succ, Option.getD_some] at e19
                            have e20 := hbaseF 20 (not_dst (by kernel_rfl))
                            simp only [List.getElem?_toArray, List.getElem?_cons_zero, List.getElem?_cons_succ, Option.getD_some] at e20
                            have e21 := hbaseF 21 (not_dst (by kernel_rfl))
                            simp only [List.getElem?_toArray, List.getElem?_cons_zero, List.getElem?_cons_succ, Option.getD_some] at e21
                            have e22 := hbaseF 22 (not_dst (by kernel_rfl))
                            simp only [List.getElem?_toArray, List.getElem?_cons_zero, List.getElem?_cons_succ, Option.getD_some] at e22
                            have e23 := hbaseF 23 (not_dst (by kernel_rfl))
                            simp only [List.getElem?_toArray, List.getElem?_cons_zero, List.getElem?_cons_succ, Option.getD_some] at e23
                            have e24 := hbaseF 24 (not_dst (by kernel_rfl))
                            simp only [List.getElem?_toArray, List.getElem?_cons_zero, List.getElem?_cons_succ, Option.getD_some] at e24
                            have e25 := hbaseF 25 (not_dst (by kernel_rfl))
                            simp only [List.getElem?_toArray, List.getElem?_cons_zero, List.getElem?_cons_succ, Option.getD_some] at e25
                            have e26 := hbaseF 26 (not_dst (by kernel_rfl))
                            simp only [List.getElem?_toArray, List.getElem?_cons_zero, List.getElem?_cons_succ, Option.getD_some] at e26
                            have e27 := hbaseF 27 (not_dst (by kernel_rfl))
                            simp only [List.getElem?_toArray, List.getElem?_cons_zero, List.getElem?_cons_succ, Option.getD_some] at e27
                            have e28 := hbaseF 28 (not_dst (by kernel_rfl))
                            simp only [List.getElem?_toArray, List.getElem?_cons_zero, List.getElem?_cons_succ, Option.getD_some] at e28
                            have e29 := hbaseF 29 (not_dst (by kernel_rfl))
                            simp only [List.getElem?_toArray, List.getElem?_cons_zero, List.getElem?_cons_succ, Option.getD_some] at e29
                            have e30 := hbaseF 30 (not_dst (by kernel_rfl))
                            simp only [List.getElem?_toArray, List.getElem?_cons_zero, List.getElem?_cons_succ, Option.getD_some] at e30
                            have e31 := hbaseF 31 (not_dst (by kernel_rfl))
                            simp only [List.getElem?_toArray, List.getElem?_cons_zero, List.getElem?_cons_succ, Option.getD_some] at e31
                            have e32 := hbaseF 32 (not_dst (by kernel_rfl))
                            simp only [List.getElem?_toArray, List.getElem?_cons_zero, List.getElem?_cons_succ, Option.getD_some] at e32
                            have e33 := hbaseF 33 (not_dst (by kernel_rfl))
                            simp only [List.getElem?_toArray, List.getElem?_cons_zero, List.getElem?_cons_succ, Option.getD_some] at e33
                            have e34 := hbaseF 34 (not_dst (by kernel_rfl))
                            simp only [List.getElem?_toArray, List.getElem?_cons_zero, List.getElem?_cons_succ, Option.getD_some] at e34
                            have e35 := hbaseF 35 (not_dst (by kernel_rfl))
                            simp only [List.getElem?_toArray, List.getElem?_cons_zero, List.getElem?_cons_succ, Option.getD_some] at e35
                            have e36 := hbaseF 36 (not_dst (by kernel_rfl))
                            simp only [List.getElem?_toArray, List.getElem?_cons_zero, List.getElem?_cons_succ, Option.getD_some] at e36
                            have e37 := hbaseF 37 (not_dst (by kernel_rfl))
                            simp only [List.getElem?_toArray, List.getElem?_cons_zero, List.getElem?_cons_succ, Option.getD_some] at e37
                            have e38 := hbaseF 38 (not_dst (by kernel_rfl))
                            simp only [List.getElem?_toArray, List.getElem?_cons_zero, List.getElem?_cons_succ, Option.getD_some] at e38
                            have e39 := hbaseF 39 (not_dst (by kernel_rfl))
                            simp only [List.getElem?_toArray, List.getElem?_cons_zero, List.getElem?_cons_succ, Option.getD_some] at e39
                            have e40 := hbaseF 40 (not_dst (by kernel_rfl))
                            simp only [List.getElem?_toArray, List.getElem?_cons_zero, List.getElem?_cons_succ, Option.getD_some] at e40
                            have e41 := hbaseF 41 (not_dst (by kernel_rfl))
                            simp only [List.getElem?_toArray, List.getElem?_cons_zero, List.getElem?_cons_succ, Option.getD_some] at e41
                            have e42 := hbaseF 42 (not_dst (by kernel_rfl))
                            simp only [List.getElem?_toArray, List.getElem?_cons_zero, List.getElem?_cons_succ, Option.getD_some] at e42
                            have e43 := hbaseF 43 (not_dst (by kernel_rfl))
                            simp only [List.getElem?_toArray, List.getElem?_cons_zero, List.getElem?_cons_succ, Option.getD_some] at e43
                            have e44 := hbaseF 44 (not_dst (by kernel_rfl))
                            simp only [List.getElem?_toArray, List.getElem?_cons_zero, List.getElem?_cons_succ, Option.getD_some] at e44
                            have e45 := hbaseF 45 (not_dst (by kernel_rfl))
                            simp only [List.getElem?_toArray, List.getElem?_cons_zero, List.getElem?_cons_succ, Option.getD_some] at e45
                            have e46 := hbaseF 46 (not_dst (by kernel_rfl))
                            simp only [List.getElem?_toArray, List.getElem?_cons_zero, List.getElem?_cons_succ, Option.getD_some] at e46
                            have e47 := hbaseF 47 (not_dst (by kernel_rfl))
                            simp only [List.getElem?_toArray, List.getElem?_cons_zero, List.getElem?_cons_succ, Option.getD_some] at e47
                            have e48 := hbaseF 48 (not_dst (by kernel_rfl))
                            simp only [List.getElem?_toArray, List.getElem?_cons_zero, List.getElem?_cons_succ, Option.getD_some] at e48
                            have e49 := hbaseF 49 (not_dst (by kernel_rfl))
                            simp only [List.getElem?_toArray, List.getElem?_cons_zero, List.getElem?_cons_succ, Option.getD_some] at e49
                            have e50 := hbaseF 50 (not_dst (by kernel_rfl))
                            simp only [List.getElem?_toArray, List.getElem?_cons_zero, List.getElem?_cons_succ, Option.getD_some] at e50
                            have e51 := hbaseF 51 (not_dst (by kernel_rfl))
                            simp only [List.getElem?_toArray, List.getElem?_cons_zero, List.getElem?_cons_succ, Option.getD_some] at e51
                            have e52 := hbaseF 52 (not_dst (by kernel_rfl))
                            simp only [List.getElem?_toArray, List.getElem?_cons_zero, List.getElem?_cons_succ, Option.getD_some] at e52
                            have e53 := hbaseF 53 (not_dst (by kernel_rfl))
                            simp only [List.getElem?_toArray, List.getElem?_cons_zero, List.getElem?_cons_succ, Option.getD_some] at e53
                            have e54 := hbaseF 54 (not_dst (by kernel_rfl))
                            simp only [List.getElem?_toArray, List.getElem?_cons_zero, List.getElem?_cons_succ, Option.getD_some] at e54
                            have e55 := hbaseF 55 (not_dst (by kernel_rfl))
                            simp only [List.getElem?_toArray, List.getElem?_cons_zero, List.getElem?_cons_succ, Option.getD_some] at e55
                            have e56 := hbaseF 56 (not_dst (by kernel_rfl))
                            simp only [List.getElem?_toArray, List.getElem?_cons_zero, List.getElem?_cons_succ, Option.getD_some] at e56
                            have e57 := hbaseF 57 (not_dst (by kernel_rfl))
                            simp only [List.getElem?_toArray, List.getElem?_cons_zero, List.getElem?_cons_succ, Option.getD_some] at e57
                            have e58 := hbaseF 58 (not_dst (by kernel_rfl))
                            simp only [List.getElem?_toArray, List.getElem?_cons_zero, List.getElem?_cons_succ, Option.getD_some] at e58
                            have e59 := hbaseF 59 (not_dst (by kernel_rfl))
                            simp only [List.getElem?_toArray, List.getElem?_cons_zero, List.getElem?_cons_succ, Option.getD_some] at e59
                            have e60 := hbaseF 60 (not_dst (by kernel_rfl))
                            simp only [List.getElem?_toArray, List.getElem?_cons_zero, List.getElem?_cons_succ, Option.getD_some] at e60
                            have e61 := hbaseF 61 (not_dst (by kernel_rfl))
                            simp only [List.getElem?_toArray, List.getElem?_cons_zero, List.getElem?_cons_succ, Option.getD_some] at e61
                            have e62 := hbaseF 62 (not_dst (by kernel_rfl))
                            simp only [List.getElem?_toArray, List.getElem?_cons_zero, List.getElem?_cons_succ, Option.getD_some] at e62
                            have e63 := hbaseF 63 (not_dst (by kernel_rfl))
                            simp only [List.getElem?_toArray, List.getElem?_cons_zero, List.getElem?_cons_succ, Option.getD_some] at e63
                            have e64 := hbaseF 64 (not_dst (by kernel_rfl))
                            simp only [List.getElem?_toArray, List.getElem?_cons_zero, List.getElem?_cons_succ, Option.getD_some] at e64
                            have e65 := hbaseF 65 (not_dst (by kernel_rfl))
                            simp only [List.getElem?_toArray, List.getElem?_cons_zero, List.getElem?_cons_succ, Option.getD_some] at e65
                            have e66 := hbaseF 66 (not_dst (by kernel_rfl))
                            simp only [List.getElem?_toArray, List.getElem?_cons_zero, List.getElem?_cons_succ, Option.getD_some] at e66
                            have e67 := hbaseF 67 (not_dst (by kernel_rfl))
                            simp only [List.getElem?_toArray, List.getElem?_cons_zero, List.getElem?_cons_succ, Option.getD_some] at e67
                            have e68 := hbaseF 68 (not_dst (by kernel_rfl))
                            simp only [List.getElem?_toArray, List.getElem?_cons_zero, List.getElem?_cons_succ, Option.getD_some] at e68
                            have e96 := hbaseF 96 (not_dst (by kernel_rfl))
                            simp only [List.getElem?_toArray, List.getElem?_cons_zero, List.getElem?_cons_succ, Option.getD_some] at e96
                            have e97 := hbaseF 97 (not_dst (by kernel_rfl))
                            simp only [List.getElem?_toArray, List.getElem?_cons_zero, List.getElem?_cons_succ, Option.getD_some] at e97
                            have e98 := hbaseF 98 (not_dst (by kernel_rfl))
                            simp only [List.getElem?_toArray, List.getElem?_cons_zero, List.getElem?_cons_succ, Option.getD_some] at e98
                            have e99 := hbaseF 99 (not_dst (by kernel_rfl))
                            simp only [List.getElem?_toArray, List.getElem?_cons_zero, List.getElem?_cons_succ, Option.getD_some] at e99
                            have e100 := hbaseF 100 (not_dst (by kernel_rfl))
                            simp only [List.getElem?_toArray, List.getElem?_cons_zero, List.getElem?_cons_succ, Option.getD_some] at e100
                            have e101 := hbaseF 101 (not_dst (by kernel_rfl))
                            simp only [List.getElem?_toArray, List.getElem?_cons_zero, List.getElem?_cons_succ, Option.getD_some] at e101
                            have e102 := hbaseF 102 (not_dst (by kernel_rfl))
                            simp only [List.getElem?_toArray, List.getElem?_cons_zero, List.getElem?_cons_succ, Option.getD_some] at e102
                            have e103 := hbaseF 103 (not_dst (by kernel_rfl))
                            simp only [List.getElem?_toArray, List.getElem?_cons_zero, List.getElem?_cons_succ, Option.getD_some] at e103
                            have e104 := hbaseF 104 (not_dst (by kernel_rfl))
                            simp only [List.getElem?_toArray, List.getElem?_cons_zero, List.getElem?_cons_succ, Option.getD_some] at e104
                            have e105 := hbaseF 105 (not_dst (by kernel_rfl))
                            simp only [List.getElem?_toArray, List.getElem?_cons_zero, List.getElem?_cons_succ, Option.getD_some] at e105
                            have e106 := hbaseF 106 (not_dst (by kernel_rfl))
                            simp only [List.getElem?_toArray, List.getElem?_cons_zero, List.getElem?_cons_succ, Option.getD_some] at e106
                            have e107 := hbaseF 107 (not_dst (by kernel_rfl))
                            simp only [List.getElem?_toArray, List.getElem?_cons_zero, List.getElem?_cons_succ, Option.getD_some] at e107
                            have e108 := hbaseF 108 (not_dst (by kernel_rfl))
                            simp only [List.getElem?_toArray, List.getElem?_cons_zero, List.getElem?_cons_succ, Option.getD_some] at e108
                            have e109 := hbaseF 109 (not_dst (by kernel_rfl))
                            simp only [List.getElem?_toArray, List.getElem?_cons_zero, List.getElem?_cons_succ, Option.getD_some] at e109
                            have e110 := hbaseF 110 (not_dst (by kernel_rfl))
                            simp only [List.getElem?_toArray, List.getElem?_cons_zero, List.getElem?_cons_succ, Option.getD_some] at e110
                            have e111 := hbaseF 111 (not_dst (by kernel_rfl))
                            simp only [List.getElem?_toArray, List.getElem?_cons_zero, List.getElem?_cons_succ, Option.getD_some] at e111
                            have e112 := hbaseF 112 (not_dst (by kernel_rfl))
                            simp only [List.getElem?_toArray, List.getElem?_cons_zero, List.getElem?_cons_succ, Option.getD_some] at e112
                            have e113 := hbaseF 113 (not_dst (by kernel_rfl))
                            simp only [List.getElem?_toArray, List.getElem?_cons_zero, List.getElem?_cons_succ, Option.getD_some] at e113
                            have e114 := hbaseF 114 (not_dst (by kernel_rfl))
                            simp only [List.getElem?_toArray, List.getElem?_cons_zero, List.getElem?_cons_succ, Option.getD_some] at e114
                            have e115 := hbaseF 115 (not_dst (by kernel_rfl))
                            simp only [List.getElem?_toArray, List.getElem?_cons_zero, List.getElem?_cons_succ, Option.getD_some] at e115
                            have e95 := hfactF 26 95 (by decide) rfl
                            replace e95 : T[95]?.getD undef = .bool true := e95
                            clear hbaseF hfactF
                            have hT : T = #[T[0]?.getD undef, T[1]?.getD undef, T[2]?.getD undef, T[3]?.getD undef, T[4]?.getD undef, T[5]?.getD undef, T[6]?.getD undef, T[7]?.getD undef, T[8]?.getD undef, T[9]?.getD undef, T[10]?.getD undef, T[11]?.getD undef, T[12]?.getD undef, T[13]?.getD undef, T[14]?.getD undef, T[15]?.getD undef, T[16]?.getD undef, T[17]?.getD undef, T[18]?.getD undef, T[19]?.getD undef, T[20]?.getD undef, T[21]?.getD undef, T[22]?.getD undef, T[23]?.getD undef, T[24]?.getD undef, T[25]?.getD undef, T[26]?.getD undef, T[27]?.getD undef, T[28]?.getD undef, T[29]?.getD undef, T[30]?.getD undef, T[31]?.getD undef, T[32]?.getD undef, T[33]?.getD undef, T[34]?.getD undef, T[35]?.getD undef, T[36]?.getD undef, T[37]?.getD undef, T[38]?.getD undef, T[39]?.getD undef, T[40]?.getD undef, T[41]?.getD undef, T[42]?.getD undef, T[43]?.getD undef, T[44]?.getD undef, T[45]?.getD undef, T[46]?.getD undef, T[47]?.getD undef, T[48]?.getD undef, T[49]?.getD undef, T[50]?.getD undef, T[51]?.getD undef, T[52]?.getD undef, T[53]?.getD undef, T[54]?.getD undef, T[55]?.getD undef, T[56]?.getD undef, T[57]?.getD undef, T[58]?.getD undef, T[59]?.getD undef, T[60]?.getD undef, T[61]?.getD undef, T[62]?.getD undef, T[63]?.getD undef, T[64]?.getD undef, T[65]?.getD undef, T[66]?.getD undef, T[67]?.getD undef, T[68]?.getD undef, T[69]?.getD undef, T[70]?.getD undef, T[71]?.getD undef, T[72]?.getD undef, T[73]?.getD undef, T[74]?.getD undef, T[75]?.getD undef, T[76]?.getD undef, T[77]?.getD undef, T[78]?.getD undef, T[79]?.getD undef, T[80]?.getD undef, T[81]?.getD undef, T[82]?.getD undef, T[83]?.getD undef, T[84]?.getD undef, T[85]?.getD undef, T[86]?.getD undef, T[87]?.getD undef, T[88]?.getD undef, T[89]?.getD undef, T[90]?.getD undef, T[91]?.getD undef, T[92]?.getD undef, T[93]?.getD undef, T[94]?.getD undef, T[95]?.getD undef, T[96]?.getD undef, T[97]?.getD undef, T[98]?.getD undef, T[99]?.getD undef, T[100]?.getD undef, T[101]?.getD undef, T[102]?.getD undef, T[103]?.getD undef, T[104]?.getD undef, T[105]?.getD undef, T[106]?.getD undef, T[107]?.getD undef, T[108]?.getD undef, T[109]?.getD undef, T[110]?.getD undef, T[111]?.getD undef, T[112]?.getD undef, T[113]?.getD undef, T[114]?.getD undef, T[115]?.getD undef] := arr_eq T 116 hsF
                            clear hsF
                            rw [e0] at hT; clear e0
                            rw [e1] at hT; clear e1
                            rw [e2] at hT; clear e2
                            rw [e3] at hT; clear e3
                            rw [e4] at hT; clear e4
                            rw [e5] at hT; clear e5
                            rw [e6] at hT; clear e6
                            rw [e7] at hT; clear e7
                            rw [e8] at hT; clear e8
                            rw [e9] at hT; clear e9
                            rw [e10] at hT; clear e10
                            rw [e11] at hT; clear e11
                            rw [e12] at hT; clear e12
                            rw [e13] at hT; clear e13
                            rw [e14] at hT; clear e14
                            rw [e15] at hT; clear e15
                            rw [e16] at hT; clear e16
                            rw [e17] at hT; clear e17
                            rw [e18] at hT; clear e18
                            rw [e19] at hT; clear e19
                            rw [e20] at hT; clear e20
                            rw [e21] at hT; clear e21
                            rw [e22] at hT; clear e22
                            rw [e23] at hT; clear e23
                            rw [e24] at hT; clear e24
                            rw [e25] at hT; clear e25
                            rw [e26] at hT; clear e26
                            rw [e27] at hT; clear e27
                            rw [e28] at hT; clear e28
                            rw [e29] at hT; clear e29
                            rw [e30] at hT; clear e30
                            rw [e31] at hT; clear e31
                            rw [e32] at hT; clear e32
                            rw [e33] at hT; clear e33
                            rw [e34] at hT; clear e34
                            rw [e35] at hT; clear e35
                            rw [e36] at hT; clear e36
                            rw [e37] at hT; clear e37
                            rw [e38] at hT; clear e38
                            rw [e39] at hT; clear e39
                            rw [e40] at hT; clear e40
                            rw [e41] at hT; clear e41
                            rw [e42] at hT; clear e42
                            rw [e43] at hT; clear e43
                            rw [e44] at hT; clear e44
                            rw [e45] at hT; clear e45
                            rw [e46] at hT; clear e46
                            rw [e47] at hT; clear e47
                            rw [e48] at hT; clear e48
                            rw [e49] at hT; clear e49
                            rw [e50] at hT; clear e50
                            rw [e51] at hT; clear e51
                            rw [e52] at hT; clear e52
                            rw [e53] at hT; clear e53
                            rw [e54] at hT; clear e54
                            rw [e55] at hT; clear e55
                            rw [e56] at hT; clear e56
                            rw [e57] at hT; clear e57
                            rw [e58] at hT; clear e58
                            rw [e59] at hT; clear e59
                            rw [e60] at hT; clear e60
                            rw [e61] at hT; clear e61
                            rw [e62] at hT; clear e62
                            rw [e63] at hT; clear e63
                            rw [e64] at hT; clear e64
                            rw [e65] at hT; clear e65
                            rw [e66] at hT; clear e66
                            rw [e67] at hT; clear e67
                            rw [e68] at hT; clear e68
                            generalize T[69]?.getD undef = u69 at hT
                            generalize T[70]?.getD undef = u70 at hT
                            generalize T[71]?.getD undef = u71 at hT
                            generalize T[72]?.getD undef = u72 at hT
                            generalize T[73]?.getD undef = u73 at hT
                            generalize T[74]?.getD undef = u74 at hT
                            generalize T[75]?.getD undef = u75 at hT
                            generalize T[76]?.getD undef = u76 at hT
                            generalize T[77]?.getD undef = u77 at hT
                            generalize T[78]?.getD undef = u78 at hT
                            generalize T[79]?.getD undef = u79 at hT
                            generalize T[80]?.getD undef = u80 at hT
                            generalize T[81]?.getD undef = u81 at hT
                            generalize T[82]?.getD undef = u82 at hT
                            generalize T[83]?.getD undef = u83 at hT
                            generalize T[84]?.getD undef = u84 at hT
                            generalize T[85]?.getD undef = u85 at hT
                            generalize T[86]?.getD undef = u86 at hT
                            generalize T[87]?.getD undef = u87 at hT
                            generalize T[88]?.getD undef = u88 at hT
                            generalize T[89]?.getD undef = u89 at hT
                            generalize T[90]?.getD undef = u90 at hT
                            generalize T[91]?.getD undef = u91 at hT
                            generalize T[92]?.getD undef = u92 at hT
                            generalize T[93]?.getD undef = u93 at hT
                            generalize T[94]?.getD undef = u94 at hT
                            rw [e95] at hT; clear e95
                            rw [e96] at hT; clear e96
                            rw [e97] at hT; clear e97
                            rw [e98] at hT; clear e98
                            rw [e99] at hT; clear e99
                            rw [e100] at hT; clear e100
                            rw [e101] at hT; clear e101
                            rw [e102] at hT; clear e102
                            rw [e103] at hT; clear e103
                            rw [e104] at hT; clear e104
                            rw [e105] at hT; clear e105
                            rw [e106] at hT; clear e106
                            rw [e107] at hT; clear e107
                            rw [e108] at hT; clear e108
                            rw [e109] at hT; clear e109
                            rw [e110] at hT; clear e110
                            rw [e111] at hT; clear e111
                            rw [e112] at hT; clear e112
                            rw [e113] at hT; clear e113
                            rw [e114] at hT; clear e114
                            rw [e115] at hT; clear e115
                            subst hT
                            have BoF := Bo.on hbF
                            have hwF := (hwi.alloc (.cells #[.int .i64 (P : Int), .int .i64 (Q : Int)] 23)).on hbF
                            have hxF := (hxi.alloc (.cells #[.int .i64 (P : Int), .int .i64 (Q : Int)] 23)).on hbF
                            have hRF := (hRi.below (w' := wi.alloc (.cells #[.int .i64 (P : Int), .int .i64 (Q : Int)] 23)) (by (repeat (first | exact Below.refl _ _ | (refine Below.setCell ?_ (by first | omega | (simp; omega) | simp) _) | (refine Below.alloc ?_ (by first | omega | (simp; omega) | simp) _) | apply Below.drew | apply below_drewN)))).below hbF
                            have cO := BoF.cell
                            have cw := hwF.cell
                            have fw := hwF.frozen
                            have zw := hwF.lt
                            go_wp2_with fail
                            go_roundw
                            case rel =>
                              obtain ⟨m1, m2, m3⟩ := HM.out
                              refine ⟨Q + 1, by omega, by omega, by go_num, ?_, (hxF.far (by simp) _).far (by simp) _, ?_, ?_, (by (have q_hbF := Below.size hbF; (try simp at q_hbF); have q_hbi := Below.size hbi; (try simp at q_hbi); repeat (first | exact Below.refl _ _ | (refine Below.trans ?_ (Below.mono hbF (by first | omega | (simp; omega) | simp))) | (refine Below.trans ?_ (Below.mono hbi (by first | omega | (simp; omega) | simp))) | (refine Below.setCell ?_ (by first | omega | (simp; omega) | simp) _) | (refine Below.alloc ?_ (by first | omega | (simp; omega) | simp) _) | apply Below.drew | apply below_drewN)))⟩
                              · rw [show ((Q + 1 : Nat) : Int) = (Q : Int) + 1 from by omega, m1]
                              · rw [show ((Q + 1 : Nat) : Int) = (Q : Int) + 1 from by omega, m2, m3]; exact (hwF.set_ 0 _).set_ 1 _
                              · exact (hRF.kept (Kept.setCell (.refl [gx + 1] _) (by simp) _) (fun _ h => h)).kept (Kept.setCell (.refl [gx + 1] _) (by simp) _) (fun _ h => h)
                            case measure => simp [intOf] <;> omega
                        · have HM := Lib.hid (fnd_miss hit)
                          have hqq0 : decide (b = superL P Q) = false := by simp [hit]
                          have HD := Lib.hid hqq0
                          clear hit hqq0 hx10 hx12
                          by_cases h10 : (x10.toNat : Int) = P
                          · have hq10 : ((x10.toNat : Int) == (P : Int)) = true := by simp [h10]
                            clear h10
                            by_cases h12 : (x12.toNat : Int) = Q
                            · have hq12 : ((x12.toNat : Int) == (Q : Int)) = true := by simp [h12]
                              clear h12
                              refine wp_flows [(fun y_ _ => y_ = .slice (some ⟨ba, off, none⟩) 256 c), (fun y_ _ => y_ = .int .i64 256), (fun y_ _ => y_ = .bool true), (fun y_ _ => y_ = .bool true), (fun y_ _ => y_ = .slice (some ⟨ba, off, none⟩) 256 c), (fun y_ _ => y_ = .pointer (some ⟨ba, off + 10, none⟩)), (fun y_ _ => y_ = .int .u8 (x10.toNat : Int)), (fun y_ _ => y_ = .int .i64 (P : Int)), (fun y_ _ => y_ = .int .u8 (P : Int)), (fun y_ _ => y_ = .bool true), (fun y_ _ => y_ = .bool true), (fun y_ _ => y_ = .bool true), (fun y_ _ => y_ = .slice (some ⟨ba, off, none⟩) 256 c), (fun y_ _ => y_ = .pointer (some ⟨ba, off + 12, none⟩)), (fun y_ _ => y_ = .int .u8 (x12.toNat : Int)), (fun y_ _ => y_ = .int .i64 (Q : Int)), (fun y_ _ => y_ = .int .u8 (Q : Int)), (fun y_ _ => y_ = .bool true), (fun y_ _ => y_ = .bool true), (fun y_ _ => y_ = .bool true), (fun y_ _ => y_ = .slice (some ⟨ba, off, none⟩) 256 c), (fun y_ _ => y_ = .string (str b)), (fun y_ _ => y_ = .agg #[.int .i64 (P : Int), .int .i64 (Q : Int)]), (IsB (256) (superL P Q)), (fun y_ _ => y_ = .string (str (superL P Q))), (fun y_ _ => y_ = .bool false), (fun y_ _ => y_ = .bool false)] (by kernel_rfl) ⟨Stab.eq _, Stab.eq _, Stab.eq _, Stab.eq _, Stab.eq _, Stab.eq _, Stab.eq _, Stab.eq _, Stab.eq _, Stab.eq _, Stab.eq _, Stab.eq _, Stab.eq _, Stab.eq _, Stab.eq _, Stab.eq _, Stab.eq _, Stab.eq _, Stab.eq _, Stab.eq _, Stab.eq _, Stab.eq _, Stab.eq _, Stab.b _ _, Stab.eq _, Stab.eq _, Stab.eq _, trivial⟩ (by kernel_rfl) (by rfl) ?_ ?_
                              · intro kq hkq
                                match kq, hkq with
                                | 0, _ =>
                                  refine StepOk.plain _ 69 rfl rfl rfl [(11, none)] (by kernel_rfl) (fun af wf hbw hf Kf hKf => ?_)
                                  obtain ⟨g11, _⟩ := hf
                                  have h11 : af.tmps[11]?.getD undef = .slice (some ⟨ba, off, none⟩) 256 c := g11
                                  clear g11
                                  go_simp
                                  exact hKf _ _ (Below.refl _ _) rfl
                                | 1, _ =>
                                  refine StepOk.plain _ 70 rfl rfl rfl [(69, some 0)] (by kernel_rfl) (fun af wf hbw hf Kf hKf => ?_)
                                  obtain ⟨g69, _⟩ := hf
                                  have h69 : af.tmps[69]?.getD undef = .slice (some ⟨ba, off, none⟩) 256 c := g69
                                  clear g69
                                  go_simp
                                  exact hKf _ _ (Below.refl _ _) rfl
                                | 2, _ =>
                                  refine StepOk.plain _ 71 rfl rfl rfl [(70, some 1)] (by kernel_rfl) (fun af wf hbw hf Kf hKf => ?_)
                                  obtain ⟨g70, _⟩ := hf
                                  have h70 : af.tmps[70]?.getD undef = .int .i64 256 := g70
                                  clear g70
                                  go_simp
                                  exact hKf _ _ (Below.refl _ _) rfl
                                | 3, _ =>
                                  refine StepOk.plain _ 72 rfl rfl rfl [(71, some 2)] (by kernel_rfl) (fun af wf hbw hf Kf hKf => ?_)
                                  obtain ⟨g71, _⟩ := hf
                                  have h71 : af.tmps[71]?.getD undef = .bool true := g71
                                  clear g71
                                  go_simp
                                  exact hKf _ _ (Below.refl _ _) rfl
                                | 4, _ =>
                                  refine StepOk.yes _ 73 rfl rfl rfl rfl (fun _ _ h => h) [(11, none)] (by kernel_rfl) (fun af wf hbw hf Kf hKf => ?_)
                                  obtain ⟨g11, _⟩ := hf
                                  have h11 : af.tmps[11]?.getD undef = .slice (some ⟨ba, off, none⟩) 256 c := g11
                                  clear g11
                                  go_simp
                                  exact hKf _ _ (Below.refl _ _) rfl
                                | 5, _ =>
                                  refine StepOk.yes _ 74 rfl rfl rfl rfl (fun _ _ h => h) [(73, some 4)] (by kernel_rfl) (fun af wf hbw hf Kf hKf => ?_)
                                  obtain ⟨g73, _⟩ := hf
                                  have h73 : af.tmps[73]?.getD undef = .slice (some ⟨ba, off, none⟩) 256 c := g73
                                  clear g73
                                  have hq5 : (0 : Int) ≤ 10 := by omega
                                  go_simp
                                  exact hKf _ _ (Below.refl _ _) rfl
                                | 6, _ =>
                                  refine StepOk.yes _ 75 rfl rfl rfl rfl (fun _ _ h => h) [(74, some 5)] (by kernel_rfl) (fun af wf hbw hf Kf hKf => ?_)
                                  obtain ⟨g74, _⟩ := hf
                                  have h74 : af.tmps[74]?.getD undef = .pointer (some ⟨ba, off + 10, none⟩) := g74
                                  clear g74
                                  have cB0 := (Blk.on (Blk.drew (Bo)) hbw).cell
                                  have hcx := (Below.cell (p := ⟨ba, off + 10, none⟩) hbw hba).trans hc10
                                  go_simp
                                  exact hKf _ _ (Below.refl _ _) rfl
                                | 7, _ =>
                                  refine StepOk.yes _ 76 rfl rfl rfl rfl (fun _ _ h => h) [(16, none)] (by kernel_rfl) (fun af wf hbw hf Kf hKf => ?_)
                                  obtain ⟨g16, _⟩ := hf
                                  have h16 : af.tmps[16]?.getD undef = .int .i64 (P : Int) := g16
                                  clear g16
                                  go_simp
                                  exact hKf _ _ (Below.refl _ _) rfl
                                | 8, _ =>
                                  refine StepOk.yes _ 77 rfl rfl rfl rfl (fun _ _ h => h) [(76, some 7)] (by kernel_rfl) (fun af wf hbw hf Kf hKf => ?_)
                                  obtain ⟨g76, _⟩ := hf
                                  have h76 : af.tmps[76]?.getD undef = .int .i64 (P : Int) := g76
                                  clear g76
                                  have hwu : IntKind.u8.wrap (P : Int) = (P : Int) := by simp [IntKind.wrap, IntKind.signed, IntKind.bits]; omega
                                  go_simp
                                  exact hKf _ _ (Below.refl _ _) rfl
                                | 9, _ =>
                                  refine StepOk.yes _ 78 rfl rfl rfl rfl (fun _ _ h => h) [(75, some 6), (77, some 8)] (by kernel_rfl) (fun af wf hbw hf Kf hKf => ?_)
                                  obtain ⟨g75, g77, _⟩ := hf
                                  have h75 : af.tmps[75]?.getD undef = .int .u8 (x10.toNat : Int) := g75
                                  have h77 : af.tmps[77]?.getD undef = .int .u8 (P : Int) := g77
                                  clear g75 g77
                                  go_simp
                                  exact hKf _ _ (Below.refl _ _) rfl
                                | 10, _ =>
                                  refine StepOk.plain _ 79 rfl rfl rfl [(72, some 3), (78, some 9)] (by kernel_rfl) (fun af wf hbw hf Kf hKf => ?_)
                                  obtain ⟨g72, g78, _⟩ := hf
                                  have h72 : af.tmps[72]?.getD undef = .bool true := g72
                                  have h78 : af.tmps[78]?.getD undef = .bool true := g78
                                  clear g72 g78
                                  go_simp
                                  exact hKf _ _ (Below.refl _ _) rfl
                                | 11, _ =>
                                  refine StepOk.plain _ 80 rfl rfl rfl [(79, some 10)] (by kernel_rfl) (fun af wf hbw hf Kf hKf => ?_)
                                  obtain ⟨g79, _⟩ := hf
                                  have h79 : af.tmps[79]?.getD undef = .bool true := g79
                                  clear g79
                                  go_simp
                                  exact hKf _ _ (Below.refl _ _) rfl
                                | 12, _ =>
                                  refine StepOk.yes _ 81 rfl rfl rfl rfl (fun _ _ h => h) [(11, none)] (by kernel_rfl) (fun af wf hbw hf Kf hKf => ?_)
                                  obtain ⟨g11, _⟩ := hf
                                  have h11 : af.tmps[11]?.getD undef = .slice (some ⟨ba, off, none⟩) 256 c := g11
                                  clear g11
                                  go_simp
                                  exact hKf _ _ (Below.refl _ _) rfl
                                | 13, _ =>
                                  refine StepOk.yes _ 82 rfl rfl rfl rfl (fun _ _ h => h) [(81, some 12)] (by kernel_rfl) (fun af wf hbw hf Kf hKf => ?_)
                                  obtain ⟨g81, _⟩ := hf
                                  have h81 : af.tmps[81]?.getD undef = .slice (some ⟨ba, off, none⟩) 256 c := g81
                                  clear g81
                                  go_simp
                                  exact hKf _ _ (Below.refl _ _) rfl
                                | 14, _ =>
                                  refine StepOk.yes _ 83 rfl rfl rfl rfl (fun _ _ h => h) [(82, some 13)] (by kernel_rfl) (fun af wf hbw hf Kf hKf => ?_)
                                  obtain ⟨g82, _⟩ := hf
                                  have h82 : af.tmps[82]?.getD undef = .pointer (some ⟨ba, off + 12, none⟩) := g82
                                  clear g82
                                  have cB0 := (Blk.on (Blk.drew (Bo)) hbw).cell
                                  have hcx := (Below.cell (p := ⟨ba, off + 12, none⟩) hbw hba).trans hc12
                                  go_simp
                                  exact hKf _ _ (Below.refl _ _) rfl
                                | 15, _ =>
                                  refine StepOk.yes _ 84 rfl rfl rfl rfl (fun _ _ h => h) [(17, none)] (by kernel_rfl) (fun af wf hbw hf Kf hKf => ?_)
                                  obtain ⟨g17, _⟩ := hf
                                  have h17 : af.tmps[17]?.getD undef = .int .i64 (Q : Int) := g17
                                  clear g17
                                  go_simp
                                  exact hKf _ _ (Below.refl _ _) rfl
                                | 16, _ =>
                                  refine StepOk.yes _ 85 rfl rfl rfl rfl (fun _ _ h => h) [(84, some 15)] (by kernel_rfl) (fun af wf hbw hf Kf hKf => ?_)
                                  obtain ⟨g84, _⟩ := hf
                                  have h84 : af.tmps[84]?.getD undef = .int .i64 (Q : Int) := g84
                                  clear g84
                                  have hwu : IntKind.u8.wrap (Q : Int) = (Q : Int) := by simp [IntKind.wrap, IntKind.signed, IntKind.bits]; omega
                                  go_simp
                                  exact hKf _ _ (Below.refl _ _) rfl
                                | 17, _ =>
                                  refine StepOk.yes _ 86 rfl rfl rfl rfl (fun _ _ h => h) [(83, some 14), (85, some 16)] (by kernel_rfl) (fun af wf hbw hf Kf hKf => ?_)
                                  obtain ⟨g83, g85, _⟩ := hf
                                  have h83 : af.tmps[83]?.getD undef = .int .u8 (x12.toNat : Int) := g83
                                  have h85 : af.tmps[85]?.getD undef = .int .u8 (Q : Int) := g85
                                  clear g83 g85
                                  go_simp
                                  exact hKf _ _ (Below.refl _ _) rfl
                                | 18, _ =>
                                  refine StepOk.plain _ 87 rfl rfl rfl [(80, some 11), (86, some 17)] (by kernel_rfl) (fun af wf hbw hf Kf hKf => ?_)
                                  obtain ⟨g80, g86, _⟩ := hf
                                  have h80 : af.tmps[80]?.getD undef = .bool true := g80
                                  have h86 : af.tmps[86]?.getD undef = .bool true := g86
                                  clear g80 g86
                                  go_simp
                                  exact hKf _ _ (Below.refl _ _) rfl
                                | 19, _ =>
                                  refine StepOk.plain _ 88 rfl rfl rfl [(87, some 18)] (by kernel_rfl) (fun af wf hbw hf Kf hKf => ?_)
                                  obtain ⟨g87, _⟩ := hf
                                  have h87 : af.tmps[87]?.getD undef = .bool true := g87
                                  clear g87
                                  go_simp
                                  exact hKf _ _ (Below.refl _ _) rfl
                                | 20, _ =>
                                  refine StepOk.yes _ 89 rfl rfl rfl rfl (fun _ _ h => h) [(11, none)] (by kernel_rfl) (fun af wf hbw hf Kf hKf => ?_)
                                  obtain ⟨g11, _⟩ := hf
                                  have h11 : af.tmps[11]?.getD undef = .slice (some ⟨ba, off, none⟩) 256 c := g11
                                  clear g11
                                  go_simp
                                  exact hKf _ _ (Below.refl _ _) rfl
                                | 21, _ =>
                                  refine StepOk.yes _ 90 rfl rfl rfl rfl (fun _ _ h => h) [(89, some 20)] (by kernel_rfl) (fun af wf hbw hf Kf hKf => ?_)
                                  obtain ⟨g89, _⟩ := hf
                                  have h89 : af.tmps[89]?.getD undef = .slice (some ⟨ba, off, none⟩) 256 c := g89
                                  clear g89
                                  have hcv := conv c _ (Rd.below (Rd.drew (hRa)) hbw)
                                  go_simp
                                  exact hKf _ _ (Below.refl _ _) rfl
                                | 22, _ =>
                                  refine StepOk.yes _ 91 rfl rfl rfl rfl (fun _ _ h => h) [(18, none)] (by kernel_rfl) (fun af wf hbw hf Kf hKf => ?_)
                                  obtain ⟨g18, _⟩ := hf
                                  have h18 : af.tmps[18]?.getD undef = .pointer (some ⟨wi.heap.size, 0, none⟩) := g18
                                  clear g18
                                  have cB0 := (Blk.on (Blk.drew (Bo)) hbw).cell
                                  go_simp
                                  exact hKf _ _ (Below.refl _ _) rfl
                                | 23, _ =>
                                  refine StepOk.yes _ 92 rfl rfl rfl rfl (fun _ _ h => h) [(91, some 22)] (by kernel_rfl) (fun af wf hbw hf Kf hKf => ?_)
                                  obtain ⟨g91, _⟩ := hf
                                  have h91 : af.tmps[91]?.getD undef = .agg #[.int .i64 (P : Int), .int .i64 (Q : Int)] := g91
                                  clear g91
                                  go_simp
                                  refine (srbytes_any P Q _ hm).mono ?_
                                  rintro e wN ⟨r, rfl, hF, hb⟩
                                  exact hKf _ _ (hb) (IsB.of hF (superL_len P Q))
                                | 24, _ =>
                                  refine StepOk.yes _ 93 rfl rfl rfl rfl (fun _ _ h => h) [(92, some 23)] (by kernel_rfl) (fun af wf hbw hf Kf hKf => ?_)
                                  obtain ⟨g92, _⟩ := hf
                                  obtain ⟨A92, c92, h92, hR92, hn92, hm92⟩ : IsB (256) (superL P Q) (af.tmps[92]?.getD undef) wf := g92
                                  have hcv := conv c92 _ hR92
                                  go_simp
                                  exact hKf _ _ (Below.refl _ _) rfl
                                | 25, _ =>
                                  refine StepOk.yes _ 94 rfl rfl rfl rfl (fun _ _ h => h) [(90, some 21), (93, some 24)] (by kernel_rfl) (fun af wf hbw hf Kf hKf => ?_)
                                  obtain ⟨g90, g93, _⟩ := hf
                                  have h90 : af.tmps[90]?.getD undef = .string (str b) := g90
                                  have h93 : af.tmps[93]?.getD undef = .string (str (superL P Q)) := g93
                                  clear g90 g93
                                  have hqq : ((str b).toList == (str (superL P Q)).toList) = false := by rw [str_toL, str_toL]; have := HD.out; simpa using this
                                  go_simp
                                  exact hKf _ _ (Below.refl _ _) rfl
                                | 26, _ =>
                                  refine StepOk.plain _ 95 rfl rfl rfl [(88, some 19), (94, some 25)] (by kernel_rfl) (fun af wf hbw hf Kf hKf => ?_)
                                  obtain ⟨g88, g94, _⟩ := hf
                                  have h88 : af.tmps[88]?.getD undef = .bool true := g88
                                  have h94 : af.tmps[94]?.getD undef = .bool false := g94
                                  clear g88 g94
                                  go_simp
                                  exact hKf _ _ (Below.refl _ _) rfl
                                | i + 27, h => exact absurd h (by show ¬ (i + 27 < 27); omega)
                              · intro af wF hbF hdF hsF hbaseF hfactF
                                obtain ⟨T, dsF⟩ := af
                                obtain rfl : dsF = _ := hdF
                                have e0 := hbaseF 0 (not_dst (by kernel_rfl))
                                simp only [List.getElem?_toArray, List.getElem?_cons_zero, Option.getD_some] at e0
                                have e1 := hbaseF 1 (not_dst (by kernel_rfl))
                                simp only [List.getElem?_toArray, List.getElem?_cons_zero, List.getElem?_cons_succ, Option.getD_some] at e1
                                have e2 := hbaseF 2 (not_dst (by kernel_rfl))
                                simp only [List.getElem?_toArray, List.getElem?_cons_zero, List.getElem?_cons_succ, Option.getD_some] at e2
                                have e3 := hbaseF 3 (not_dst (by kernel_rfl))
                                simp only [List.getElem?_toArray, List.getElem?_cons_zero, List.getElem?_cons_succ, Option.getD_some] at e3
                                have e4 := hbaseF 4 (not_dst (by kernel_rfl))
                                simp only [List.getElem?_toArray, List.getElem?_cons_zero, List.getElem?_cons_succ, Option.getD_some] at e4
                                have e5 := hbaseF 5 (not_dst (by kernel_rfl))
                                simp only [List.getElem?_toArray, List.getElem?_cons_zero, List.getElem?_cons_succ, Option.getD_some] at e5
                                have e6 := hbaseF 6 (not_dst (by kernel_rfl))
                                simp only [List.getElem?_toArray, List.getElem?_cons_zero, List.getElem?_cons_succ, Option.getD_some] at e6
                                have e7 := hbaseF 7 (not_dst (by kernel_rfl))
                                simp only [List.getElem?_toArray, List.getElem?_cons_zero, List.getElem?_cons_succ, Option.getD_some] at e7
                                have e8 := hbaseF 8 (not_dst (by kernel_rfl))
                                simp only [List.getElem?_toArray, List.getElem?_cons_zero, List.getElem?_cons_succ, Option.getD_some] at e8
                                have e9 := hbaseF 9 (not_dst (by kernel_rfl))
                                simp only [List.getElem?_toArray, List.getElem?_cons_zero, List.getElem?_cons_succ, Option.getD_some] at e9
                                have e10 := hbaseF 10 (not_dst (by kernel_rfl))
                                simp only [List.getElem?_toArray, List.getElem?_cons_zero, List.getElem?_cons_succ, Option.getD_some] at e10
                                have e11 := hbaseF 11 (not_dst (by kernel_rfl))
                                simp only [List.getElem?_toArray, List.getElem?_cons_zero, List.getElem?_cons_succ, Option.getD_some] at e11
                                have e12 := hbaseF 12 (not_dst (by kernel_rfl))
                                simp only [List.getElem?_toArray, List.getElem?_cons_zero, List.getElem?_cons_succ, Option.getD_some] at e12
                                have e13 := hbaseF 13 (not_dst (by kernel_rfl))
                                simp only [List.getElem?_toArray, List.getElem?_cons_zero, List.getElem?_cons_succ, Option.getD_some] at e13
                                have e14 := hbaseF 14 (not_dst (by kernel_rfl))
                                simp only [List.getElem?_toArray, List.getElem?_cons_zero, List.getElem?_cons_succ, Option.getD_some] at e14
                                have e15 := hbaseF 15 (not_dst (by kernel_rfl))
                                simp only [List.getElem?_toArray, List.getElem?_cons_zero, List.getElem?_cons_succ, Option.getD_some] at e15
                                have e16 := hbaseF 16 (not_dst (by kernel_rfl))
                                simp only [List.getElem?_toArray, List.getElem?_cons_zero, List.getElem?_cons_succ, Option.getD_some] at e16
                                have e17 := hbaseF 17 (not_dst (by kernel_rfl))
                                simp only [List.getElem?_toArray, List.getElem?_cons_zero, List.getElem?_cons_succ, Option.getD_some] at e17
                                have e18 := hbaseF 18 (not_dst (by kernel_rfl))
                                simp only [List.getElem?_toArray, List.getElem?_cons_zero, List.getElem?_cons_succ, Option.getD_some] at e18
                                have e19 := hbaseF 19 (not_dst (by kernel_rfl))
                                simp only [List.getElem?_toArray, List.getElem?_cons_zero, List.getElem?_cons_succ, Option.getD_some] at e19
                                have e20 := hbaseF 20 (not_dst (by kernel_rfl))
                                simp only [List.getElem?_toArray, List.getElem?_cons_zero, List.getElem?_cons_succ, Option.getD_some] at e20
                                have e21 := hbaseF 21 (not_dst (by kernel_rfl))
                                simp only [List.getElem?_toArray, List.getElem?_cons_zero, List.getElem?_cons_succ, Option.getD_some] at e21
                                have e22 := hbaseF 22 (not_dst (by kernel_rfl))
                                simp only [List.getElem?_toArray, List.getElem?_cons_zero, List.getElem?_cons_succ, Option.getD_some] at e22
                                have e23 := hbaseF 23 (not_dst (by kernel_rfl))
                                simp only [List.getElem?_toArray, List.getElem?_cons_zero, List.getElem?_cons_succ, Option.getD_some] at e23
                                have e24 := hbaseF 24 (not_dst (by kernel_rfl))
                                simp only [List.getElem?_toArray, List.getElem?_cons_zero, List.getElem?_cons_succ, Option.getD_some] at e24
                                have e25 := hbaseF 25 (not_dst (by kernel_rfl))
                                simp only [List.getElem?_toArray, List.getElem?_cons_zero, List.getElem?_cons_succ, Option.getD_some] at e25
                                have e26 := hbaseF 26 (not_dst (by kernel_rfl))
                                simp only [List.getElem?_toArray, List.getElem?_cons_zero, List.getElem?_cons_succ, Option.getD_some] at e26
                                have e27 := hbaseF 27 (not_dst (by kernel_rfl))
                                simp only [List.getElem?_toArray, List.getElem?_cons_zero, List.getElem?_cons_succ, Option.getD_some] at e27
                                have e28 := hbaseF 28 (not_dst (by kernel_rfl))
                                simp only [List.getElem?_toArray, List.getElem?_cons_zero, List.getElem?_cons_succ, Option.getD_some] at e28
                                have e29 := hbaseF 29 (not_dst (by kernel_rfl))
                                simp only [List.getElem?_toArray, List.getElem?_cons_zero, List.getElem?_cons_succ, Option.getD_some] at e29
                                have e30 := hbaseF 30 (not_dst (by kernel_rfl))
                                simp only [List.getElem?_toArray, List.getElem?_cons_zero, List.getElem?_cons_succ, Option.getD_some] at e30
                                have e31 := hbaseF 31 (not_dst (by kernel_rfl))
                                simp only [List.getElem?_toArray, List.getElem?_cons_zero, List.getElem?_cons_succ, Option.getD_some] at e31
                                have e32 := hbaseF 32 (not_dst (by kernel_rfl))
                                simp only [List.getElem?_toArray, List.getElem?_cons_zero, List.getElem?_cons_succ, Option.getD_some] at e32
                                have e33 := hbaseF 33 (not_dst (by kernel_rfl))
                                simp only [List.getElem?_toArray, List.getElem?_cons_zero, List.getElem?_cons_succ, Option.getD_some] at e33
                                have e34 := hbaseF 34 (not_dst (by kernel_rfl))
                                simp only [List.getElem?_toArray, List.getElem?_cons_zero, List.getElem?_cons_succ, Option.getD_some] at e34
                                have e35 := hbaseF 35 (not_dst (by kernel_rfl))
                                simp only [List.getElem?_toArray, List.getElem?_cons_zero, List.getElem?_cons_succ, Option.getD_some] at e35
                                have e36 := hbaseF 36 (not_dst (by kernel_rfl))
                                simp only [List.getElem?_toArray, List.getElem?_cons_zero, List.getElem?_cons_succ, Option.getD_some] at e36
                                have e37 := hbaseF 37 (not_dst (by kernel_rfl))
                                simp only [List.getElem?_toArray, List.getElem?_cons_zero, List.getElem?_cons_succ, Option.getD_some] at e37
                                have e38 := hbaseF 38 (not_dst (by kernel_rfl))
                                simp only [List.getElem?_toArray, List.getElem?_cons_zero, List.getElem?_cons_succ, Option.getD_some] at e38
                                have e39 := hbaseF 39 (not_dst (by kernel_rfl))
                                simp only [List.getElem?_toArray, List.getElem?_cons_zero, List.getElem?_cons_succ, Option.getD_some] at e39
                                have e40 := hbaseF 40 (not_dst (by kernel_rfl))
                                simp only [List.getElem?_toArray, List.getElem?_cons_zero, List.getElem?_cons_succ, Option.getD_some] at e40
                                have e41 := hbaseF 41 (not_dst (by kernel_rfl))
                                simp only [List.getElem?_toArray, List.getElem?_cons_zero, List.getElem?_cons_succ, Option.getD_some] at e41
                                have e42 := hbaseF 42 (not_dst (by kernel_rfl))
                                simp only [List.getElem?_toArray, List.getElem?_cons_zero, List.getElem?_cons_succ, Option.getD_some] at e42
                                have e43 := hbaseF 43 (not_dst (by kernel_rfl))
                                simp only [List.getElem?_toArray, List.getElem?_cons_zero, List.getElem?_cons_succ, Option.getD_some] at e43
                                have e44 := hbaseF 44 (not_dst (by kernel_rfl))
                                simp only [List.getElem?_toArray, List.getElem?_cons_zero, List.getElem?_cons_succ, Option.getD_some] at e44
                                have e45 := hbaseF 45 (not_dst (by kernel_rfl))
                                simp only [List.getElem?_toArray, List.getElem?_cons_zero, List.getElem?_cons_succ, Option.getD_some] at e45
                                have e46 := hbaseF 46 (not_dst (by kernel_rfl))
                                simp only [List.getElem?_toArray, List.getElem?_cons_zero, List.getElem?_cons_succ, Option.getD_some] at e46
                                have e47 := hbaseF 47 (not_dst (by kernel_rfl))
                                simp only [List.getElem?_toArray, List.getElem?_cons_zero, List.getElem?_cons_succ, Option.getD_some] at e47
                                have e48 := hbaseF 48 (not_dst (by kernel_rfl))
                                simp only [List.getElem?_toArray, List.getElem?_cons_zero, List.getElem?_cons_succ, Option.getD_some] at e48
                                have e49 := hbaseF 49 (not_dst (by kernel_rfl))
                                simp only [List.getElem?_toArray, List.getElem?_cons_zero, List.getElem?_cons_succ, Option.getD_some] at e49
                                have e50 := hbaseF 50 (not_dst (by kernel_rfl))
                                simp only [List.getElem?_toArray, List.getElem?_cons_zero, List.getElem?_cons_succ, Option.getD_some] at e50
                                have e51 := hbaseF 51 (not_dst (by kernel_rfl))
                                simp only [List.getElem?_toArray, List.getElem?_cons_zero, List.getElem?_cons_succ, Option.getD_some] at e51
                                have e52 := hbaseF 52 (not_dst (by kernel_rfl))
                                simp only [List.getElem?_toArray, List.getElem?_cons_zero, List.getElem?_cons_succ, Option.getD_some] at e52
                                have e53 := hbaseF 53 (not_dst (by kernel_rfl))
                                simp only [List.getElem?_toArray, List.getElem?_cons_zero, List.getElem?_cons_succ, Option.getD_some] at e53
                                have e54 := hbaseF 54 (not_dst (by kernel_rfl))
                                simp only [List.getElem?_toArray, List.getElem?_cons_zero, List.getElem?_cons_succ, Option.getD_some] at e54
                                have e55 := hbaseF 55 (not_dst (by kernel_rfl))
                                simp only [List.getElem?_toArray, List.getElem?_cons_zero, List.getElem?_cons_succ, Option.getD_some] at e55
                                have e56 := hbaseF 56 (not_dst (by kernel_rfl))
                                simp only [List.getElem?_toArray, List.getElem?_cons_zero, List.getElem?_cons_succ, Option.getD_some] at e56
                                have e57 := hbaseF 57 (not_dst (by kernel_rfl))
                                simp only [List.getElem?_toArray, List.getElem?_cons_zero, List.getElem?_cons_succ, Option.getD_some] at e57
                                have e58 := hbaseF 58 (not_dst (by kernel_rfl))
                                simp only [List.getElem?_toArray, List.getElem?_cons_zero, List.getElem?_cons_succ, Option.getD_some] at e58
                                have e59 := hbaseF 59 (not_dst (by kernel_rfl))
                                simp only [List.getElem?_toArray, List.getElem?_cons_zero, List.getElem?_cons_succ, Option.getD_some] at e59
                                have e60 := hbaseF 60 (not_dst (by kernel_rfl))
                                simp only [List.getElem?_toArray, List.getElem?_cons_zero, List.getElem?_cons_succ, Option.getD_some] at e60
                                have e61 := hbaseF 61 (not_dst (by kernel_rfl))
                                simp only [List.getElem?_toArray, List.getElem?_cons_zero, List.getElem?_cons_succ, Option.getD_some] at e61
                                have e62 := hbaseF 62 (not_dst (by kernel_rfl))
                                simp only [List.getElem?_toArray, List.getElem?_cons_zero, List.getElem?_cons_succ, Option.getD_some] at e62
                                have e63 := hbaseF 63 (not_dst (by kernel_rfl))
                                simp only [List.getElem?_toArray, List.getElem?_cons_zero, List.getElem?_cons_succ, Option.getD_some] at e63
                                have e64 := hbaseF 64 (not_dst (by kernel_rfl))
                                simp only [List.getElem?_toArray, List.getElem?_cons_zero, List.getElem?_cons_succ, Option.getD_some] at e64
                                have e65 := hbaseF 65 (not_dst (by kernel_rfl))
                                simp only [List.getElem?_toArray, List.getElem?_cons_zero, List.getElem?_cons_succ, Option.getD_some] at e65
                                have e66 := hbaseF 66 (not_dst (by kernel_rfl))
                                simp only [List.getElem?_toArray, List.getElem?_cons_zero, List.getElem?_cons_succ, Option.getD_some] at e66
                                have e67 := hbaseF 67 (not_dst (by kernel_rfl))
                                simp only [List.getElem?_toArray, List.getElem?_cons_zero, List.getElem?_cons_succ, Option.getD_some] at e67
                                have e68 := hbaseF 68 (not_dst (by kernel_rfl))
                                simp only [List.getElem?_toArray, List.getElem?_cons_zero, List.getElem?_cons_succ, Option.getD_some] at e68
                                have e96 := hbaseF 96 (not_dst (by kernel_rfl))
                                simp only [List.getElem?_toArray, List.getElem?_cons_zero, List.getElem?_cons_succ, Option.getD_some] at e96
                                have e97 := hbaseF 97 (not_dst (by kernel_rfl))
                                simp only [List.getElem?_toArray, List.getElem?_cons_zero, List.getElem?_cons_succ, Option.getD_some] at e97
                                have e98 := hbaseF 98 (not_dst (by kernel_rfl))
                                simp only [List.getElem?_toArray, List.getElem?_cons_zero, List.getElem?_cons_succ, Option.getD_some] at e98
                                have e99 := hbaseF 99 (not_dst (by kernel_rfl))
                                simp only [List.getElem?_toArray, List.getElem?_cons_zero, List.getElem?_cons_succ, Option.getD_some] at e99
                                have e100 := hbaseF 100 (not_dst (by kernel_rfl))
                                simp only [List.getElem?_toArray, List.getElem?_cons_zero, List.getElem?_cons_succ, Option.getD_some] at e100
                                have e101 := hbaseF 101 (not_dst (by kernel_rfl))
                                simp only [List.getElem?_toArray, List.getElem?_cons_zero, List.getElem?_cons_succ, Option.getD_some] at e101
                                have e102 := hbaseF 102 (not_dst (by kernel_rfl))
                                simp only [List.getElem?_toArray, List.getElem?_cons_zero, List.getElem?_cons_succ, Option.getD_some] at e102
                                have e103 := hbaseF 103 (not_dst (by kernel_rfl))
                                simp only [List.getElem?_toArray, List.getElem?_cons_zero, List.getElem?_cons_succ, Option.getD_some] at e103
                                have e104 := hbaseF 104 (not_dst (by kernel_rfl))
                                simp only [List.getElem?_toArray, List.getElem?_cons_zero, List.getElem?_cons_succ, Option.getD_some] at e104
                                have e105 := hbaseF 105 (not_dst (by kernel_rfl))
                                simp only [List.getElem?_toArray, List.getElem?_cons_zero, List.getElem?_cons_succ, Option.getD_some] at e105
                                have e106 := hbaseF 106 (not_dst (by kernel_rfl))
                                simp only [List.getElem?_toArray, List.getElem?_cons_zero, List.getElem?_cons_succ, Option.getD_some] at e106
                                have e107 := hbaseF 107 (not_dst (by kernel_rfl))
                                simp only [List.getElem?_toArray, List.getElem?_cons_zero, List.getElem?_cons_succ, Option.getD_some] at e107
                                have e108 := hbaseF 108 (not_dst (by kernel_rfl))
                                simp only [List.getElem?_toArray, List.getElem?_cons_zero, List.getElem?_cons_succ, Option.getD_some] at e108
                                have e109 := hbaseF 109 (not_dst (by kernel_rfl))
                                simp only [List.getElem?_toArray, List.getElem?_cons_zero, List.getElem?_cons_succ, Option.getD_some] at e109
                                have e110 := hbaseF 110 (not_dst (by kernel_rfl))
                                simp only [List.getElem?_toArray, List.getElem?_cons_zero, List.getElem?_cons_succ, Option.getD_some] at e110
                                have e111 := hbaseF 111 (not_dst (by kernel_rfl))
                                simp only [List.getElem?_toArray, List.getElem?_cons_zero, List.getElem?_cons_succ, Option.getD_some] at e111
                                have e112 := hbaseF 112 (not_dst (by kernel_rfl))
                                simp only [List.getElem?_toArray, List.getElem?_cons_zero, List.getElem?_cons_succ, Option.getD_some] at e112
                                have e113 := hbaseF 113 (not_dst (by kernel_rfl))
                                simp only [List.getElem?_toArray, List.getElem?_cons_zero, List.getElem?_cons_succ, Option.getD_some] at e113
                                have e114 := hbaseF 114 (not_dst (by kernel_rfl))
                                simp only [List.getElem?_toArray, List.getElem?_cons_zero, List.getElem?_cons_succ, Option.getD_some] at e114
                                have e115 := hbaseF 115 (not_dst (by kernel_rfl))
                                simp only [List.getElem?_toArray, List.getElem?_cons_zero, List.getElem?_cons_succ, Option.getD_some] at e115
                                have e95 := hfactF 26 95 (by decide) rfl
                                replace e95 : T[95]?.getD undef = .bool false := e95
                                clear hbaseF hfactF
                                have hT : T = #[T[0]?.getD undef, T[1]?.getD undef, T[2]?.getD undef, T[3]?.getD undef, T[4]?.getD undef, T[5]?.getD undef, T[6]?.getD undef, T[7]?.getD undef, T[8]?.getD undef, T[9]?.getD undef, T[10]?.getD undef, T[11]?.getD undef, T[12]?.getD undef, T[13]?.getD undef, T[14]?.getD undef, T[15]?.getD undef, T[16]?.getD undef, T[17]?.getD undef, T[18]?.getD undef, T[19]?.getD undef, T[20]?.getD undef, T[21]?.getD undef, T[22]?.getD undef, T[23]?.getD undef, T[24]?.getD undef, T[25]?.getD undef, T[26]?.getD undef, T[27]?.getD undef, T[28]?.getD undef, T[29]?.getD undef, T[30]?.getD undef, T[31]?.getD undef, T[32]?.getD undef, T[33]?.getD undef, T[34]?.getD undef, T[35]?.getD undef, T[36]?.getD undef, T[37]?.getD undef, T[38]?.getD undef, T[39]?.getD undef, T[40]?.getD undef, T[41]?.getD undef, T[42]?.getD undef, T[43]?.getD undef, T[44]?.getD undef, T[45]?.getD undef, T[46]?.getD undef, T[47]?.getD undef, T[48]?.getD undef, T[49]?.getD undef, T[50]?.getD undef, T[51]?.getD undef, T[52]?.getD undef, T[53]?.getD undef, T[54]?.getD undef, T[55]?.getD undef, T[56]?.getD undef, T[57]?.getD undef, T[58]?.getD undef, T[59]?.getD undef, T[60]?.getD undef, T[61]?.getD undef, T[62]?.getD undef, T[63]?.getD undef, T[64]?.getD undef, T[65]?.getD undef, T[66]?.getD undef, T[67]?.getD undef, T[68]?.getD undef, T[69]?.getD undef, T[70]?.getD undef, T[71]?.getD undef, T[72]?.getD undef, T[73]?.getD undef, T[74]?.getD undef, T[75]?.getD undef, T[76]?.getD undef, T[77]?.getD undef, T[78]?.getD undef, T[79]?.getD undef, T[80]?.getD undef, T[81]?.getD undef, T[82]?.getD undef, T[83]?.getD undef, T[84]?.getD undef, T[85]?.getD undef, T[86]?.getD undef, T[87]?.getD undef, T[88]?.getD undef, T[89]?.getD undef, T[90]?.getD undef, T[91]?.getD undef, T[92]?.getD undef, T[93]?.getD undef, T[94]?.getD undef, T[95]?.getD undef, T[96]?.getD undef, T[97]?.getD undef, T[98]?.getD undef, T[99]?.getD undef, T[100]?.getD undef, T[101]?.getD undef, T[102]?.getD undef, T[103]?.getD undef, T[104]?.getD undef, T[105]?.getD undef, T[106]?.getD undef, T[107]?.getD undef, T[108]?.getD undef, T[109]?.getD undef, T[110]?.getD undef, T[111]?.getD undef, T[112]?.getD undef, T[113]?.getD undef, T[114]?.getD undef, T[115]?.getD undef] := arr_eq T 116 hsF
                                clear hsF
                                rw [e0] at hT; clear e0
                                rw [e1] at hT; clear e1
                                rw [e2] at hT; clear e2
                                rw [e3] at hT; clear e3
                                rw [e4] at hT; clear e4
                                rw [e5] at hT; clear e5
                                rw [e6] at hT; clear e6
                                rw [e7] at hT; clear e7
                                rw [e8] at hT; clear e8
                                rw [e9] at hT; clear e9
                                rw [e10] at hT; clear e10
                                rw [e11] at hT; clear e11
                                rw [e12] at hT; clear e12
                                rw [e13] at hT; clear e13
                                rw [e14] at hT; clear e14
                                rw [e15] at hT; clear e15
                                rw [e16] at hT; clear e16
                                rw [e17] at hT; clear e17
                                rw [e18] at hT; clear e18
                                rw [e19] at hT; clear e19
                                rw [e20] at hT; clear e20
                                rw [e21] at hT; clear e21
                                rw [e22] at hT; clear e22
                                rw [e23] at hT; clear e23
                                rw [e24] at hT; clear e24
                                rw [e25] at hT; clear e25
                                rw [e26] at hT; clear e26
                                rw [e27] at hT; clear e27
                                rw [e28] at hT; clear e28
                                rw [e29] at hT; clear e29
                                rw [e30] at hT; clear e30
                                rw [e31] at hT; clear e31
                                rw [e32] at hT; clear e32
                                rw [e33] at hT; clear e33
                                rw [e34] at hT; clear e34
                                rw [e35] at hT; clear e35
                                rw [e36] at hT; clear e36
                                rw [e37] at hT; clear e37
                                rw [e38] at hT; clear e38
                                rw [e39] at hT; clear e39
                                rw [e40] at hT; clear e40
                                rw [e41] at hT; clear e41
                                rw [e42] at hT; clear e42
                                rw [e43] at hT; clear e43
                                rw [e44] at hT; clear e44
                                rw [e45] at hT; clear e45
                                rw [e46] at hT; clear e46
                                rw [e47] at hT; clear e47
                                rw [e48] at hT; clear e48
                                rw [e49] at hT; clear e49
                                rw [e50] at hT; clear e50
                                rw [e51] at hT; clear e51
                                rw [e52] at hT; clear e52
                                rw [e53] at hT; clear e53
                                rw [e54] at hT; clear e54
                                rw [e55] at hT; clear e55
                                rw [e56] at hT; clear e56
                                rw [e57] at hT; clear e57
                                rw [e58] at hT; clear e58
                                rw [e59] at hT; clear e59
                                rw [e60] at hT; clear e60
                                rw [e61] at hT; clear e61
                                rw [e62] at hT; clear e62
                                rw [e63] at hT; clear e63
                                rw [e64] at hT; clear e64
                                rw [e65] at hT; clear e65
                                rw [e66] at hT; clear e66
                                rw [e67] at hT; clear e67
                                rw [e68] at hT; clear e68
                                generalize T[69]?.getD undef = u69 at hT
                                generalize T[70]?.getD undef = u70 at hT
                                generalize T[71]?.getD undef = u71 at hT
                                generalize T[72]?.getD undef = u72 at hT
                                generalize T[73]?.getD undef = u73 at hT
                                generalize T[74]?.getD undef = u74 at hT
                                generalize T[75]?.getD undef = u75 at hT
                                generalize T[76]?.getD undef = u76 at hT
                                generalize T[77]?.getD undef = u77 at hT
                                generalize T[78]?.getD undef = u78 at hT
                                generalize T[79]?.getD undef = u79 at hT
                                generalize T[80]?.getD undef = u80 at hT
                                generalize T[81]?.getD undef = u81 at hT
                                generalize T[82]?.getD undef = u82 at hT
                                generalize T[83]?.getD undef = u83 at hT
                                generalize T[84]?.getD undef = u84 at hT
                                generalize T[85]?.getD undef = u85 at hT
                                generalize T[86]?.getD undef = u86 at hT
                                generalize T[87]?.getD undef = u87 at hT
                                generalize T[88]?.getD undef = u88 at hT
                                generalize T[89]?.getD undef = u89 at hT
                                generalize T[90]?.getD undef = u90 at hT
                                generalize T[91]?.getD undef = u91 at hT
                                generalize T[92]?.getD undef = u92 at hT
                                generalize T[93]?.getD undef = u93 at hT
                                generalize T[94]?.getD undef = u94 at hT
                                rw [e95] at hT; clear e95
                                rw [e96] at hT; clear e96
                                rw [e97] at hT; clear e97
                                rw [e98] at hT; clear e98
                                rw [e99] at hT; clear e99
                                rw [e100] at hT; clear e100
                                rw [e101] at hT; clear e101
                                rw [e102] at hT; clear e102
                                rw [e103] at hT; clear e103
                                rw [e104] at hT; clear e104
                                rw [e105] at hT; clear e105
                                rw [e106] at hT; clear e106
                                rw [e107] at hT; clear e107
                                rw [e108] at hT; clear e108
                                rw [e109] at hT; clear e109
                                rw [e110] at hT; clear e110
                                rw [e111] at hT; clear e111
                                rw [e112] at hT; clear e112
                                rw [e113] at hT; clear e113
                                rw [e114] at hT; clear e114
                                rw [e115] at hT; clear e115
                                subst hT
                                go_wp2_with fail
                                go_roundw
                                case rel =>
                                  obtain ⟨m1, m2, m3⟩ := HM.out
                                  refine ⟨Q + 1, by omega, by omega, by go_num, ?_, (hxi.alloc _).on hbF, ?_, (hRi.below (by (repeat (first | exact Below.refl _ _ | (refine Below.setCell ?_ (by first | omega | (simp; omega) | simp) _) | (refine Below.alloc ?_ (by first | omega | (simp; omega) | simp) _) | apply Below.drew | apply below_drewN)))).below hbF, (by (have q_hbF := Below.size hbF; (try simp at q_hbF); have q_hbi := Below.size hbi; (try simp at q_hbi); repeat (first | exact Below.refl _ _ | (refine Below.trans ?_ (Below.mono hbF (by first | omega | (simp; omega) | simp))) | (refine Below.trans ?_ (Below.mono hbi (by first | omega | (simp; omega) | simp))) | (refine Below.setCell ?_ (by first | omega | (simp; omega) | simp) _) | (refine Below.alloc ?_ (by first | omega | (simp; omega) | simp) _) | apply Below.drew | apply below_drewN)))⟩
                                  · rw [show ((Q + 1 : Nat) : Int) = (Q : Int) + 1 from by omega, m1]
                                  · rw [show ((Q + 1 : Nat) : Int) = (Q : Int) + 1 from by omega, m2, m3]; exact (hwi.alloc _).on hbF
                                case measure => simp [intOf] <;> omega
                            · have hq12 : ((x12.toNat : Int) == (Q : Int)) = false := by simp; omega
                              clear h12
                              refine wp_flows [(fun y_ _ => y_ = .slice (some ⟨ba, off, none⟩) 256 c), (fun y_ _ => y_ = .int .i64 256), (fun y_ _ => y_ = .bool true), (fun y_ _ => y_ = .bool true), (fun y_ _ => y_ = .slice (some ⟨ba, off, none⟩) 256 c), (fun y_ _ => y_ = .pointer (some ⟨ba, off + 10, none⟩)), (fun y_ _ => y_ = .int .u8 (x10.toNat : Int)), (fun y_ _ => y_ = .int .i64 (P : Int)), (fun y_ _ => y_ = .int .u8 (P : Int)), (fun y_ _ => y_ = .bool true), (fun y_ _ => y_ = .bool true), (fun y_ _ => y_ = .bool true), (fun y_ _ => y_ = .slice (some ⟨ba, off, none⟩) 256 c), (fun y_ _ => y_ = .pointer (some ⟨ba, off + 12, none⟩)), (fun y_ _ => y_ = .int .u8 (x12.toNat : Int)), (fun y_ _ => y_ = .int .i64 (Q : Int)), (fun y_ _ => y_ = .int .u8 (Q : Int)), (fun y_ _ => y_ = .bool false), (fun y_ _ => y_ = .bool false), (fun y_ _ => y_ = .bool false), (fun y_ _ => y_ = undef), (fun y_ _ => y_ = undef), (fun y_ _ => y_ = undef), (fun y_ _ => y_ = undef), (fun y_ _ => y_ = undef), (fun y_ _ => y_ = undef), (fun y_ _ => y_ = .bool false)] (by kernel_rfl) ⟨Stab.eq _, Stab.eq _, Stab.eq _, Stab.eq _, Stab.eq _, Stab.eq _, Stab.eq _, Stab.eq _, Stab.eq _, Stab.eq _, Stab.eq _, Stab.eq _, Stab.eq _, Stab.eq _, Stab.eq _, Stab.eq _, Stab.eq _, Stab.eq _, Stab.eq _, Stab.eq _, Stab.eq _, Stab.eq _, Stab.eq _, Stab.eq _, Stab.eq _, Stab.eq _, Stab.eq _, trivial⟩ (by kernel_rfl) (by rfl) ?_ ?_
                              · intro kq hkq
                                match kq, hkq with
                                | 0, _ =>
                                  refine StepOk.plain _ 69 rfl rfl rfl [(11, none)] (by kernel_rfl) (fun af wf hbw hf Kf hKf => ?_)
                                  obtain ⟨g11, _⟩ := hf
                                  have h11 : af.tmps[11]?.getD undef = .slice (some ⟨ba, off, none⟩) 256 c := g11
                                  clear g11
                                  go_simp
                                  exact hKf _ _ (Below.refl _ _) rfl
                                | 1, _ =>
                                  refine StepOk.plain _ 70 rfl rfl rfl [(69, some 0)] (by kernel_rfl) (fun af wf hbw hf Kf hKf => ?_)
                                  obtain ⟨g69, _⟩ := hf
                                  have h69 : af.tmps[69]?.getD undef = .slice (some ⟨ba, off, none⟩) 256 c := g69
                                  clear g69
                                  go_simp
                                  exact hKf _ _ (Below.refl _ _) rfl
                                | 2, _ =>
                                  refine StepOk.plain _ 71 rfl rfl rfl [(70, some 1)] (by kernel_rfl) (fun af wf hbw hf Kf hKf => ?_)
                                  obtain ⟨g70, _⟩ := hf
                                  have h70 : af.tmps[70]?.getD undef = .int .i64 256 := g70
                                  clear g70
                                  go_simp
                                  exact hKf _ _ (Below.refl _ _) rfl
                                | 3, _ =>
                                  refine StepOk.plain _ 72 rfl rfl rfl [(71, some 2)] (by kernel_rfl) (fun af wf hbw hf Kf hKf => ?_)
                                  obtain ⟨g71, _⟩ := hf
                                  have h71 : af.tmps[71]?.getD undef = .bool true := g71
                                  clear g71
                                  go_simp
                                  exact hKf _ _ (Below.refl _ _) rfl
                                | 4, _ =>
                                  refine StepOk.yes _ 73 rfl rfl rfl rfl (fun _ _ h => h) [(11, none)] (by kernel_rfl) (fun af wf hbw hf Kf hKf => ?_)
                                  obtain ⟨g11, _⟩ := hf
                                  have h11 : af.tmps[11]?.getD undef = .slice (some ⟨ba, off, none⟩) 256 c := g11
                                  clear g11
                                  go_simp
                                  exact hKf _ _ (Below.refl _ _) rfl
                                | 5, _ =>
                                  refine StepOk.yes _ 74 rfl rfl rfl rfl (fun _ _ h => h) [(73, some 4)] (by kernel_rfl) (fun af wf hbw hf Kf hKf => ?_)
                                  obtain ⟨g73, _⟩ := hf
                                  have h73 : af.tmps[73]?.getD undef = .slice (some ⟨ba, off, none⟩) 256 c := g73
                                  clear g73
                                  have hq5 : (0 : Int) ≤ 10 := by omega
                                  go_simp
                                  exact hKf _ _ (Below.refl _ _) rfl
                                | 6, _ =>
                                  refine StepOk.yes _ 75 rfl rfl rfl rfl (fun _ _ h => h) [(74, some 5)] (by kernel_rfl) (fun af wf hbw hf Kf hKf => ?_)
                                  obtain ⟨g74, _⟩ := hf
                                  have h74 : af.tmps[74]?.getD undef = .pointer (some ⟨ba, off + 10, none⟩) := g74
                                  clear g74
                                  have cB0 := (Blk.on (Blk.drew (Bo)) hbw).cell
                                  have hcx := (Below.cell (p := ⟨ba, off + 10, none⟩) hbw hba).trans hc10
                                  go_simp
                                  exact hKf _ _ (Below.refl _ _) rfl
                                | 7, _ =>
                                  refine StepOk.yes _ 76 rfl rfl rfl rfl (fun _ _ h => h) [(16, none)] (by kernel_rfl) (fun af wf hbw hf Kf hKf => ?_)
                                  obtain ⟨g16, _⟩ := hf
                                  have h16 : af.tmps[16]?.getD undef = .int .i64 (P : Int) := g16
                                  clear g16
                                  go_simp
                                  exact hKf _ _ (Below.refl _ _) rfl
                                | 8, _ =>
                                  refine StepOk.yes _ 77 rfl rfl rfl rfl (fun _ _ h => h) [(76, some 7)] (by kernel_rfl) (fun af wf hbw hf Kf hKf => ?_)
                                  obtain ⟨g76, _⟩ := hf
                                  have h76 : af.tmps[76]?.getD undef = .int .i64 (P : Int) := g76
                                  clear g76
                                  have hwu : IntKind.u8.wrap (P : Int) = (P : Int) := by simp [IntKind.wrap, IntKind.signed, IntKind.bits]; omega
                                  go_simp
                                  exact hKf _ _ (Below.refl _ _) rfl
                                | 9, _ =>
                                  refine StepOk.yes _ 78 rfl rfl rfl rfl (fun _ _ h => h) [(75, some 6), (77, some 8)] (by kernel_rfl) (fun af wf hbw hf Kf hKf => ?_)
                                  obtain ⟨g75, g77, _⟩ := hf
                                  have h75 : af.tmps[75]?.getD undef = .int .u8 (x10.toNat : Int) := g75
                                  have h77 : af.tmps[77]?.getD undef = .int .u8 (P : Int) := g77
                                  clear g75 g77
                                  go_simp
                                  exact hKf _ _ (Below.refl _ _) rfl
                                | 10, _ =>
                                  refine StepOk.plain _ 79 rfl rfl rfl [(72, some 3), (78, some 9)] (by kernel_rfl) (fun af wf hbw hf Kf hKf => ?_)
                                  obtain ⟨g72, g78, _⟩ := hf
                                  have h72 : af.tmps[72]?.getD undef = .bool true := g72
                                  have h78 : af.tmps[78]?.getD undef = .bool true := g78
                                  clear g72 g78
                                  go_simp
                                  exact hKf _ _ (Below.refl _ _) rfl
                                | 11, _ =>
                                  refine StepOk.plain _ 80 rfl rfl rfl [(79, some 10)] (by kernel_rfl) (fun af wf hbw hf Kf hKf => ?_)
                                  obtain ⟨g79, _⟩ := hf
                                  have h79 : af.tmps[79]?.getD undef = .bool true := g79
                                  clear g79
                                  go_simp
                                  exact hKf _ _ (Below.refl _ _) rfl
                                | 12, _ =>
                                  refine StepOk.yes _ 81 rfl rfl rfl rfl (fun _ _ h => h) [(11, none)] (by kernel_rfl) (fun af wf hbw hf Kf hKf => ?_)
                                  obtain ⟨g11, _⟩ := hf
                                  have h11 : af.tmps[11]?.getD undef = .slice (some ⟨ba, off, none⟩) 256 c := g11
                                  clear g11
                                  go_simp
                                  exact hKf _ _ (Below.refl _ _) rfl
                                | 13, _ =>
                                  refine StepOk.yes _ 82 rfl rfl rfl rfl (fun _ _ h => h) [(81, some 12)] (by kernel_rfl) (fun af wf hbw hf Kf hKf => ?_)
                                  obtain ⟨g81, _⟩ := hf
                                  have h81 : af.tmps[81]?.getD undef = .slice (some ⟨ba, off, none⟩) 256 c := g81
                                  clear g81
                                  go_simp
                                  exact hKf _ _ (Below.refl _ _) rfl
                                | 14, _ =>
                                  refine StepOk.yes _ 83 rfl rfl rfl rfl (fun _ _ h => h) [(82, some 13)] (by kernel_rfl) (fun af wf hbw hf Kf hKf => ?_)
                                  obtain ⟨g82, _⟩ := hf
                                  have h82 : af.tmps[82]?.getD undef = .pointer (some ⟨ba, off + 12, none⟩) := g82
                                  clear g82
                                  have cB0 := (Blk.on (Blk.drew (Bo)) hbw).cell
                                  have hcx := (Below.cell (p := ⟨ba, off + 12, none⟩) hbw hba).trans hc12
                                  go_simp
                                  exact hKf _ _ (Below.refl _ _) rfl
                                | 15, _ =>
                                  refine StepOk.yes _ 84 rfl rfl rfl rfl (fun _ _ h => h) [(17, none)] (by kernel_rfl) (fun af wf hbw hf Kf hKf => ?_)
                                  obtain ⟨g17, _⟩ := hf
                                  have h17 : af.tmps[17]?.getD undef = .int .i64 (Q : Int) := g17
                                  clear g17
                                  go_simp
                                  exact hKf _ _ (Below.refl _ _) rfl
                                | 16, _ =>
                                  refine StepOk.yes _ 85 rfl rfl rfl rfl (fun _ _ h => h) [(84, some 15)] (by kernel_rfl) (fun af wf hbw hf Kf hKf => ?_)
                                  obtain ⟨g84, _⟩ := hf
                                  have h84 : af.tmps[84]?.getD undef = .int .i64 (Q : Int) := g84
                                  clear g84
                                  have hwu : IntKind.u8.wrap (Q : Int) = (Q : Int) := by simp [IntKind.wrap, IntKind.signed, IntKind.bits]; omega
                                  go_simp
                                  exact hKf _ _ (Below.refl _ _) rfl
                                | 17, _ =>
                                  refine StepOk.yes _ 86 rfl rfl rfl rfl (fun _ _ h => h) [(83, some 14), (85, some 16)] (by kernel_rfl) (fun af wf hbw hf Kf hKf => ?_)
                                  obtain ⟨g83, g85, _⟩ := hf
                                  have h83 : af.tmps[83]?.getD undef = .int .u8 (x12.toNat : Int) := g83
                                  have h85 : af.tmps[85]?.getD undef = .int .u8 (Q : Int) := g85
                                  clear g83 g85
                                  go_simp
                                  exact hKf _ _ (Below.refl _ _) rfl
                                | 18, _ =>
                                  refine StepOk.plain _ 87 rfl rfl rfl [(80, some 11), (86, some 17)] (by kernel_rfl) (fun af wf hbw hf Kf hKf => ?_)
                                  obtain ⟨g80, g86, _⟩ := hf
                                  have h80 : af.tmps[80]?.getD undef = .bool true := g80
                                  have h86 : af.tmps[86]?.getD undef = .bool false := g86
                                  clear g80 g86
                                  go_simp
                                  exact hKf _ _ (Below.refl _ _) rfl
                                | 19, _ =>
                                  refine StepOk.plain _ 88 rfl rfl rfl [(87, some 18)] (by kernel_rfl) (fun af wf hbw hf Kf hKf => ?_)
                                  obtain ⟨g87, _⟩ := hf
                                  have h87 : af.tmps[87]?.getD undef = .bool false := g87
                                  clear g87
                                  go_simp
                                  exact hKf _ _ (Below.refl _ _) rfl
                                | 20, _ => exact StepOk.no _ 89 rfl rfl rfl rfl (fun _ _ h => h) (by decide) (by kernel_rfl) (fun _ => rfl)
                                | 21, _ => exact StepOk.no _ 90 rfl rfl rfl rfl (fun _ _ h => h) (by decide) (by kernel_rfl) (fun _ => rfl)
                                | 22, _ => exact StepOk.no _ 91 rfl rfl rfl rfl (fun _ _ h => h) (by decide) (by kernel_rfl) (fun _ => rfl)
                                | 23, _ => exact StepOk.no _ 92 rfl rfl rfl rfl (fun _ _ h => h) (by decide) (by kernel_rfl) (fun _ => rfl)
                                | 24, _ => exact StepOk.no _ 93 rfl rfl rfl rfl (fun _ _ h => h) (by decide) (by kernel_rfl) (fun _ => rfl)
                                | 25, _ => exact StepOk.no _ 94 rfl rfl rfl rfl (fun _ _ h => h) (by decide) (by kernel_rfl) (fun _ => rfl)
                                | 26, _ =>
                                  refine StepOk.plain _ 95 rfl rfl rfl [(88, some 19), (94, some 25)] (by kernel_rfl) (fun af wf hbw hf Kf hKf => ?_)
                                  obtain ⟨g88, g94, _⟩ := hf
                                  have h88 : af.tmps[88]?.getD undef = .bool false := g88
                                  have h94 : af.tmps[94]?.getD undef = undef := g94
                                  clear g88 g94
                                  go_simp
                                  exact hKf _ _ (Below.refl _ _) rfl
                                | i + 27, h => exact absurd h (by show ¬ (i + 27 < 27); omega)
                              · intro af wF hbF hdF hsF hbaseF hfactF
                                obtain ⟨T, dsF⟩ := af
                                obtain rfl : dsF = _ := hdF
                                have e0 := hbaseF 0 (not_dst (by kernel_rfl))
                                simp only [List.getElem?_toArray, List.getElem?_cons_zero, Option.getD_some] at e0
                                have e1 := hbaseF 1 (not_dst (by kernel_rfl))
                                simp only [List.getElem?_toArray, List.getElem?_cons_zero, List.getElem?_cons_succ, Option.getD_some] at e1
                                have e2 := hbaseF 2 (not_dst (by kernel_rfl))
                                simp only [List.getElem?_toArray, List.getElem?_cons_zero, List.getElem?_cons_succ, Option.getD_some] at e2
                                have e3 := hbaseF 3 (not_dst (by kernel_rfl))
                                simp only [List.getElem?_toArray, List.getElem?_cons_zero, List.getElem?_cons_succ, Option.getD_some] at e3
                                have e4 := hbaseF 4 (not_dst (by kernel_rfl))
                                simp only [List.getElem?_toArray, List.getElem?_cons_zero, List.getElem?_cons_succ, Option.getD_some] at e4
                                have e5 := hbaseF 5 (not_dst (by kernel_rfl))
                                simp only [List.getElem?_toArray, List.getElem?_cons_zero, List.getElem?_cons_succ, Option.getD_some] at e5
                                have e6 := hbaseF 6 (not_dst (by kernel_rfl))
                                simp only [List.getElem?_toArray, List.getElem?_cons_zero, List.getElem?_cons_succ, Option.getD_some] at e6
                                have e7 := hbaseF 7 (not_dst (by kernel_rfl))
                                simp only [List.getElem?_toArray, List.getElem?_cons_zero, List.getElem?_cons_succ, Option.getD_some] at e7
                                have e8 := hbaseF 8 (not_dst (by kernel_rfl))
                                simp only [List.getElem?_toArray, List.getElem?_cons_zero, List.getElem?_cons_succ, Option.getD_some] at e8
                                have e9 := hbaseF 9 (not_dst (by kernel_rfl))
                                simp only [List.getElem?_toArray, List.getElem?_cons_zero, List.getElem?_cons_succ, Option.getD_some] at e9
                                have e10 := hbaseF 10 (not_dst (by kernel_rfl))
                                simp only [List.getElem?_toArray, List.getElem?_cons_zero, List.getElem?_cons_succ, Option.getD_some] at e10
                                have e11 := hbaseF 11 (not_dst (by kernel_rfl))
                                simp only [List.getElem?_toArray, List.getElem?_cons_zero, List.getElem?_cons_succ, Option.getD_some] at e11
                                have e12 := hbaseF 12 (not_dst (by kernel_rfl))
                                simp only [List.getElem?_toArray, List.getElem?_cons_zero, List.getElem?_cons_succ, Option.getD_some] at e12
                                have e13 := hbaseF 13 (not_dst (by kernel_rfl))
                                simp only [List.getElem?_toArray, List.getElem?_cons_zero, List.getElem?_cons_succ, Option.getD_some] at e13
                                have e14 := hbaseF 14 (not_dst (by kernel_rfl))
                                simp only [List.getElem?_toArray, List.getElem?_cons_zero, List.getElem?_cons_succ, Option.getD_some] at e14
                                have e15 := hbaseF 15 (not_dst (by kernel_rfl))
                                simp only [List.getElem?_toArray, List.getElem?_cons_zero, List.getElem?_cons_succ, Option.getD_some] at e15
                                have e16 := hbaseF 16 (not_dst (by kernel_rfl))
                                simp only [List.getElem?_toArray, List.getElem?_cons_zero, List.getElem?_cons_succ, Option.getD_some] at e16
                                have e17 := hbaseF 17 (not_dst (by kernel_rfl))
                                simp only [List.getElem?_toArray, List.getElem?_cons_zero, List.getElem?_cons_succ, Option.getD_some] at e17
                                have e18 := hbaseF 18 (not_dst (by kernel_rfl))
                                simp only [List.getElem?_toArray, List.getElem?_cons_zero, List.getElem?_cons_succ, Option.getD_some] at e18
                                have e19 := hbaseF 19 (not_dst (by kernel_rfl))
                                simp only [List.getElem?_toArray, List.getElem?_cons_zero, List.getElem?_cons_succ, Option.getD_some] at e19
                                have e20 := hbaseF 20 (not_dst (by kernel_rfl))
                                simp only [List.getElem?_toArray, List.getElem?_cons_zero, List.getElem?_cons_succ, Option.getD_some] at e20
                                have e21 := hbaseF 21 (not_dst (by kernel_rfl))
                                simp only [List.getElem?_toArray, List.getElem?_cons_zero, List.getElem?_cons_succ, Option.getD_some] at e21
                                have e22 := hbaseF 22 (not_dst (by kernel_rfl))
                                simp only [List.getElem?_toArray, List.getElem?_cons_zero, List.getElem?_cons_succ, Option.getD_some] at e22
                                have e23 := hbaseF 23 (not_dst (by kernel_rfl))
                                simp only [List.getElem?_toArray, List.getElem?_cons_zero, List.getElem?_cons_succ, Option.getD_some] at e23
                                have e24 := hbaseF 24 (not_dst (by kernel_rfl))
                                simp only [List.getElem?_toArray, List.getElem?_cons_zero, List.getElem?_cons_succ, Option.getD_some] at e24
                                have e25 := hbaseF 25 (not_dst (by kernel_rfl))
                                simp only [List.getElem?_toArray, List.getElem?_cons_zero, List.getElem?_cons_succ, Option.getD_some] at e25
                                have e26 := hbaseF 26 (not_dst (by kernel_rfl))
                                simp only [List.getElem?_toArray, List.getElem?_cons_zero, List.getElem?_cons_succ, Option.getD_some] at e26
                                have e27 := hbaseF 27 (not_dst (by kernel_rfl))
                                simp only [List.getElem?_toArray, List.getElem?_cons_zero, List.getElem?_cons_succ, Option.getD_some] at e27
                                have e28 := hbaseF 28 (not_dst (by kernel_rfl))
                                simp only [List.getElem?_toArray, List.getElem?_cons_zero, List.getElem?_cons_succ, Option.getD_some] at e28
                                have e29 := hbaseF 29 (not_dst (by kernel_rfl))
                                simp only [List.getElem?_toArray, List.getElem?_cons_zero, List.getElem?_cons_succ, Option.getD_some] at e29
                                have e30 := hbaseF 30 (not_dst (by kernel_rfl))
                                simp only [List.getElem?_toArray, List.getElem?_cons_zero, List.getElem?_cons_succ, Option.getD_some] at e30
                                have e31 := hbaseF 31 (not_dst (by kernel_rfl))
                                simp only [List.getElem?_toArray, List.getElem?_cons_zero, List.getElem?_cons_succ, Option.getD_some] at e31
                                have e32 := hbaseF 32 (not_dst (by kernel_rfl))
                                simp only [List.getElem?_toArray, List.getElem?_cons_zero, List.getElem?_cons_succ, Option.getD_some] at e32
                                have e33 := hbaseF 33 (not_dst (by kernel_rfl))
                                simp only [List.getElem?_toArray, List.getElem?_cons_zero, List.getElem?_cons_succ, Option.getD_some] at e33
                                have e34 := hbaseF 34 (not_dst (by kernel_rfl))
                                simp only [List.getElem?_toArray, List.getElem?_cons_zero, List.getElem?_cons_succ, Option.getD_some] at e34
                                have e35 := hbaseF 35 (not_dst (by kernel_rfl))
                                simp only [List.getElem?_toArray, List.getElem?_cons_zero, List.getElem?_cons_succ, Option.getD_some] at e35
                                have e36 := hbaseF 36 (not_dst (by kernel_rfl))
                                simp only [List.getElem?_toArray, List.getElem?_cons_zero, List.getElem?_cons_succ, Option.getD_some] at e36
                                have e37 := hbaseF 37 (not_dst (by kernel_rfl))
                                simp only [List.getElem?_toArray, List.getElem?_cons_zero, List.getElem?_cons_succ, Option.getD_some] at e37
                                have e38 := hbaseF 38 (not_dst (by kernel_rfl))
                                simp only [List.getElem?_toArray, List.getElem?_cons_zero, List.getElem?_cons_succ, Option.getD_some] at e38
                                have e39 := hbaseF 39 (not_dst (by kernel_rfl))
                                simp only [List.getElem?_toArray, List.getElem?_cons_zero, List.getElem?_cons_succ, Option.getD_some] at e39
                                have e40 := hbaseF 40 (not_dst (by kernel_rfl))
                                simp only [List.getElem?_toArray, List.getElem?_cons_zero, List.getElem?_cons_succ, Option.getD_some] at e40
                                have e41 := hbaseF 41 (not_dst (by kernel_rfl))
                                simp only [List.getElem?_toArray, List.getElem?_cons_zero, List.getElem?_cons_succ, Option.getD_some] at e41
                                have e42 := hbaseF 42 (not_dst (by kernel_rfl))
                                simp only [List.getElem?_toArray, List.getElem?_cons_zero, List.getElem?_cons_succ, Option.getD_some] at e42
                                have e43 := hbaseF 43 (not_dst (by kernel_rfl))
                                simp only [List.getElem?_toArray, List.getElem?_cons_zero, List.getElem?_cons_succ, Option.getD_some] at e43
                                have e44 := hbaseF 44 (not_dst (by kernel_rfl))
                                simp only [List.getElem?_toArray, List.getElem?_cons_zero, List.getElem?_cons_succ, Option.getD_some] at e44
                                have e45 := hbaseF 45 (not_dst (by kernel_rfl))
                                simp only [List.getElem?_toArray, List.getElem?_cons_zero, List.getElem?_cons_succ, Option.getD_some] at e45
                                have e46 := hbaseF 46 (not_dst (by kernel_rfl))
                                simp only [List.getElem?_toArray, List.getElem?_cons_zero, List.getElem?_cons_succ, Option.getD_some] at e46
                                have e47 := hbaseF 47 (not_dst (by kernel_rfl))
                                simp only [List.getElem?_toArray, List.getElem?_cons_zero, List.getElem?_cons_succ, Option.getD_some] at e47
                                have e48 := hbaseF 48 (not_dst (by kernel_rfl))
                                simp only [List.getElem?_toArray, List.getElem?_cons_zero, List.getElem?_cons_succ, Option.getD_some] at e48
                                have e49 := hbaseF 49 (not_dst (by kernel_rfl))
                                simp only [List.getElem?_toArray, List.getElem?_cons_zero, List.getElem?_cons_succ, Option.getD_some] at e49
                                have e50 := hbaseF 50 (not_dst (by kernel_rfl))
                                simp only [List.getElem?_toArray, List.getElem?_cons_zero, List.getElem?_cons_succ, Option.getD_some] at e50
                                have e51 := hbaseF 51 (not_dst (by kernel_rfl))
                                simp only [List.getElem?_toArray, List.getElem?_cons_zero, List.getElem?_cons_succ, Option.getD_some] at e51
                                have e52 := hbaseF 52 (not_dst (by kernel_rfl))
                                simp only [List.getElem?_toArray, List.getElem?_cons_zero, List.getElem?_cons_succ, Option.getD_some] at e52
                                have e53 := hbaseF 53 (not_dst (by kernel_rfl))
                                simp only [List.getElem?_toArray, List.getElem?_cons_zero, List.getElem?_cons_succ, Option.getD_some] at e53
                                have e54 := hbaseF 54 (not_dst (by kernel_rfl))
                                simp only [List.getElem?_toArray, List.getElem?_cons_zero, List.getElem?_cons_succ, Option.getD_some] at e54
                                have e55 := hbaseF 55 (not_dst (by kernel_rfl))
                                simp only [List.getElem?_toArray, List.getElem?_cons_zero, List.getElem?_cons_succ, Option.getD_some] at e55
                                have e56 := hbaseF 56 (not_dst (by kernel_rfl))
                                simp only [List.getElem?_toArray, List.getElem?_cons_zero, List.getElem?_cons_succ, Option.getD_some] at e56
                                have e57 := hbaseF 57 (not_dst (by kernel_rfl))
                                simp only [List.getElem?_toArray, List.getElem?_cons_zero, List.getElem?_cons_succ, Option.getD_some] at e57
                                have e58 := hbaseF 58 (not_dst (by kernel_rfl))
                                simp only [List.getElem?_toArray, List.getElem?_cons_zero, List.getElem?_cons_succ, Option.getD_some] at e58
                                have e59 := hbaseF 59 (not_dst (by kernel_rfl))
                                simp only [List.getElem?_toArray, List.getElem?_cons_zero, List.getElem?_cons_succ, Option.getD_some] at e59
                                have e60 := hbaseF 60 (not_dst (by kernel_rfl))
                                simp only [List.getElem?_toArray, List.getElem?_cons_zero, List.getElem?_cons_succ, Option.getD_some] at e60
                                have e61 := hbaseF 61 (not_dst (by kernel_rfl))
                                simp only [List.getElem?_toArray, List.getElem?_cons_zero, List.getElem?_cons_succ, Option.getD_some] at e61
                                have e62 := hbaseF 62 (not_dst (by kernel_rfl))
                                simp only [List.getElem?_toArray, List.getElem?_cons_zero, List.getElem?_cons_succ, Option.getD_some] at e62
                                have e63 := hbaseF 63 (not_dst (by kernel_rfl))
                                simp only [List.getElem?_toArray, List.getElem?_cons_zero, List.getElem?_cons_succ, Option.getD_some] at e63
                                have e64 := hbaseF 64 (not_dst (by kernel_rfl))
                                simp only [List.getElem?_toArray, List.getElem?_cons_zero, List.getElem?_cons_succ, Option.getD_some] at e64
                                have e65 := hbaseF 65 (not_dst (by kernel_rfl))
                                simp only [List.getElem?_toArray, List.getElem?_cons_zero, List.getElem?_cons_succ, Option.getD_some] at e65
                                have e66 := hbaseF 66 (not_dst (by kernel_rfl))
                                simp only [List.getElem?_toArray, List.getElem?_cons_zero, List.getElem?_cons_succ, Option.getD_some] at e66
                                have e67 := hbaseF 67 (not_dst (by kernel_rfl))
                                simp only [List.getElem?_toArray, List.getElem?_cons_zero, List.getElem?_cons_succ, Option.getD_some] at e67
                                have e68 := hbaseF 68 (not_dst (by kernel_rfl))
                                simp only [List.getElem?_toArray, List.getElem?_cons_zero, List.getElem?_cons_succ, Option.getD_some] at e68
                                have e96 := hbaseF 96 (not_dst (by kernel_rfl))
                                simp only [List.getElem?_toArray, List.getElem?_cons_zero, List.getElem?_cons_succ, Option.getD_some] at e96
                                have e97 := hbaseF 97 (not_dst (by kernel_rfl))
                                simp only [List.getElem?_toArray, List.getElem?_cons_zero, List.getElem?_cons_succ, Option.getD_some] at e97
                                have e98 := hbaseF 98 (not_dst (by kernel_rfl))
                                simp only [List.getElem?_toArray, List.getElem?_cons_zero, List.getElem?_cons_succ, Option.getD_some] at e98
                                have e99 := hbaseF 99 (not_dst (by kernel_rfl))
                                simp only [List.getElem?_toArray, List.getElem?_cons_zero, List.getElem?_cons_succ, Option.getD_some] at e99
                                have e100 := hbaseF 100 (not_dst (by kernel_rfl))
                                simp only [List.getElem?_toArray, List.getElem?_cons_zero, List.getElem?_cons_succ, Option.getD_some] at e100
                                have e101 := hbaseF 101 (not_dst (by kernel_rfl))
                                simp only [List.getElem?_toArray, List.getElem?_cons_zero, List.getElem?_cons_succ, Option.getD_some] at e101
                                have e102 := hbaseF 102 (not_dst (by kernel_rfl))
                                simp only [List.getElem?_toArray, List.getElem?_cons_zero, List.getElem?_cons_succ, Option.getD_some] at e102
                                have e103 := hbaseF 103 (not_dst (by kernel_rfl))
                                simp only [List.getElem?_toArray, List.getElem?_cons_zero, List.getElem?_cons_succ, Option.getD_some] at e103
                                have e104 := hbaseF 104 (not_dst (by kernel_rfl))
                                simp only [List.getElem?_toArray, List.getElem?_cons_zero, List.getElem?_cons_succ, Option.getD_some] at e104
                                have e105 := hbaseF 105 (not_dst (by kernel_rfl))
                                simp only [List.getElem?_toArray, List.getElem?_cons_zero, List.getElem?_cons_succ, Option.getD_some] at e105
                                have e106 := hbaseF 106 (not_dst (by kernel_rfl))
                                simp only [List.getElem?_toArray, List.getElem?_cons_zero, List.getElem?_cons_succ, Option.getD_some] at e106
                                have e107 := hbaseF 107 (not_dst (by kernel_rfl))
                                simp only [List.getElem?_toArray, List.getElem?_cons_zero, List.getElem?_cons_succ, Option.getD_some] at e107
                                have e108 := hbaseF 108 (not_dst (by kernel_rfl))
                                simp only [List.getElem?_toArray, List.getElem?_cons_zero, List.getElem?_cons_succ, Option.getD_some] at e108
                                have e109 := hbaseF 109 (not_dst (by kernel_rfl))
                                simp only [List.getElem?_toArray, List.getElem?_cons_zero, List.getElem?_cons_succ, Option.getD_some] at e109
                                have e110 := hbaseF 110 (not_dst (by kernel_rfl))
                                simp only [List.getElem?_toArray, List.getElem?_cons_zero, List.getElem?_cons_succ, Option.getD_some] at e110
                                have e111 := hbaseF 111 (not_dst (by kernel_rfl))
                                simp only [List.getElem?_toArray, List.getElem?_cons_zero, List.getElem?_cons_succ, Option.getD_some] at e111
                                have e112 := hbaseF 112 (not_dst (by kernel_rfl))
                                simp only [List.getElem?_toArray, List.getElem?_cons_zero, List.getElem?_cons_succ, Option.getD_some] at e112
                                have e113 := hbaseF 113 (not_dst (by kernel_rfl))
                                simp only [List.getElem?_toArray, List.getElem?_cons_zero, List.getElem?_cons_succ, Option.getD_some] at e113
                                have e114 := hbaseF 114 (not_dst (by kernel_rfl))
                                simp only [List.getElem?_toArray, List.getElem?_cons_zero, List.getElem?_cons_succ, Option.getD_some] at e114
                                have e115 := hbaseF 115 (not_dst (by kernel_rfl))
                                simp only [List.getElem?_toArray, List.getElem?_cons_zero, List.getElem?_cons_succ, Option.getD_some] at e115
                                have e95 := hfactF 26 95 (by decide) rfl
                                replace e95 : T[95]?.getD undef = .bool false := e95
                                clear hbaseF hfactF
                                have hT : T = #[T[0]?.getD undef, T[1]?.getD undef, T[2]?.getD undef, T[3]?.getD undef, T[4]?.getD undef, T[5]?.getD undef, T[6]?.getD undef, T[7]?.getD undef, T[8]?.getD undef, T[9]?.getD undef, T[10]?.getD undef, T[11]?.getD undef, T[12]?.getD undef, T[13]?.getD undef, T[14]?.getD undef, T[15]?.getD undef, T[16]?.getD undef, T[17]?.getD undef, T[18]?.getD undef, T[19]?.getD undef, T[20]?.getD undef, T[21]?.getD undef, T[22]?.getD undef, T[23]?.getD undef, T[24]?.getD undef, T[25]?.getD undef, T[26]?.getD undef, T[27]?.getD undef, T[28]?.getD undef, T[29]?.getD undef, T[30]?.getD undef, T[31]?.getD undef, T[32]?.getD undef, T[33]?.getD undef, T[34]?.getD undef, T[35]?.getD undef, T[36]?.getD undef, T[37]?.getD undef, T[38]?.getD undef, T[39]?.getD undef, T[40]?.getD undef, T[41]?.getD undef, T[42]?.getD undef, T[43]?.getD undef, T[44]?.getD undef, T[45]?.getD undef, T[46]?.getD undef, T[47]?.getD undef, T[48]?.getD undef, T[49]?.getD undef, T[50]?.getD undef, T[51]?.getD undef, T[52]?.getD undef, T[53]?.getD undef, T[54]?.getD undef, T[55]?.getD undef, T[56]?.getD undef, T[57]?.getD undef, T[58]?.getD undef, T[59]?.getD undef, T[60]?.getD undef, T[61]?.getD undef, T[62]?.getD undef, T[63]?.getD undef, T[64]?.getD undef, T[65]?.getD undef, T[66]?.getD undef, T[67]?.getD undef, T[68]?.getD undef, T[69]?.getD undef, T[70]?.getD undef, T[71]?.getD undef, T[72]?.getD undef, T[73]?.getD undef, T[74]?.getD undef, T[75]?.getD undef, T[76]?.getD undef, T[77]?.getD undef, T[78]?.getD undef, T[79]?.getD undef, T[80]?.getD undef, T[81]?.getD undef, T[82]?.getD undef, T[83]?.getD undef, T[84]?.getD undef, T[85]?.getD undef, T[86]?.getD undef, T[87]?.getD undef, T[88]?.getD undef, T[89]?.getD undef, T[90]?.getD undef, T[91]?.getD undef, T[92]?.getD undef, T[93]?.getD undef, T[94]?.getD undef, T[95]?.getD undef, T[96]?.getD undef, T[97]?.getD undef, T[98]?.getD undef, T[99]?.getD undef, T[100]?.getD undef, T[101]?.getD undef, T[102]?.getD undef, T[103]?.getD undef, T[104]?.getD undef, T[105]?.getD undef, T[106]?.getD undef, T[107]?.getD undef, T[108]?.getD undef, T[109]?.getD undef, T[110]?.getD undef, T[111]?.getD undef, T[112]?.getD undef, T[113]?.getD undef, T[114]?.getD undef, T[115]?.getD undef] := arr_eq T 116 hsF
                                clear hsF
                                rw [e0] at hT; clear e0
                                rw [e1] at hT; clear e1
                                rw [e2] at hT; clear e2
                                rw [e3] at hT; clear e3
                                rw [e4] at hT; clear e4
                                rw [e5] at hT; clear e5
                                rw [e6] at hT; clear e6
                                rw [e7] at hT; clear e7
                                rw [e8] at hT; clear e8
                                rw [e9] at hT; clear e9
                                rw [e10] at hT; clear e10
                                rw [e11] at hT; clear e11
                                rw [e12] at hT; clear e12
                                rw [e13] at hT; clear e13
                                rw [e14] at hT; clear e14
                                rw [e15] at hT; clear e15
                                rw [e16] at hT; clear e16
                                rw [e17] at hT; clear e17
                                rw [e18] at hT; clear e18
                                rw [e19] at hT; clear e19
                                rw [e20] at hT; clear e20
                                rw [e21] at hT; clear e21
                                rw [e22] at hT; clear e22
                                rw [e23] at hT; clear e23
                                rw [e24] at hT; clear e24
                                rw [e25] at hT; clear e25
                                rw [e26] at hT; clear e26
                                rw [e27] at hT; clear e27
                                rw [e28] at hT; clear e28
                                rw [e29] at hT; clear e29
                                rw [e30] at hT; clear e30
                                rw [e31] at hT; clear e31
                                rw [e32] at hT; clear e32
                                rw [e33] at hT; clear e33
                                rw [e34] at hT; clear e34
                                rw [e35] at hT; clear e35
                                rw [e36] at hT; clear e36
                                rw [e37] at hT; clear e37
                                rw [e38] at hT; clear e38
                                rw [e39] at hT; clear e39
                                rw [e40] at hT; clear e40
                                rw [e41] at hT; clear e41
                                rw [e42] at hT; clear e42
                                rw [e43] at hT; clear e43
                                rw [e44] at hT; clear e44
                                rw [e45] at hT; clear e45
                                rw [e46] at hT; clear e46
                                rw [e47] at hT; clear e47
                                rw [e48] at hT; clear e48
                                rw [e49] at hT; clear e49
                                rw [e50] at hT; clear e50
                                rw [e51] at hT; clear e51
                                rw [e52] at hT; clear e52
                                rw [e53] at hT; clear e53
                                rw [e54] at hT; clear e54
                                rw [e55] at hT; clear e55
                                rw [e56] at hT; clear e56
                                rw [e57] at hT; clear e57
                                rw [e58] at hT; clear e58
                                rw [e59] at hT; clear e59
                                rw [e60] at hT; clear e60
                                rw [e61] at hT; clear e61
                                rw [e62] at hT; clear e62
                                rw [e63] at hT; clear e63
                                rw [e64] at hT; clear e64
                                rw [e65] at hT; clear e65
                                rw [e66] at hT; clear e66
                                rw [e67] at hT; clear e67
                                rw [e68] at hT; clear e68
                                generalize T[69]?.getD undef = u69 at hT
                                generalize T[70]?.getD undef = u70 at hT
                                generalize T[71]?.getD undef = u71 at hT
                                generalize T[72]?.getD undef = u72 at hT
                                generalize T[73]?.getD undef = u73 at hT
                                generalize T[74]?.getD undef = u74 at hT
                                generalize T[75]?.getD undef = u75 at hT
                                generalize T[76]?.getD undef = u76 at hT
                                generalize T[77]?.getD undef = u77 at hT
                                generalize T[78]?.getD undef = u78 at hT
                                generalize T[79]?.getD undef = u79 at hT
                                generalize T[80]?.getD undef = u80 at hT
                                generalize T[81]?.getD undef = u81 at hT
                                generalize T[82]?.getD undef = u82 at hT
                                generalize T[83]?.getD undef = u83 at hT
                                generalize T[84]?.getD undef = u84 at hT
                                generalize T[85]?.getD undef = u85 at hT
                                generalize T[86]?.getD undef = u86 at hT
                                generalize T[87]?.getD undef = u87 at hT
                                generalize T[88]?.getD undef = u88 at hT
                                generalize T[89]?.getD undef = u89 at hT
                                generalize T[90]?.getD undef = u90 at hT
                                generalize T[91]?.getD undef = u91 at hT
                                generalize T[92]?.getD undef = u92 at hT
                                generalize T[93]?.getD undef = u93 at hT
                                generalize T[94]?.getD undef = u94 at hT
                                rw [e95] at hT; clear e95
                                rw [e96] at hT; clear e96
                                rw [e97] at hT; clear e97
                                rw [e98] at hT; clear e98
                                rw [e99] at hT; clear e99
                                rw [e100] at hT; clear e100
                                rw [e101] at hT; clear e101
                                rw [e102] at hT; clear e102
                                rw [e103] at hT; clear e103
                                rw [e104] at hT; clear e104
                                rw [e105] at hT; clear e105
                                rw [e106] at hT; clear e106
                                rw [e107] at hT; clear e107
                                rw [e108] at hT; clear e108
                                rw [e109] at hT; clear e109
                                rw [e110] at hT; clear e110
                                rw [e111] at hT; clear e111
                                rw [e112] at hT; clear e112
                                rw [e113] at hT; clear e113
                                rw [e114] at hT; clear e114
                                rw [e115] at hT; clear e115
                                subst hT
                                go_wp2_with fail
                                go_roundw
                                case rel =>
                                  obtain ⟨m1, m2, m3⟩ := HM.out
                                  refine ⟨Q + 1, by omega, by omega, by go_num, ?_, (hxi.alloc _).on hbF, ?_, (hRi.below (by (repeat (first | exact Below.refl _ _ | (refine Below.setCell ?_ (by first | omega | (simp; omega) | simp) _) | (refine Below.alloc ?_ (by first | omega | (simp; omega) | simp) _) | apply Below.drew | apply below_drewN)))).below hbF, (by (have q_hbF := Below.size hbF; (try simp at q_hbF); have q_hbi := Below.size hbi; (try simp at q_hbi); repeat (first | exact Below.refl _ _ | (refine Below.trans ?_ (Below.mono hbF (by first | omega | (simp; omega) | simp))) | (refine Below.trans ?_ (Below.mono hbi (by first | omega | (simp; omega) | simp))) | (refine Below.setCell ?_ (by first | omega | (simp; omega) | simp) _) | (refine Below.alloc ?_ (by first | omega | (simp; omega) | simp) _) | apply Below.drew | apply below_drewN)))⟩
                                  · rw [show ((Q + 1 : Nat) : Int) = (Q : Int) + 1 from by omega, m1]
                                  · rw [show ((Q + 1 : Nat) : Int) = (Q : Int) + 1 from by omega, m2, m3]; exact (hwi.alloc _).on hbF
                                case measure => simp [intOf] <;> omega
                          · have hq10 : ((x10.toNat : Int) == (P : Int)) = false := by simp; omega
                            clear h10
                            refine wp_flows [(fun y_ _ => y_ = .slice (some ⟨ba, off, none⟩) 256 c), (fun y_ _ => y_ = .int .i64 256), (fun y_ _ => y_ = .bool true), (fun y_ _ => y_ = .bool true), (fun y_ _ => y_ = .slice (some ⟨ba, off, none⟩) 256 c), (fun y_ _ => y_ = .pointer (some ⟨ba, off + 10, none⟩)), (fun y_ _ => y_ = .int .u8 (x10.toNat : Int)), (fun y_ _ => y_ = .int .i64 (P : Int)), (fun y_ _ => y_ = .int .u8 (P : Int)), (fun y_ _ => y_ = .bool false), (fun y_ _ => y_ = .bool false), (fun y_ _ => y_ = .bool false), (fun y_ _ => y_ = undef), (fun y_ _ => y_ = undef), (fun y_ _ => y_ = undef), (fun y_ _ => y_ = undef), (fun y_ _ => y_ = undef), (fun y_ _ => y_ = undef), (fun y_ _ => y_ = .bool false), (fun y_ _ => y_ = .bool false), (fun y_ _ => y_ = undef), (fun y_ _ => y_ = undef), (fun y_ _ => y_ = undef), (fun y_ _ => y_ = undef), (fun y_ _ => y_ = undef), (fun y_ _ => y_ = undef), (fun y_ _ => y_ = .bool false)] (by kernel_rfl) ⟨Stab.eq _, Stab.eq _, Stab.eq _, Stab.eq _, Stab.eq _, Stab.eq _, Stab.eq _, Stab.eq _, Stab.eq _, Stab.eq _, Stab.eq _, Stab.eq _, Stab.eq _, Stab.eq _, Stab.eq _, Stab.eq _, Stab.eq _, Stab.eq _, Stab.eq _, Stab.eq _, Stab.eq _, Stab.eq _, Stab.eq _, Stab.eq _, Stab.eq _, Stab.eq _, Stab.eq _, trivial⟩ (by kernel_rfl) (by rfl) ?_ ?_
                            · intro kq hkq
                              match kq, hkq with
                              | 0, _ =>
                                refine StepOk.plain _ 69 rfl rfl rfl [(11, none)] (by kernel_rfl) (fun af wf hbw hf Kf hKf => ?_)
                                obtain ⟨g11, _⟩ := hf
                                have h11 : af.tmps[11]?.getD undef = .slice (some ⟨ba, off, none⟩) 256 c := g11
                                clear g11
                                go_simp
                                exact hKf _ _ (Below.refl _ _) rfl
                              | 1, _ =>
                                refine StepOk.plain _ 70 rfl rfl rfl [(69, some 0)] (by kernel_rfl) (fun af wf hbw hf Kf hKf => ?_)
                                obtain ⟨g69, _⟩ := hf
                                have h69 : af.tmps[69]?.getD undef = .slice (some ⟨ba, off, none⟩) 256 c := g69
                                clear g69
                                go_simp
                                exact hKf _ _ (Below.refl _ _) rfl
                              | 2, _ =>
                                refine StepOk.plain _ 71 rfl rfl rfl [(70, some 1)] (by kernel_rfl) (fun af wf hbw hf Kf hKf => ?_)
                                obtain ⟨g70, _⟩ := hf
                                have h70 : af.tmps[70]?.getD undef = .int .i64 256 := g70
                                clear g70
                                go_simp
                                exact hKf _ _ (Below.refl _ _) rfl
                              | 3, _ =>
                                refine StepOk.plain _ 72 rfl rfl rfl [(71, some 2)] (by kernel_rfl) (fun af wf hbw hf Kf hKf => ?_)
                                obtain ⟨g71, _⟩ := hf
                                have h71 : af.tmps[71]?.getD undef = .bool true := g71
                                clear g71
                                go_simp
                                exact hKf _ _ (Below.refl _ _) rfl
                              | 4, _ =>
                                refine StepOk.yes _ 73 rfl rfl rfl rfl (fun _ _ h => h) [(11, none)] (by kernel_rfl) (fun af wf hbw hf Kf hKf => ?_)
                                obtain ⟨g11, _⟩ := hf
                                have h11 : af.tmps[11]?.getD undef = .slice (some ⟨ba, off, none⟩) 256 c := g11
                                clear g11
                                go_simp
                                exact hKf _ _ (Below.refl _ _) rfl
                              | 5, _ =>
                                refine StepOk.yes _ 74 rfl rfl rfl rfl (fun _ _ h => h) [(73, some 4)] (by kernel_rfl) (fun af wf hbw hf Kf hKf => ?_)
                                obtain ⟨g73, _⟩ := hf
                                have h73 : af.tmps[73]?.getD undef = .slice (some ⟨ba, off, none⟩) 256 c := g73
                                clear g73
                                have hq5 : (0 : Int) ≤ 10 := by omega
                                go_simp
                                exact hKf _ _ (Below.refl _ _) rfl
                              | 6, _ =>
                                refine StepOk.yes _ 75 rfl rfl rfl rfl (fun _ _ h => h) [(74, some 5)] (by kernel_rfl) (fun af wf hbw hf Kf hKf => ?_)
                                obtain ⟨g74, _⟩ := hf
                                have h74 : af.tmps[74]?.getD undef = .pointer (some ⟨ba, off + 10, none⟩) := g74
                                clear g74
                                have cB0 := (Blk.on (Blk.drew (Bo)) hbw).cell
                                have hcx := (Below.cell (p := ⟨ba, off + 10, none⟩) hbw hba).trans hc10
                                go_simp
                                exact hKf _ _ (Below.refl _ _) rfl
                              | 7, _ =>
                                refine StepOk.yes _ 76 rfl rfl rfl rfl (fun _ _ h => h) [(16, none)] (by kernel_rfl) (fun af wf hbw hf Kf hKf => ?_)
                                obtain ⟨g16, _⟩ := hf
                                have h16 : af.tmps[16]?.getD undef = .int .i64 (P : Int) := g16
                                clear g16
                                go_simp
                                exact hKf _ _ (Below.refl _ _) rfl
                              | 8, _ =>
                                refine StepOk.yes _ 77 rfl rfl rfl rfl (fun _ _ h => h) [(76, some 7)] (by kernel_rfl) (fun af wf hbw hf Kf hKf => ?_)
                                obtain ⟨g76, _⟩ := hf
                                have h76 : af.tmps[76]?.getD undef = .int .i64 (P : Int) := g76
                                clear g76
                                have hwu : IntKind.u8.wrap (P : Int) = (P : Int) := by simp [IntKind.wrap, IntKind.signed, IntKind.bits]; omega
                                go_simp
                                exact hKf _ _ (Below.refl _ _) rfl
                              | 9, _ =>
                                refine StepOk.yes _ 78 rfl rfl rfl rfl (fun _ _ h => h) [(75, some 6), (77, some 8)] (by kernel_rfl) (fun af wf hbw hf Kf hKf => ?_)
                                obtain ⟨g75, g77, _⟩ := hf
                                have h75 : af.tmps[75]?.getD undef = .int .u8 (x10.toNat : Int) := g75
                                have h77 : af.tmps[77]?.getD undef = .int .u8 (P : Int) := g77
                                clear g75 g77
                                go_simp
                                exact hKf _ _ (Below.refl _ _) rfl
                              | 10, _ =>
                                refine StepOk.plain _ 79 rfl rfl rfl [(72, some 3), (78, some 9)] (by kernel_rfl) (fun af wf hbw hf Kf hKf => ?_)
                                obtain ⟨g72, g78, _⟩ := hf
                                have h72 : af.tmps[72]?.getD undef = .bool true := g72
                                have h78 : af.tmps[78]?.getD undef = .bool false := g78
                                clear g72 g78
                                go_simp
                                exact hKf _ _ (Below.refl _ _) rfl
                              | 11, _ =>
                                refine StepOk.plain _ 80 rfl rfl rfl [(79, some 10)] (by kernel_rfl) (fun af wf hbw hf Kf hKf => ?_)
                                obtain ⟨g79, _⟩ := hf
                                have h79 : af.tmps[79]?.getD undef = .bool false := g79
                                clear g79
                                go_simp
                                exact hKf _ _ (Below.refl _ _) rfl
                              | 12, _ => exact StepOk.no _ 81 rfl rfl rfl rfl (fun _ _ h => h) (by decide) (by kernel_rfl) (fun _ => rfl)
                              | 13, _ => exact StepOk.no _ 82 rfl rfl rfl rfl (fun _ _ h => h) (by decide) (by kernel_rfl) (fun _ => rfl)
                              | 14, _ => exact StepOk.no _ 83 rfl rfl rfl rfl (fun _ _ h => h) (by decide) (by kernel_rfl) (fun _ => rfl)
                              | 15, _ => exact StepOk.no _ 84 rfl rfl rfl rfl (fun _ _ h => h) (by decide) (by kernel_rfl) (fun _ => rfl)
                              | 16, _ => exact StepOk.no _ 85 rfl rfl rfl rfl (fun _ _ h => h) (by decide) (by kernel_rfl) (fun _ => rfl)
                              | 17, _ => exact StepOk.no _ 86 rfl rfl rfl rfl (fun _ _ h => h) (by decide) (by kernel_rfl) (fun _ => rfl)
                              | 18, _ =>
                                refine StepOk.plain _ 87 rfl rfl rfl [(80, some 11), (86, some 17)] (by kernel_rfl) (fun af wf hbw hf Kf hKf => ?_)
                                obtain ⟨g80, g86, _⟩ := hf
                                have h80 : af.tmps[80]?.getD undef = .bool false := g80
                                have h86 : af.tmps[86]?.getD undef = undef := g86
                                clear g80 g86
                                go_simp
                                exact hKf _ _ (Below.refl _ _) rfl
                              | 19, _ =>
                                refine StepOk.plain _ 88 rfl rfl rfl [(87, some 18)] (by kernel_rfl) (fun af wf hbw hf Kf hKf => ?_)
                                obtain ⟨g87, _⟩ := hf
                                have h87 : af.tmps[87]?.getD undef = .bool false := g87
                                clear g87
                                go_simp
                                exact hKf _ _ (Below.refl _ _) rfl
                              | 20, _ => exact StepOk.no _ 89 rfl rfl rfl rfl (fun _ _ h => h) (by decide) (by kernel_rfl) (fun _ => rfl)
                              | 21, _ => exact StepOk.no _ 90 rfl rfl rfl rfl (fun _ _ h => h) (by decide) (by kernel_rfl) (fun _ => rfl)
                              | 22, _ => exact StepOk.no _ 91 rfl rfl rfl rfl (fun _ _ h => h) (by decide) (by kernel_rfl) (fun _ => rfl)
                              | 23, _ => exact StepOk.no _ 92 rfl rfl rfl rfl (fun _ _ h => h) (by decide) (by kernel_rfl) (fun _ => rfl)
                              | 24, _ => exact StepOk.no _ 93 rfl rfl rfl rfl (fun _ _ h => h) (by decide) (by kernel_rfl) (fun _ => rfl)
                              | 25, _ => exact StepOk.no _ 94 rfl rfl rfl rfl (fun _ _ h => h) (by decide) (by kernel_rfl) (fun _ => rfl)
                              | 26, _ =>
                                refine StepOk.plain _ 95 rfl rfl rfl [(88, some 19), (94, some 25)] (by kernel_rfl) (fun af wf hbw hf Kf hKf => ?_)
                                obtain ⟨g88, g94, _⟩ := hf
                                have h88 : af.tmps[88]?.getD undef = .bool false := g88
                                have h94 : af.tmps[94]?.getD undef = undef := g94
                                clear g88 g94
                                go_simp
                                exact hKf _ _ (Below.refl _ _) rfl
                              | i + 27, h => exact absurd h (by show ¬ (i + 27 < 27); omega)
                            · intro af wF hbF hdF hsF hbaseF hfactF
                              obtain ⟨T, dsF⟩ := af
                              obtain rfl : dsF = _ := hdF
                              have e0 := hbaseF 0 (not_dst (by kernel_rfl))
                              simp only [List.getElem?_toArray, List.getElem?_cons_zero, Option.getD_some] at e0
                              have e1 := hbaseF 1 (not_dst (by kernel_rfl))
                              simp only [List.getElem?_toArray, List.getElem?_cons_zero, List.getElem?_cons_succ, Option.getD_some] at e1
                              have e2 := hbaseF 2 (not_dst (by kernel_rfl))
                              simp only [List.getElem?_toArray, List.getElem?_cons_zero, List.getElem?_cons_succ, Option.getD_some] at e2
                              have e3 := hbaseF 3 (not_dst (by kernel_rfl))
                              simp only [List.getElem?_toArray, List.getElem?_cons_zero, List.getElem?_cons_succ, Option.getD_some] at e3
                              have e4 := hbaseF 4 (not_dst (by kernel_rfl))
                              simp only [List.getElem?_toArray, List.getElem?_cons_zero, List.getElem?_cons_succ, Option.getD_some] at e4
                              have e5 := hbaseF 5 (not_dst (by kernel_rfl))
                              simp only [List.getElem?_toArray, List.getElem?_cons_zero, List.getElem?_cons_succ, Option.getD_some] at e5
                              have e6 := hbaseF 6 (not_dst (by kernel_rfl))
                              simp only [List.getElem?_toArray, List.getElem?_cons_zero, List.getElem?_cons_succ, Option.getD_some] at e6
                              have e7 := hbaseF 7 (not_dst (by kernel_rfl))
                              simp only [List.getElem?_toArray, List.getElem?_cons_zero, List.getElem?_cons_succ, Option.getD_some] at e7
                              have e8 := hbaseF 8 (not_dst (by kernel_rfl))
                              simp only [List.getElem?_toArray, List.getElem?_cons_zero, List.getElem?_cons_succ, Option.getD_some] at e8
                              have e9 := hbaseF 9 (not_dst (by kernel_rfl))
                              simp only [List.getElem?_toArray, List.getElem?_cons_zero, List.getElem?_cons_succ, Option.getD_some] at e9
                              have e10 := hbaseF 10 (not_dst (by kernel_rfl))
                              simp only [List.getElem?_toArray, List.getElem?_cons_zero, List.getElem?_cons_succ, Option.getD_some] at e10
                              have e11 := hbaseF 11 (not_dst (by kernel_rfl))
                              simp only [List.getElem?_toArray, List.getElem?_cons_zero, List.getElem?_cons_succ, Option.getD_some] at e11
                              have e12 := hbaseF 12 (not_dst (by kernel_rfl))
                              simp only [List.getElem?_toArray, List.getElem?_cons_zero, List.getElem?_cons_succ, Option.getD_some] at e12
                              have e13 := hbaseF 13 (not_dst (by kernel_rfl))
                              simp only [List.getElem?_toArray, List.getElem?_cons_zero, List.getElem?_cons_succ, Option.getD_some] at e13
                              have e14 := hbaseF 14 (not_dst (by kernel_rfl))
                              simp only [List.getElem?_toArray, List.getElem?_cons_zero, List.getElem?_cons_succ, Option.getD_some] at e14
                              have e15 := hbaseF 15 (not_dst (by kernel_rfl))
                              simp only [List.getElem?_toArray, List.getElem?_cons_zero, List.getElem?_cons_succ, Option.getD_some] at e15
                              have e16 := hbaseF 16 (not_dst (by kernel_rfl))
                              simp only [List.getElem?_toArray, List.getElem?_cons_zero, List.getElem?_cons_succ, Option.getD_some] at e16
                              have e17 := hbaseF 17 (not_dst (by kernel_rfl))
                              simp only [List.getElem?_toArray, List.getElem?_cons_zero, List.getElem?_cons_succ, Option.getD_some] at e17
                              have e18 := hbaseF 18 (not_dst (by kernel_rfl))
                              simp only [List.getElem?_toArray, List.getElem?_cons_zero, List.getElem?_cons_succ, Option.getD_some] at e18
                              have e19 := hbaseF 19 (not_dst (by kernel_rfl))
                              simp only [List.getElem?_toArray, List.getElem?_cons_zero, List.getElem?_cons_succ, Option.getD_some] at e19
                              have e20 := hbaseF 20 (not_dst (by kernel_rfl))
                              simp only [List.getElem?_toArray, List.getElem?_cons_zero, List.getElem?_cons_succ, Option.getD_some] at e20
                              have e21 := hbaseF 21 (not_dst (by kernel_rfl))
                              simp only [List.getElem?_toArray, List.getElem?_cons_zero, List.getElem?_cons_succ, Option.getD_some] at e21
                              have e22 := hbaseF 22 (not_dst (by kernel_rfl))
                              simp only [List.getElem?_toArray, List.getElem?_cons_zero, List.getElem?_cons_succ, Option.getD_some] at e22
                              have e23 := hbaseF 23 (not_dst (by kernel_rfl))
                              simp only [List.getElem?_toArray, List.getElem?_cons_zero, List.getElem?_cons_succ, Option.getD_some] at e23
                              have e24 := hbaseF 24 (not_dst (by kernel_rfl))
                              simp only [List.getElem?_toArray, List.getElem?_cons_zero, List.getElem?_cons_succ, Option.getD_some] at e24
                              have e25 := hbaseF 25 (not_dst (by kernel_rfl))
                              simp only [List.getElem?_toArray, List.getElem?_cons_zero, List.getElem?_cons_succ, Option.getD_some] at e25
                              have e26 := hbaseF 26 (not_dst (by kernel_rfl))
                              simp only [List.getElem?_toArray, List.getElem?_cons_zero, List.getElem?_cons_succ, Option.getD_some] at e26
                              have e27 := hbaseF 27 (not_dst (by kernel_rfl))
                              simp only [List.getElem?_toArray, List.getElem?_cons_zero, List.getElem?_cons_succ, Option.getD_some] at e27
                              have e28 := hbaseF 28 (not_dst (by kernel_rfl))
                              simp only [List.getElem?_toArray, List.getElem?_cons_zero, List.getElem?_cons_succ, Option.getD_some] at e28
                              have e29 := hbaseF 29 (not_dst (by kernel_rfl))
                              simp only [List.getElem?_toArray, List.getElem?_cons_zero, List.getElem?_cons_succ, Option.getD_some] at e29
                              have e30 := hbaseF 30 (not_dst (by kernel_rfl))
                              simp only [List.getElem?_toArray, List.getElem?_cons_zero, List.getElem?_cons_succ, Option.getD_some] at e30
                              have e31 := hbaseF 31 (not_dst (by kernel_rfl))
                              simp only [List.getElem?_toArray, List.getElem?_cons_zero, List.getElem?_cons_succ, Option.getD_some] at e31
                              have e32 := hbaseF 32 (not_dst (by kernel_rfl))
                              simp only [List.getElem?_toArray, List.getElem?_cons_zero, List.getElem?_cons_succ, Option.getD_some] at e32
                              have e33 := hbaseF 33 (not_dst (by kernel_rfl))
                              simp only [List.getElem?_toArray, List.getElem?_cons_zero, List.getElem?_cons_succ, Option.getD_some] at e33
                              have e34 := hbaseF 34 (not_dst (by kernel_rfl))
                              simp only [List.getElem?_toArray, List.getElem?_cons_zero, List.getElem?_cons_succ, Option.getD_some] at e34
                              have e35 := hbaseF 35 (not_dst (by kernel_rfl))
                              simp only [List.getElem?_toArray, List.getElem?_cons_zero, List.getElem?_cons_succ, Option.getD_some] at e35
                              have e36 := hbaseF 36 (not_dst (by kernel_rfl))
                              simp only [List.getElem?_toArray, List.getElem?_cons_zero, List.getElem?_cons_succ, Option.getD_some] at e36
                              have e37 := hbaseF 37 (not_dst (by kernel_rfl))
                              simp only [List.getElem?_toArray, List.getElem?_cons_zero, List.getElem?_cons_succ, Option.getD_some] at e37
                              have e38 := hbaseF 38 (not_dst (by kernel_rfl))
                              simp only [List.getElem?_toArray, List.getElem?_cons_zero, List.getElem?_cons_succ, Option.getD_some] at e38
                              have e39 := hbaseF 39 (not_dst (by kernel_rfl))
                              simp only [List.getElem?_toArray, List.getElem?_cons_zero, List.getElem?_cons_succ, Option.getD_some] at e39
                              have e40 := hbaseF 40 (not_dst (by kernel_rfl))
                              simp only [List.getElem?_toArray, List.getElem?_cons_zero, List.getElem?_cons_succ, Option.getD_some] at e40
                              have e41 := hbaseF 41 (not_dst (by kernel_rfl))
                              simp only [List.getElem?_toArray, List.getElem?_cons_zero, List.getElem?_cons_succ, Option.getD_some] at e41
                              have e42 := hbaseF 42 (not_dst (by kernel_rfl))
                              simp only [List.getElem?_toArray, List.getElem?_cons_zero, List.getElem?_cons_succ, Option.getD_some] at e42
                              have e43 := hbaseF 43 (not_dst (by kernel_rfl))
                              simp only [List.getElem?_toArray, List.getElem?_cons_zero, List.getElem?_cons_succ, Option.getD_some] at e43
                              have e44 := hbaseF 44 (not_dst (by kernel_rfl))
                              simp only [List.getElem?_toArray, List.getElem?_cons_zero, List.getElem?_cons_succ, Option.getD_some] at e44
                              have e45 := hbaseF 45 (not_dst (by kernel_rfl))
                              simp only [List.getElem?_toArray, List.getElem?_cons_zero, List.getElem?_cons_succ, Option.getD_some] at e45
                              have e46 := hbaseF 46 (not_dst (by kernel_rfl))
                              simp only [List.getElem?_toArray, List.getElem?_cons_zero, List.getElem?_cons_succ, Option.getD_some] at e46
                              have e47 := hbaseF 47 (not_dst (by kernel_rfl))
                              simp only [List.getElem?_toArray, List.getElem?_cons_zero, List.getElem?_cons_succ, Option.getD_some] at e47
                              have e48 := hbaseF 48 (not_dst (by kernel_rfl))
                              simp only [List.getElem?_toArray, List.getElem?_cons_zero, List.getElem?_cons_succ, Option.getD_some] at e48
                              have e49 := hbaseF 49 (not_dst (by kernel_rfl))
                              simp only [List.getElem?_toArray, List.getElem?_cons_zero, List.getElem?_cons_succ, Option.getD_some] at e49
                              have e50 := hbaseF 50 (not_dst (by kernel_rfl))
                              simp only [List.getElem?_toArray, List.getElem?_cons_zero, List.getElem?_cons_succ, Option.getD_some] at e50
                              have e51 := hbaseF 51 (not_dst (by kernel_rfl))
                              simp only [List.getElem?_toArray, List.getElem?_cons_zero, List.getElem?_cons_succ, Option.getD_some] at e51
                              have e52 := hbaseF 52 (not_dst (by kernel_rfl))
                              simp only [List.getElem?_toArray, List.getElem?_cons_zero, List.getElem?_cons_succ, Option.getD_some] at e52
                              have e53 := hbaseF 53 (not_dst (by kernel_rfl))
                              simp only [List.getElem?_toArray, List.getElem?_cons_zero, List.getElem?_cons_succ, Option.getD_some] at e53
                              have e54 := hbaseF 54 (not_dst (by kernel_rfl))
                              simp only [List.getElem?_toArray, List.getElem?_cons_zero, List.getElem?_cons_succ, Option.getD_some] at e54
                              have e55 := hbaseF 55 (not_dst (by kernel_rfl))
                              simp only [List.getElem?_toArray, List.getElem?_cons_zero, List.getElem?_cons_succ, Option.getD_some] at e55
                              have e56 := hbaseF 56 (not_dst (by kernel_rfl))
                              simp only [List.getElem?_toArray, List.getElem?_cons_zero, List.getElem?_cons_succ, Option.getD_some] at e56
                              have e57 := hbaseF 57 (not_dst (by kernel_rfl))
                              simp only [List.getElem?_toArray, List.getElem?_cons_zero, List.getElem?_cons_succ, Option.getD_some] at e57
                              have e58 := hbaseF 58 (not_dst (by kernel_rfl))
                              simp only [List.getElem?_toArray, List.getElem?_cons_zero, List.getElem?_cons_succ, Option.getD_some] at e58
                              have e59 := hbaseF 59 (not_dst (by kernel_rfl))
                              simp only [List.getElem?_toArray, List.getElem?_cons_zero, List.getElem?_cons_succ, Option.getD_some] at e59
                              have e60 := hbaseF 60 (not_dst (by kernel_rfl))
                              simp only [List.getElem?_toArray, List.getElem?_cons_zero, List.getElem?_cons_succ, Option.getD_some] at e60
                              have e61 := hbaseF 61 (not_dst (by kernel_rfl))
                              simp only [List.getElem?_toArray, List.getElem?_cons_zero, List.getElem?_cons_succ, Option.getD_some] at e61
                              have e62 := hbaseF 62 (not_dst (by kernel_rfl))
                              simp only [List.getElem?_toArray, List.getElem?_cons_zero, List.getElem?_cons_succ, Option.getD_some] at e62
                              have e63 := hbaseF 63 (not_dst (by kernel_rfl))
                              simp only [List.getElem?_toArray, List.getElem?_cons_zero, List.getElem?_cons_succ, Option.getD_some] at e63
                              have e64 := hbaseF 64 (not_dst (by kernel_rfl))
                              simp only [List.getElem?_toArray, List.getElem?_cons_zero, List.getElem?_cons_succ, Option.getD_some] at e64
                              have e65 := hbaseF 65 (not_dst (by kernel_rfl))
                              simp only [List.getElem?_toArray, List.getElem?_cons_zero, List.getElem?_cons_succ, Option.getD_some] at e65
                              have e66 := hbaseF 66 (not_dst (by kernel_rfl))
                              simp only [List.getElem?_toArray, List.getElem?_cons_zero, List.getElem?_cons_succ, Option.getD_some] at e66
                              have e67 := hbaseF 67 (not_dst (by kernel_rfl))
                              simp only [List.getElem?_toArray, List.getElem?_cons_zero, List.getElem?_cons_succ, Option.getD_some] at e67
                              have e68 := hbaseF 68 (not_dst (by kernel_rfl))
                              simp only [List.getElem?_toArray, List.getElem?_cons_zero, List.getElem?_cons_succ, Option.getD_some] at e68
                              have e96 := hbaseF 96 (not_dst (by kernel_rfl))
                              simp only [List.getElem?_toArray, List.getElem?_cons_zero, List.getElem?_cons_succ, Option.getD_some] at e96
                              have e97 := hbaseF 97 (not_dst (by kernel_rfl))
                              simp only [List.getElem?_toArray, List.getElem?_cons_zero, List.getElem?_cons_succ, Option.getD_some] at e97
                              have e98 := hbaseF 98 (not_dst (by kernel_rfl))
                              simp only [List.getElem?_toArray, List.getElem?_cons_zero, List.getElem?_cons_succ, Option.getD_some] at e98
                              have e99 := hbaseF 99 (not_dst (by kernel_rfl))
                              simp only [List.getElem?_toArray, List.getElem?_cons_zero, List.getElem?_cons_succ, Option.getD_some] at e99
                              have e100 := hbaseF 100 (not_dst (by kernel_rfl))
                              simp only [List.getElem?_toArray, List.getElem?_cons_zero, List.getElem?_cons_succ, Option.getD_some] at e100
                              have e101 := hbaseF 101 (not_dst (by kernel_rfl))
                              simp only [List.getElem?_toArray, List.getElem?_cons_zero, List.getElem?_cons_succ, Option.getD_some] at e101
                              have e102 := hbaseF 102 (not_dst (by kernel_rfl))
                              simp only [List.getElem?_toArray, List.getElem?_cons_zero, List.getElem?_cons_succ, Option.getD_some] at e102
                              have e103 := hbaseF 103 (not_dst (by kernel_rfl))
                              simp only [List.getElem?_toArray, List.getElem?_cons_zero, List.getElem?_cons_succ, Option.getD_some] at e103
                              have e104 := hbaseF 104 (not_dst (by kernel_rfl))
                              simp only [List.getElem?_toArray, List.getElem?_cons_zero, List.getElem?_cons_succ, Option.getD_some] at e104
                              have e105 := hbaseF 105 (not_dst (by kernel_rfl))
                              simp only [List.getElem?_toArray, List.getElem?_cons_zero, List.getElem?_cons_succ, Option.getD_some] at e105
                              have e106 := hbaseF 106 (not_dst (by kernel_rfl))
                              simp only [List.getElem?_toArray, List.getElem?_cons_zero, List.getElem?_cons_succ, Option.getD_some] at e106
                              have e107 := hbaseF 107 (not_dst (by kernel_rfl))
                              simp only [List.getElem?_toArray, List.getElem?_cons_zero, List.getElem?_cons_succ, Option.getD_some] at e107
                              have e108 := hbaseF 108 (not_dst (by kernel_rfl))
                              simp only [List.getElem?_toArray, List.getElem?_cons_zero, List.getElem?_cons_succ, Option.getD_some] at e108
                              have e109 := hbaseF 109 (not_dst (by kernel_rfl))
                              simp only [List.getElem?_toArray, List.getElem?_cons_zero, List.getElem?_cons_succ, Option.getD_some] at e109
                              have e110 := hbaseF 110 (not_dst (by kernel_rfl))
                              simp only [List.getElem?_toArray, List.getElem?_cons_zero, List.getElem?_cons_succ, Option.getD_some] at e110
                              have e111 := hbaseF 111 (not_dst (by kernel_rfl))
                              simp only [List.getElem?_toArray, List.getElem?_cons_zero, List.getElem?_cons_succ, Option.getD_some] at e111
                              have e112 := hbaseF 112 (not_dst (by kernel_rfl))
                              simp only [List.getElem?_toArray, List.getElem?_cons_zero, List.getElem?_cons_succ, Option.getD_some] at e112
                              have e113 := hbaseF 113 (not_dst (by kernel_rfl))
                              simp only [List.getElem?_toArray, List.getElem?_cons_zero, List.getElem?_cons_succ, Option.getD_some] at e113
                              have e114 := hbaseF 114 (not_dst (by kernel_rfl))
                              simp only [List.getElem?_toArray, List.getElem?_cons_zero, List.getElem?_cons_succ, Option.getD_some] at e114
                              have e115 := hbaseF 115 (not_dst (by kernel_rfl))
                              simp only [List.getElem?_toArray, List.getElem?_cons_zero, List.getElem?_cons_succ, Option.getD_some] at e115
                              have e95 := hfactF 26 95 (by decide) rfl
                              replace e95 : T[95]?.getD undef = .bool false := e95
                              clear hbaseF hfactF
                              have hT : T = #[T[0]?.getD undef, T[1]?.getD undef, T[2]?.getD undef, T[3]?.getD undef, T[4]?.getD undef, T[5]?.getD undef, T[6]?.getD undef, T[7]?.getD undef, T[8]?.getD undef, T[9]?.getD undef, T[10]?.getD undef, T[11]?.getD undef, T[12]?.getD undef, T[13]?.getD undef, T[14]?.getD undef, T[15]?.getD undef, T[16]?.getD undef, T[17]?.getD undef, T[18]?.getD undef, T[19]?.getD undef, T[20]?.getD undef, T[21]?.getD undef, T[22]?.getD undef, T[23]?.getD undef, T[24]?.getD undef, T[25]?.getD undef, T[26]?.getD undef, T[27]?.getD undef, T[28]?.getD undef, T[29]?.getD undef, T[30]?.getD undef, T[31]?.getD undef, T[32]?.getD undef, T[33]?.getD undef, T[34]?.getD undef, T[35]?.getD undef, T[36]?.getD undef, T[37]?.getD undef, T[38]?.getD undef, T[39]?.getD undef, T[40]?.getD undef, T[41]?.getD undef, T[42]?.getD undef, T[43]?.getD undef, T[44]?.getD undef, T[45]?.getD undef, T[46]?.getD undef, T[47]?.getD undef, T[48]?.getD undef, T[49]?.getD undef, T[50]?.getD undef, T[51]?.getD undef, T[52]?.getD undef, T[53]?.getD undef, T[54]?.getD undef, T[55]?.getD undef, T[56]?.getD undef, T[57]?.getD undef, T[58]?.getD undef, T[59]?.getD undef, T[60]?.getD undef, T[61]?.getD undef, T[62]?.getD undef, T[63]?.getD undef, T[64]?.getD undef, T[65]?.getD undef, T[66]?.getD undef, T[67]?.getD undef, T[68]?.getD undef, T[69]?.getD undef, T[70]?.getD undef, T[71]?.getD undef, T[72]?.getD undef, T[73]?.getD undef, T[74]?.getD undef, T[75]?.getD undef, T[76]?.getD undef, T[77]?.getD undef, T[78]?.getD undef, T[79]?.getD undef, T[80]?.getD undef, T[81]?.getD undef, T[82]?.getD undef, T[83]?.getD undef, T[84]?.getD undef, T[85]?.getD undef, T[86]?.getD undef, T[87]?.getD undef, T[88]?.getD undef, T[89]?.getD undef, T[90]?.getD undef, T[91]?.getD undef, T[92]?.getD undef, T[93]?.getD undef, T[94]?.getD undef, T[95]?.getD undef, T[96]?.getD undef, T[97]?.getD undef, T[98]?.getD undef, T[99]?.getD undef, T[100]?.getD undef, T[101]?.getD undef, T[102]?.getD undef, T[103]?.getD undef, T[104]?.getD undef, T[105]?.getD undef, T[106]?.getD undef, T[107]?.getD undef, T[108]?.getD undef, T[109]?.getD undef, T[110]?.getD undef, T[111]?.getD undef, T[112]?.getD undef, T[113]?.getD undef, T[114]?.getD undef, T[115]?.getD undef] := arr_eq T 116 hsF
                              clear hsF
                              rw [e0] at hT; clear e0
                              rw [e1] at hT; clear e1
                              rw [e2] at hT; clear e2
                              rw [e3] at hT; clear e3
                              rw [e4] at hT; clear e4
                              rw [e5] at hT; clear e5
                              rw [e6] at hT; clear e6
                              rw [e7] at hT; clear e7
                              rw [e8] at hT; clear e8
                              rw [e9] at hT; clear e9
                              rw [e10] at hT; clear e10
                              rw [e11] at hT; clear e11
                              rw [e12] at hT; clear e12
                              rw [e13] at hT; clear e13
                              rw [e14] at hT; clear e14
                              rw [e15] at hT; clear e15
                              rw [e16] at hT; clear e16
                              rw [e17] at hT; clear e17
                              rw [e18] at hT; clear e18
                              rw [e19] at hT; clear e19
                              rw [e20] at hT; clear e20
                              rw [e21] at hT; clear e21
                              rw [e22] at hT; clear e22
                              rw [e23] at hT; clear e23
                              rw [e24] at hT; clear e24
                              rw [e25] at hT; clear e25
                              rw [e26] at hT; clear e26
                              rw [e27] at hT; clear e27
                              rw [e28] at hT; clear e28
                              rw [e29] at hT; clear e29
                              rw [e30] at hT; clear e30
                              rw [e31] at hT; clear e31
                              rw [e32] at hT; clear e32
                              rw [e33] at hT; clear e33
                              rw [e34] at hT; clear e34
                              rw [e35] at hT; clear e35
                              rw [e36] at hT; clear e36
                              rw [e37] at hT; clear e37
                              rw [e38] at hT; clear e38
                              rw [e39] at hT; clear e39
                              rw [e40] at hT; clear e40
                              rw [e41] at hT; clear e41
                              rw [e42] at hT; clear e42
                              rw [e43] at hT; clear e43
                              rw [e44] at hT; clear e44
                              rw [e45] at hT; clear e45
                              rw [e46] at hT; clear e46
                              rw [e47] at hT; clear e47
                              rw [e48] at hT; clear e48
                              rw [e49] at hT; clear e49
                              rw [e50] at hT; clear e50
                              rw [e51] at hT; clear e51
                              rw [e52] at hT; clear e52
                              rw [e53] at hT; clear e53
                              rw [e54] at hT; clear e54
                              rw [e55] at hT; clear e55
                              rw [e56] at hT; clear e56
                              rw [e57] at hT; clear e57
                              rw [e58] at hT; clear e58
                              rw [e59] at hT; clear e59
                              rw [e60] at hT; clear e60
                              rw [e61] at hT; clear e61
                              rw [e62] at hT; clear e62
                              rw [e63] at hT; clear e63
                              rw [e64] at hT; clear e64
                              rw [e65] at hT; clear e65
                              rw [e66] at hT; clear e66
                              rw [e67] at hT; clear e67
                              rw [e68] at hT; clear e68
                              generalize T[69]?.getD undef = u69 at hT
                              generalize T[70]?.getD undef = u70 at hT
                              generalize T[71]?.getD undef = u71 at hT
                              generalize T[72]?.getD undef = u72 at hT
                              generalize T[73]?.getD undef = u73 at hT
                              generalize T[74]?.getD undef = u74 at hT
                              generalize T[75]?.getD undef = u75 at hT
                              generalize T[76]?.getD undef = u76 at hT
                              generalize T[77]?.getD undef = u77 at hT
                              generalize T[78]?.getD undef = u78 at hT
                              generalize T[79]?.getD undef = u79 at hT
                              generalize T[80]?.getD undef = u80 at hT
                              generalize T[81]?.getD undef = u81 at hT
                              generalize T[82]?.getD undef = u82 at hT
                              generalize T[83]?.getD undef = u83 at hT
                              generalize T[84]?.getD undef = u84 at hT
                              generalize T[85]?.getD undef = u85 at hT
                              generalize T[86]?.getD undef = u86 at hT
                              generalize T[87]?.getD undef = u87 at hT
                              generalize T[88]?.getD undef = u88 at hT
                              generalize T[89]?.getD undef = u89 at hT
                              generalize T[90]?.getD undef = u90 at hT
                              generalize T[91]?.getD undef = u91 at hT
                              generalize T[92]?.getD undef = u92 at hT
                              generalize T[93]?.getD undef = u93 at hT
                              generalize T[94]?.getD undef = u94 at hT
                              rw [e95] at hT; clear e95
                              rw [e96] at hT; clear e96
                              rw [e97] at hT; clear e97
                              rw [e98] at hT; clear e98
                              rw [e99] at hT; clear e99
                              rw [e100] at hT; clear e100
                              rw [e101] at hT; clear e101
                              rw [e102] at hT; clear e102
                              rw [e103] at hT; clear e103
                              rw [e104] at hT; clear e104
                              rw [e105] at hT; clear e105
                              rw [e106] at hT; clear e106
                              rw [e107] at hT; clear e107
                              rw [e108] at hT; clear e108
                              rw [e109] at hT; clear e109
                              rw [e110] at hT; clear e110
                              rw [e111] at hT; clear e111
                              rw [e112] at hT; clear e112
                              rw [e113] at hT; clear e113
                              rw [e114] at hT; clear e114
                              rw [e115] at hT; clear e115
                              subst hT
                              go_wp2_with fail
                              go_roundw
                              case rel =>
                                obtain ⟨m1, m2, m3⟩ := HM.out
                                refine ⟨Q + 1, by omega, by omega, by go_num, ?_, (hxi.alloc _).on hbF, ?_, (hRi.below (by (repeat (first | exact Below.refl _ _ | (refine Below.setCell ?_ (by first | omega | (simp; omega) | simp) _) | (refine Below.alloc ?_ (by first | omega | (simp; omega) | simp) _) | apply Below.drew | apply below_drewN)))).below hbF, (by (have q_hbF := Below.size hbF; (try simp at q_hbF); have q_hbi := Below.size hbi; (try simp at q_hbi); repeat (first | exact Below.refl _ _ | (refine Below.trans ?_ (Below.mono hbF (by first | omega | (simp; omega) | simp))) | (refine Below.trans ?_ (Below.mono hbi (by first | omega | (simp; omega) | simp))) | (refine Below.setCell ?_ (by first | omega | (simp; omega) | simp) _) | (refine Below.alloc ?_ (by first | omega | (simp; omega) | simp) _) | apply Below.drew | apply below_drewN)))⟩
                                · rw [show ((Q + 1 : Nat) : Int) = (Q : Int) + 1 from by omega, m1]
                                · rw [show ((Q + 1 : Nat) : Int) = (Q : Int) + 1 from by omega, m2, m3]; exact (hwi.alloc _).on hbF
                              case measure => simp [intOf] <;> omega
                      · have hit : b ≠ superL P Q := fun h => hn (by rw [HN.out, h, superL_len])
                        have HM := Lib.hid (fnd_miss hit)
                        have hqn : ((n : Int) == 256) = false := by simp; omega
                        clear hit hn
                        refine wp_flows [(fun y_ _ => y_ = .slice A n c), (fun y_ _ => y_ = .int .i64 (n : Int)), (fun y_ _ => y_ = .bool false), (fun y_ _ => y_ = .bool false), (fun y_ _ => y_ = undef), (fun y_ _ => y_ = undef), (fun y_ _ => y_ = undef), (fun y_ _ => y_ = undef), (fun y_ _ => y_ = undef), (fun y_ _ => y_ = undef), (fun y_ _ => y_ = .bool false), (fun y_ _ => y_ = .bool false), (fun y_ _ => y_ = undef), (fun y_ _ => y_ = undef), (fun y_ _ => y_ = undef), (fun y_ _ => y_ = undef), (fun y_ _ => y_ = undef), (fun y_ _ => y_ = undef), (fun y_ _ => y_ = .bool false), (fun y_ _ => y_ = .bool false), (fun y_ _ => y_ = undef), (fun y_ _ => y_ = undef), (fun y_ _ => y_ = undef), (fun y_ _ => y_ = undef), (fun y_ _ => y_ = undef), (fun y_ _ => y_ = undef), (fun y_ _ => y_ = .bool false)] (by kernel_rfl) ⟨Stab.eq _, Stab.eq _, Stab.eq _, Stab.eq _, Stab.eq _, Stab.eq _, Stab.eq _, Stab.eq _, Stab.eq _, Stab.eq _, Stab.eq _, Stab.eq _, Stab.eq _, Stab.eq _, Stab.eq _, Stab.eq _, Stab.eq _, Stab.eq _, Stab.eq _, Stab.eq _, Stab.eq _, Stab.eq _, Stab.eq _, Stab.eq _, Stab.eq _, Stab.eq _, Stab.eq _, trivial⟩ (by kernel_rfl) (by rfl) ?_ ?_
                        · intro kq hkq
                          match kq, hkq with
                          | 0, _ =>
                            refine StepOk.plain _ 69 rfl rfl rfl [(11, none)] (by kernel_rfl) (fun af wf hbw hf Kf hKf => ?_)
                            obtain ⟨g11, _⟩ := hf
                            have h11 : af.tmps[11]?.getD undef = .slice A n c := g11
                            clear g11
                            go_simp
                            exact hKf _ _ (Below.refl _ _) rfl
                          | 1, _ =>
                            refine StepOk.plain _ 70 rfl rfl rfl [(69, some 0)] (by kernel_rfl) (fun af wf hbw hf Kf hKf => ?_)
                            obtain ⟨g69, _⟩ := hf
                            have h69 : af.tmps[69]?.getD undef = .slice A n c := g69
                            clear g69
                            go_simp
                            exact hKf _ _ (Below.refl _ _) rfl
                          | 2, _ =>
                            refine StepOk.plain _ 71 rfl rfl rfl [(70, some 1)] (by kernel_rfl) (fun af wf hbw hf Kf hKf => ?_)
                            obtain ⟨g70, _⟩ := hf
                            have h70 : af.tmps[70]?.getD undef = .int .i64 (n : Int) := g70
                            clear g70
                            go_simp
                            exact hKf _ _ (Below.refl _ _) rfl
                          | 3, _ =>
                            refine StepOk.plain _ 72 rfl rfl rfl [(71, some 2)] (by kernel_rfl) (fun af wf hbw hf Kf hKf => ?_)
                            obtain ⟨g71, _⟩ := hf
                            have h71 : af.tmps[71]?.getD undef = .bool false := g71
                            clear g71
                            go_simp
                            exact hKf _ _ (Below.refl _ _) rfl
                          | 4, _ => exact StepOk.no _ 73 rfl rfl rfl rfl (fun _ _ h => h) (by decide) (by kernel_rfl) (fun _ => rfl)
                          | 5, _ => exact StepOk.no _ 74 rfl rfl rfl rfl (fun _ _ h => h) (by decide) (by kernel_rfl) (fun _ => rfl)
                          | 6, _ => exact StepOk.no _ 75 rfl rfl rfl rfl (fun _ _ h => h) (by decide) (by kernel_rfl) (fun _ => rfl)
                          | 7, _ => exact StepOk.no _ 76 rfl rfl rfl rfl (fun _ _ h => h) (by decide) (by kernel_rfl) (fun _ => rfl)
                          | 8, _ => exact StepOk.no _ 77 rfl rfl rfl rfl (fun _ _ h => h) (by decide) (by kernel_rfl) (fun _ => rfl)
                          | 9, _ => exact StepOk.no _ 78 rfl rfl rfl rfl (fun _ _ h => h) (by decide) (by kernel_rfl) (fun _ => rfl)
                          | 10, _ =>
                            refine StepOk.plain _ 79 rfl rfl rfl [(72, some 3), (78, some 9)] (by kernel_rfl) (fun af wf hbw hf Kf hKf => ?_)
                            obtain ⟨g72, g78, _⟩ := hf
                            have h72 : af.tmps[72]?.getD undef = .bool false := g72
                            have h78 : af.tmps[78]?.getD undef = undef := g78
                            clear g72 g78
                            go_simp
                            exact hKf _ _ (Below.refl _ _) rfl
                          | 11, _ =>
                            refine StepOk.plain _ 80 rfl rfl rfl [(79, some 10)] (by kernel_rfl) (fun af wf hbw hf Kf hKf => ?_)
                            obtain ⟨g79, _⟩ := hf
                            have h79 : af.tmps[79]?.getD undef = .bool false := g79
                            clear g79
                            go_simp
                            exact hKf _ _ (Below.refl _ _) rfl
                          | 12, _ => exact StepOk.no _ 81 rfl rfl rfl rfl (fun _ _ h => h) (by decide) (by kernel_rfl) (fun _ => rfl)
                          | 13, _ => exact StepOk.no _ 82 rfl rfl rfl rfl (fun _ _ h => h) (by decide) (by kernel_rfl) (fun _ => rfl)
                          | 14, _ => exact StepOk.no _ 83 rfl rfl rfl rfl (fun _ _ h => h) (by decide) (by kernel_rfl) (fun _ => rfl)
                          | 15, _ => exact StepOk.no _ 84 rfl rfl rfl rfl (fun _ _ h => h) (by decide) (by kernel_rfl) (fun _ => rfl)
                          | 16, _ => exact StepOk.no _ 85 rfl rfl rfl rfl (fun _ _ h => h) (by decide) (by kernel_rfl) (fun _ => rfl)
                          | 17, _ => exact StepOk.no _ 86 rfl rfl rfl rfl (fun _ _ h => h) (by decide) (by kernel_rfl) (fun _ => rfl)
                          | 18, _ =>
                            refine StepOk.plain _ 87 rfl rfl rfl [(80, some 11), (86, some 17)] (by kernel_rfl) (fun af wf hbw hf Kf hKf => ?_)
                            obtain ⟨g80, g86, _⟩ := hf
                            have h80 : af.tmps[80]?.getD undef = .bool false := g80
                            have h86 : af.tmps[86]?.getD undef = undef := g86
                            clear g80 g86
                            go_simp
                            exact hKf _ _ (Below.refl _ _) rfl
                          | 19, _ =>
                            refine StepOk.plain _ 88 rfl rfl rfl [(87, some 18)] (by kernel_rfl) (fun af wf hbw hf Kf hKf => ?_)
                            obtain ⟨g87, _⟩ := hf
                            have h87 : af.tmps[87]?.getD undef = .bool false := g87
                            clear g87
                            go_simp
                            exact hKf _ _ (Below.refl _ _) rfl
                          | 20, _ => exact StepOk.no _ 89 rfl rfl rfl rfl (fun _ _ h => h) (by decide) (by kernel_rfl) (fun _ => rfl)
                          | 21, _ => exact StepOk.no _ 90 rfl rfl rfl rfl (fun _ _ h => h) (by decide) (by kernel_rfl) (fun _ => rfl)
                          | 22, _ => exact StepOk.no _ 91 rfl rfl rfl rfl (fun _ _ h => h) (by decide) (by kernel_rfl) (fun _ => rfl)
                          | 23, _ => exact StepOk.no _ 92 rfl rfl rfl rfl (fun _ _ h => h) (by decide) (by kernel_rfl) (fun _ => rfl)
                          | 24, _ => exact StepOk.no _ 93 rfl rfl rfl rfl (fun _ _ h => h) (by decide) (by kernel_rfl) (fun _ => rfl)
                          | 25, _ => exact StepOk.no _ 94 rfl rfl rfl rfl (fun _ _ h => h) (by decide) (by kernel_rfl) (fun _ => rfl)
                          | 26, _ =>
                            refine StepOk.plain _ 95 rfl rfl rfl [(88, some 19), (94, some 25)] (by kernel_rfl) (fun af wf hbw hf Kf hKf => ?_)
                            obtain ⟨g88, g94, _⟩ := hf
                            have h88 : af.tmps[88]?.getD undef = .bool false := g88
                            have h94 : af.tmps[94]?.getD undef = undef := g94
                            clear g88 g94
                            go_simp
                            exact hKf _ _ (Below.refl _ _) rfl
                          | i + 27, h => exact absurd h (by show ¬ (i + 27 < 27); omega)
                        · intro af wF hbF hdF hsF hbaseF hfactF
                          obtain ⟨T, dsF⟩ := af
                          obtain rfl : dsF = _ := hdF
                          have e0 := hbaseF 0 (not_dst (by kernel_rfl))
                          simp only [List.getElem?_toArray, List.getElem?_cons_zero, Option.getD_some] at e0
                          have e1 := hbaseF 1 (not_dst (by kernel_rfl))
                          simp only [List.getElem?_toArray, List.getElem?_cons_zero, List.getElem?_cons_succ, Option.getD_some] at e1
                          have e2 := hbaseF 2 (not_dst (by kernel_rfl))
                          simp only [List.getElem?_toArray, List.getElem?_cons_zero, List.getElem?_cons_succ, Option.getD_some] at e2
                          have e3 := hbaseF 3 (not_dst (by kernel_rfl))
                          simp only [List.getElem?_toArray, List.getElem?_cons_zero, List.getElem?_cons_succ, Option.getD_some] at e3
                          have e4 := hbaseF 4 (not_dst (by kernel_rfl))
                          simp only [List.getElem?_toArray, List.getElem?_cons_zero, List.getElem?_cons_succ, Option.getD_some] at e4
                          have e5 := hbaseF 5 (not_dst (by kernel_rfl))
                          simp only [List.getElem?_toArray, List.getElem?_cons_zero, List.getElem?_cons_succ, Option.getD_some] at e5
                          have e6 := hbaseF 6 (not_dst (by kernel_rfl))
                          simp only [List.getElem?_toArray, List.getElem?_cons_zero, List.getElem?_cons_succ, Option.getD_some] at e6
                          have e7 := hbaseF 7 (not_dst (by kernel_rfl))
                          simp only [List.getElem?_toArray, List.getElem?_cons_zero, List.getElem?_cons_succ, Option.getD_some] at e7
                          have e8 := hbaseF 8 (not_dst (by kernel_rfl))
                          simp only [List.getElem?_toArray, List.getElem?_cons_zero, List.getElem?_cons_succ, Option.getD_some] at e8
                          have e9 := hbaseF 9 (not_dst (by kernel_rfl))
                          simp only [List.getElem?_toArray, List.getElem?_cons_zero, List.getElem?_cons_succ, Option.getD_some] at e9
                          have e10 := hbaseF 10 (not_dst (by kernel_rfl))
                          simp only [List.getElem?_toArray, List.getElem?_cons_zero, List.getElem?_cons_succ, Option.getD_some] at e10
                          have e11 := hbaseF 11 (not_dst (by kernel_rfl))
                          simp only [List.getElem?_toArray, List.getElem?_cons_zero, List.getElem?_cons_succ, Option.getD_some] at e11
                          have e12 := hbaseF 12 (not_dst (by kernel_rfl))
                          simp only [List.getElem?_toArray, List.getElem?_cons_zero, List.getElem?_cons_succ, Option.getD_some] at e12
                          have e13 := hbaseF 13 (not_dst (by kernel_rfl))
                          simp only [List.getElem?_toArray, List.getElem?_cons_zero, List.getElem?_cons_succ, Option.getD_some] at e13
                          have e14 := hbaseF 14 (not_dst (by kernel_rfl))
                          simp only [List.getElem?_toArray, List.getElem?_cons_zero, List.getElem?_cons_succ, Option.getD_some] at e14
                          have e15 := hbaseF 15 (not_dst (by kernel_rfl))
                          simp only [List.getElem?_toArray, List.getElem?_cons_zero, List.getElem?_cons_succ, Option.getD_some] at e15
                          have e16 := hbaseF 16 (not_dst (by kernel_rfl))
                          simp only [List.getElem?_toArray, List.getElem?_cons_zero, List.getElem?_cons_succ, Option.getD_some] at e16
                          have e17 := hbaseF 17 (not_dst (by kernel_rfl))
                          simp only [List.getElem?_toArray, List.getElem?_cons_zero, List.getElem?_cons_succ, Option.getD_some] at e17
                          have e18 := hbaseF 18 (not_dst (by kernel_rfl))
                          simp only [List.getElem?_toArray, List.getElem?_cons_zero, List.getElem?_cons_succ, Option.getD_some] at e18
                          have e19 := hbaseF 19 (not_dst (by kernel_rfl))
                          simp only [List.getElem?_toArray, List.getElem?_cons_zero, List.getElem?_cons_succ, Option.getD_some] at e19
                          have e20 := hbaseF 20 (not_dst (by kernel_rfl))
                          simp only [List.getElem?_toArray, List.getElem?_cons_zero, List.getElem?_cons_succ, Option.getD_some] at e20
                          have e21 := hbaseF 21 (not_dst (by kernel_rfl))
                          simp only [List.getElem?_toArray, List.getElem?_cons_zero, List.getElem?_cons_succ, Option.getD_some] at e21
                          have e22 := hbaseF 22 (not_dst (by kernel_rfl))
                          simp only [List.getElem?_toArray, List.getElem?_cons_zero, List.getElem?_cons_succ, Option.getD_some] at e22
                          have e23 := hbaseF 23 (not_dst (by kernel_rfl))
                          simp only [List.getElem?_toArray, List.getElem?_cons_zero, List.getElem?_cons_succ, Option.getD_some] at e23
                          have e24 := hbaseF 24 (not_dst (by kernel_rfl))
                          simp only [List.getElem?_toArray, List.getElem?_cons_zero, List.getElem?_cons_succ, Option.getD_some] at e24
                          have e25 := hbaseF 25 (not_dst (by kernel_rfl))
                          simp only [List.getElem?_toArray, List.getElem?_cons_zero, List.getElem?_cons_succ, Option.getD_some] at e25
                          have e26 := hbaseF 26 (not_dst (by kernel_rfl))
                          simp only [List.getElem?_toArray, List.getElem?_cons_zero, List.getElem?_cons_succ, Option.getD_some] at e26
                          have e27 := hbaseF 27 (not_dst (by kernel_rfl))
                          simp only [List.getElem?_toArray, List.getElem?_cons_zero, List.getElem?_cons_succ, Option.getD_some] at e27
                          have e28 := hbaseF 28 (not_dst (by kernel_rfl))
                          simp only [List.getElem?_toArray, List.getElem?_cons_zero, List.getElem?_cons_succ, Option.getD_some] at e28
                          have e29 := hbaseF 29 (not_dst (by kernel_rfl))
                          simp only [List.getElem?_toArray, List.getElem?_cons_zero, List.getElem?_cons_succ, Option.getD_some] at e29
                          have e30 := hbaseF 30 (not_dst (by kernel_rfl))
                          simp only [List.getElem?_toArray, List.getElem?_cons_zero, List.getElem?_cons_succ, Option.getD_some] at e30
                          have e31 := hbaseF 31 (not_dst (by kernel_rfl))
                          simp only [List.getElem?_toArray, List.getElem?_cons_zero, List.getElem?_cons_succ, Option.getD_some] at e31
                          have e32 := hbaseF 32 (not_dst (by kernel_rfl))
                          simp only [List.getElem?_toArray, List.getElem?_cons_zero, List.getElem?_cons_succ, Option.getD_some] at e32
                          have e33 := hbaseF 33 (not_dst (by kernel_rfl))
                          simp only [List.getElem?_toArray, List.getElem?_cons_zero, List.getElem?_cons_succ, Option.getD_some] at e33
                          have e34 := hbaseF 34 (not_dst (by kernel_rfl))
                          simp only [List.getElem?_toArray, List.getElem?_cons_zero, List.getElem?_cons_succ, Option.getD_some] at e34
                          have e35 := hbaseF 35 (not_dst (by kernel_rfl))
                          simp only [List.getElem?_toArray, List.getElem?_cons_zero, List.getElem?_cons_succ, Option.getD_some] at e35
                          have e36 := hbaseF 36 (not_dst (by kernel_rfl))
                          simp only [List.getElem?_toArray, List.getElem?_cons_zero, List.getElem?_cons_succ, Option.getD_some] at e36
                          have e37 := hbaseF 37 (not_dst (by kernel_rfl))
                          simp only [List.getElem?_toArray, List.getElem?_cons_zero, List.getElem?_cons_succ, Option.getD_some] at e37
                          have e38 := hbaseF 38 (not_dst (by kernel_rfl))
                          simp only [List.getElem?_toArray, List.getElem?_cons_zero, List.getElem?_cons_succ, Option.getD_some] at e38
                          have e39 := hbaseF 39 (not_dst (by kernel_rfl))
                          simp only [List.getElem?_toArray, List.getElem?_cons_zero, List.getElem?_cons_succ, Option.getD_some] at e39
                          have e40 := hbaseF 40 (not_dst (by kernel_rfl))
                          simp only [List.getElem?_toArray, List.getElem?_cons_zero, List.getElem?_cons_succ, Option.getD_some] at e40
                          have e41 := hbaseF 41 (not_dst (by kernel_rfl))
                          simp only [List.getElem?_toArray, List.getElem?_cons_zero, List.getElem?_cons_succ, Option.getD_some] at e41
                          have e42 := hbaseF 42 (not_dst (by kernel_rfl))
                          simp only [List.getElem?_toArray, List.getElem?_cons_zero, List.getElem?_cons_succ, Option.getD_some] at e42
                          have e43 := hbaseF 43 (not_dst (by kernel_rfl))
                          simp only [List.getElem?_toArray, List.getElem?_cons_zero, List.getElem?_cons_succ, Option.getD_some] at e43
                          have e44 := hbaseF 44 (not_dst (by kernel_rfl))
                          simp only [List.getElem?_toArray, List.getElem?_cons_zero, List.getElem?_cons_succ, Option.getD_some] at e44
                          have e45 := hbaseF 45 (not_dst (by kernel_rfl))
                          simp only [List.getElem?_toArray, List.getElem?_cons_zero, List.getElem?_cons_succ, Option.getD_some] at e45
                          have e46 := hbaseF 46 (not_dst (by kernel_rfl))
                          simp only [List.getElem?_toArray, List.getElem?_cons_zero, List.getElem?_cons_succ, Option.getD_some] at e46
                          have e47 := hbaseF 47 (not_dst (by kernel_rfl))
                          simp only [List.getElem?_toArray, List.getElem?_cons_zero, List.getElem?_cons_succ, Option.getD_some] at e47
                          have e48 := hbaseF 48 (not_dst (by kernel_rfl))
                          simp only [List.getElem?_toArray, List.getElem?_cons_zero, List.getElem?_cons_succ, Option.getD_some] at e48
                          have e49 := hbaseF 49 (not_dst (by kernel_rfl))
                          simp only [List.getElem?_toArray, List.getElem?_cons_zero, List.getElem?_cons_succ, Option.getD_some] at e49
                          have e50 := hbaseF 50 (not_dst (by kernel_rfl))
                          simp only [List.getElem?_toArray, List.getElem?_cons_zero, List.getElem?_cons_succ, Option.getD_some] at e50
                          have e51 := hbaseF 51 (not_dst (by kernel_rfl))
                          simp only [List.getElem?_toArray, List.getElem?_cons_zero, List.getElem?_cons_succ, Option.getD_some] at e51
                          have e52 := hbaseF 52 (not_dst (by kernel_rfl))
                          simp only [List.getElem?_toArray, List.getElem?_cons_zero, List.getElem?_cons_succ, Option.getD_some] at e52
                          have e53 := hbaseF 53 (not_dst (by kernel_rfl))
                          simp only [List.getElem?_toArray, List.getElem?_cons_zero, List.getElem?_cons_succ, Option.getD_some] at e53
                          have e54 := hbaseF 54 (not_dst (by kernel_rfl))
                          simp only [List.getElem?_toArray, List.getElem?_cons_zero, List.getElem?_cons_succ, Option.getD_some] at e54
                          have e55 := hbaseF 55 (not_dst (by kernel_rfl))
                          simp only [List.getElem?_toArray, List.getElem?_cons_zero, List.getElem?_cons_succ, Option.getD_some] at e55
                          have e56 := hbaseF 56 (not_dst (by kernel_rfl))
                          simp only [List.getElem?_toArray, List.getElem?_cons_zero, List.getElem?_cons_succ, Option.getD_some] at e56
                          have e57 := hbaseF 57 (not_dst (by kernel_rfl))
                          simp only [List.getElem?_toArray, List.getElem?_cons_zero, List.getElem?_cons_succ, Option.getD_some] at e57
                          have e58 := hbaseF 58 (not_dst (by kernel_rfl))
                          simp only [List.getElem?_toArray, List.getElem?_cons_zero, List.getElem?_cons_succ, Option.getD_some] at e58
                          have e59 := hbaseF 59 (not_dst (by kernel_rfl))
                          simp only [List.getElem?_toArray, List.getElem?_cons_zero, List.getElem?_cons_succ, Option.getD_some] at e59
                          have e60 := hbaseF 60 (not_dst (by kernel_rfl))
                          simp only [List.getElem?_toArray, List.getElem?_cons_zero, List.getElem?_cons_succ, Option.getD_some] at e60
                          have e61 := hbaseF 61 (not_dst (by kernel_rfl))
                          simp only [List.getElem?_toArray, List.getElem?_cons_zero, List.getElem?_cons_succ, Option.getD_some] at e61
                          have e62 := hbaseF 62 (not_dst (by kernel_rfl))
                          simp only [List.getElem?_toArray, List.getElem?_cons_zero, List.getElem?_cons_succ, Option.getD_some] at e62
                          have e63 := hbaseF 63 (not_dst (by kernel_rfl))
                          simp only [List.getElem?_toArray, List.getElem?_cons_zero, List.getElem?_cons_succ, Option.getD_some] at e63
                          have e64 := hbaseF 64 (not_dst (by kernel_rfl))
                          simp only [List.getElem?_toArray, List.getElem?_cons_zero, List.getElem?_cons_succ, Option.getD_some] at e64
                          have e65 := hbaseF 65 (not_dst (by kernel_rfl))
                          simp only [List.getElem?_toArray, List.getElem?_cons_zero, List.getElem?_cons_succ, Option.getD_some] at e65
                          have e66 := hbaseF 66 (not_dst (by kernel_rfl))
                          simp only [List.getElem?_toArray, List.getElem?_cons_zero, List.getElem?_cons_succ, Option.getD_some] at e66
                          have e67 := hbaseF 67 (not_dst (by kernel_rfl))
                          simp only [List.getElem?_toArray, List.getElem?_cons_zero, List.getElem?_cons_succ, Option.getD_some] at e67
                          have e68 := hbaseF 68 (not_dst (by kernel_rfl))
                          simp only [List.getElem?_toArray, List.getElem?_cons_zero, List.getElem?_cons_succ, Option.getD_some] at e68
                          have e96 := hbaseF 96 (not_dst (by kernel_rfl))
                          simp only [List.getElem?_toArray, List.getElem?_cons_zero, List.getElem?_cons_succ, Option.getD_some] at e96
                          have e97 := hbaseF 97 (not_dst (by kernel_rfl))
                          simp only [List.getElem?_toArray, List.getElem?_cons_zero, List.getElem?_cons_succ, Option.getD_some] at e97
                          have e98 := hbaseF 98 (not_dst (by kernel_rfl))
                          simp only [List.getElem?_toArray, List.getElem?_cons_zero, List.getElem?_cons_succ, Option.getD_some] at e98
                          have e99 := hbaseF 99 (not_dst (by kernel_rfl))
                          simp only [List.getElem?_toArray, List.getElem?_cons_zero, List.getElem?_cons_succ, Option.getD_some] at e99
                          have e100 := hbaseF 100 (not_dst (by kernel_rfl))
                          simp only [List.getElem?_toArray, List.getElem?_cons_zero, List.getElem?_cons_succ, Option.getD_some] at e100
                          have e101 := hbaseF 101 (not_dst (by kernel_rfl))
                          simp only [List.getElem?_toArray, List.getElem?_cons_zero, List.getElem?_cons_succ, Option.getD_some] at e101
                          have e102 := hbaseF 102 (not_dst (by kernel_rfl))
                          simp only [List.getElem?_toArray, List.getElem?_cons_zero, List.getElem?_cons_succ, Option.getD_some] at e102
                          have e103 := hbaseF 103 (not_dst (by kernel_rfl))
                          simp only [List.getElem?_toArray, List.getElem?_cons_zero, List.getElem?_cons_succ, Option.getD_some] at e103
                          have e104 := hbaseF 104 (not_dst (by kernel_rfl))
                          simp only [List.getElem?_toArray, List.getElem?_cons_zero, List.getElem?_cons_succ, Option.getD_some] at e104
                          have e105 := hbaseF 105 (not_dst (by kernel_rfl))
                          simp only [List.getElem?_toArray, List.getElem?_cons_zero, List.getElem?_cons_succ, Option.getD_some] at e105
                          have e106 := hbaseF 106 (not_dst (by kernel_rfl))
                          simp only [List.getElem?_toArray, List.getElem?_cons_zero, List.getElem?_cons_succ, Option.getD_some] at e106
                          have e107 := hbaseF 107 (not_dst (by kernel_rfl))
                          simp only [List.getElem?_toArray, List.getElem?_cons_zero, List.getElem?_cons_succ, Option.getD_some] at e107
                          have e108 := hbaseF 108 (not_dst (by kernel_rfl))
                          simp only [List.getElem?_toArray, List.getElem?_cons_zero, List.getElem?_cons_succ, Option.getD_some] at e108
                          have e109 := hbaseF 109 (not_dst (by kernel_rfl))
                          simp only [List.getElem?_toArray, List.getElem?_cons_zero, List.getElem?_cons_succ, Option.getD_some] at e109
                          have e110 := hbaseF 110 (not_dst (by kernel_rfl))
                          simp only [List.getElem?_toArray, List.getElem?_cons_zero, List.getElem?_cons_succ, Option.getD_some] at e110
                          have e111 := hbaseF 111 (not_dst (by kernel_rfl))
                          simp only [List.getElem?_toArray, List.getElem?_cons_zero, List.getElem?_cons_succ, Option.getD_some] at e111
                          have e112 := hbaseF 112 (not_dst (by kernel_rfl))
                          simp only [List.getElem?_toArray, List.getElem?_cons_zero, List.getElem?_cons_succ, Option.getD_some] at e112
                          have e113 := hbaseF 113 (not_dst (by kernel_rfl))
                          simp only [List.getElem?_toArray, List.getElem?_cons_zero, List.getElem?_cons_succ, Option.getD_some] at e113
                          have e114 := hbaseF 114 (not_dst (by kernel_rfl))
                          simp only [List.getElem?_toArray, List.getElem?_cons_zero, List.getElem?_cons_succ, Option.getD_some] at e114
                          have e115 := hbaseF 115 (not_dst (by kernel_rfl))
                          simp only [List.getElem?_toArray, List.getElem?_cons_zero, List.getElem?_cons_succ, Option.getD_some] at e115
                          have e95 := hfactF 26 95 (by decide) rfl
                          replace e95 : T[95]?.getD undef = .bool false := e95
                          clear hbaseF hfactF
                          have hT : T = #[T[0]?.getD undef, T[1]?.getD undef, T[2]?.getD undef, T[3]?.getD undef, T[4]?.getD undef, T[5]?.getD undef, T[6]?.getD undef, T[7]?.getD undef, T[8]?.getD undef, T[9]?.getD undef, T[10]?.getD undef, T[11]?.getD undef, T[12]?.getD undef, T[13]?.getD undef, T[14]?.getD undef, T[15]?.getD undef, T[16]?.getD undef, T[17]?.getD undef, T[18]?.getD undef, T[19]?.getD undef, T[20]?.getD undef, T[21]?.getD undef, T[22]?.getD undef, T[23]?.getD undef, T[24]?.getD undef, T[25]?.getD undef, T[26]?.getD undef, T[27]?.getD undef, T[28]?.getD undef, T[29]?.getD undef, T[30]?.getD undef, T[31]?.getD undef, T[32]?.getD undef, T[33]?.getD undef, T[34]?.getD undef, T[35]?.getD undef, T[36]?.getD undef, T[37]?.getD undef, T[38]?.getD undef, T[39]?.getD undef, T[40]?.getD undef, T[41]?.getD undef, T[42]?.getD undef, T[43]?.getD undef, T[44]?.getD undef, T[45]?.getD undef, T[46]?.getD undef, T[47]?.getD undef, T[48]?.getD undef, T[49]?.getD undef, T[50]?.getD undef, T[51]?.getD undef, T[52]?.getD undef, T[53]?.getD undef, T[54]?.getD undef, T[55]?.getD undef, T[56]?.getD undef, T[57]?.getD undef, T[58]?.getD undef, T[59]?.getD undef, T[60]?.getD undef, T[61]?.getD undef, T[62]?.getD undef, T[63]?.getD undef, T[64]?.getD undef, T[65]?.getD undef, T[66]?.getD undef, T[67]?.getD undef, T[68]?.getD undef, T[69]?.getD undef, T[70]?.getD undef, T[71]?.getD undef, T[72]?.getD undef, T[73]?.getD undef, T[74]?.getD undef, T[75]?.getD undef, T[76]?.getD undef, T[77]?.getD undef, T[78]?.getD undef, T[79]?.getD undef, T[80]?.getD undef, T[81]?.getD undef, T[82]?.getD undef, T[83]?.getD undef, T[84]?.getD undef, T[85]?.getD undef, T[86]?.getD undef, T[87]?.getD undef, T[88]?.getD undef, T[89]?.getD undef, T[90]?.getD undef, T[91]?.getD undef, T[92]?.getD undef, T[93]?.getD undef, T[94]?.getD undef, T[95]?.getD undef, T[96]?.getD undef, T[97]?.getD undef, T[98]?.getD undef, T[99]?.getD undef, T[100]?.getD undef, T[101]?.getD undef, T[102]?.getD undef, T[103]?.getD undef, T[104]?.getD undef, T[105]?.getD undef, T[106]?.getD undef, T[107]?.getD undef, T[108]?.getD undef, T[109]?.getD undef, T[110]?.getD undef, T[111]?.getD undef, T[112]?.getD undef, T[113]?.getD undef, T[114]?.getD undef, T[115]?.getD undef] := arr_eq T 116 hsF
                          clear hsF
                          rw [e0] at hT; clear e0
                          rw [e1] at hT; clear e1
                          rw [e2] at hT; clear e2
                          rw [e3] at hT; clear e3
                          rw [e4] at hT; clear e4
                          rw [e5] at hT; clear e5
                          rw [e6] at hT; clear e6
                          rw [e7] at hT; clear e7
                          rw [e8] at hT; clear e8
                          rw [e9] at hT; clear e9
                          rw [e10] at hT; clear e10
                          rw [e11] at hT; clear e11
                          rw [e12] at hT; clear e12
                          rw [e13] at hT; clear e13
                          rw [e14] at hT; clear e14
                          rw [e15] at hT; clear e15
                          rw [e16] at hT; clear e16
                          rw [e17] at hT; clear e17
                          rw [e18] at hT; clear e18
                          rw [e19] at hT; clear e19
                          rw [e20] at hT; clear e20
                          rw [e21] at hT; clear e21
                          rw [e22] at hT; clear e22
                          rw [e23] at hT; clear e23
                          rw [e24] at hT; clear e24
                          rw [e25] at hT; clear e25
                          rw [e26] at hT; clear e26
                          rw [e27] at hT; clear e27
                          rw [e28] at hT; clear e28
                          rw [e29] at hT; clear e29
                          rw [e30] at hT; clear e30
                          rw [e31] at hT; clear e31
                          rw [e32] at hT; clear e32
                          rw [e33] at hT; clear e33
                          rw [e34] at hT; clear e34
                          rw [e35] at hT; clear e35
                          rw [e36] at hT; clear e36
                          rw [e37] at hT; clear e37
                          rw [e38] at hT; clear e38
                          rw [e39] at hT; clear e39
                          rw [e40] at hT; clear e40
                          rw [e41] at hT; clear e41
                          rw [e42] at hT; clear e42
                          rw [e43] at hT; clear e43
                          rw [e44] at hT; clear e44
                          rw [e45] at hT; clear e45
                          rw [e46] at hT; clear e46
                          rw [e47] at hT; clear e47
                          rw [e48] at hT; clear e48
                          rw [e49] at hT; clear e49
                          rw [e50] at hT; clear e50
                          rw [e51] at hT; clear e51
                          rw [e52] at hT; clear e52
                          rw [e53] at hT; clear e53
                          rw [e54] at hT; clear e54
                          rw [e55] at hT; clear e55
                          rw [e56] at hT; clear e56
                          rw [e57] at hT; clear e57
                          rw [e58] at hT; clear e58
                          rw [e59] at hT; clear e59
                          rw [e60] at hT; clear e60
                          rw [e61] at hT; clear e61
                          rw [e62] at hT; clear e62
                          rw [e63] at hT; clear e63
                          rw [e64] at hT; clear e64
                          rw [e65] at hT; clear e65
                          rw [e66] at hT; clear e66
                          rw [e67] at hT; clear e67
                          rw [e68] at hT; clear e68
                          generalize T[69]?.getD undef = u69 at hT
                          generalize T[70]?.getD undef = u70 at hT
                          generalize T[71]?.getD undef = u71 at hT
                          generalize T[72]?.getD undef = u72 at hT
                          generalize T[73]?.getD undef = u73 at hT
                          generalize T[74]?.getD undef = u74 at hT
                          generalize T[75]?.getD undef = u75 at hT
                          generalize T[76]?.getD undef = u76 at hT
                          generalize T[77]?.getD undef = u77 at hT
                          generalize T[78]?.getD undef = u78 at hT
                          generalize T[79]?.getD undef = u79 at hT
                          generalize T[80]?.getD undef = u80 at hT
                          generalize T[81]?.getD undef = u81 at hT
                          generalize T[82]?.getD undef = u82 at hT
                          generalize T[83]?.getD undef = u83 at hT
                          generalize T[84]?.getD undef = u84 at hT
                          generalize T[85]?.getD undef = u85 at hT
                          generalize T[86]?.getD undef = u86 at hT
                          generalize T[87]?.getD undef = u87 at hT
                          generalize T[88]?.getD undef = u88 at hT
                          generalize T[89]?.getD undef = u89 at hT
                          generalize T[90]?.getD undef = u90 at hT
                          generalize T[91]?.getD undef = u91 at hT
                          generalize T[92]?.getD undef = u92 at hT
                          generalize T[93]?.getD undef = u93 at hT
                          generalize T[94]?.getD undef = u94 at hT
                          rw [e95] at hT; clear e95
                          rw [e96] at hT; clear e96
                          rw [e97] at hT; clear e97
                          rw [e98] at hT; clear e98
                          rw [e99] at hT; clear e99
                          rw [e100] at hT; clear e100
                          rw [e101] at hT; clear e101
                          rw [e102] at hT; clear e102
                          rw [e103] at hT; clear e103
                          rw [e104] at hT; clear e104
                          rw [e105] at hT; clear e105
                          rw [e106] at hT; clear e106
                          rw [e107] at hT; clear e107
                          rw [e108] at hT; clear e108
                          rw [e109] at hT; clear e109
                          rw [e110] at hT; clear e110
                          rw [e111] at hT; clear e111
                          rw [e112] at hT; clear e112
                          rw [e113] at hT; clear e113
                          rw [e114] at hT; clear e114
                          rw [e115] at hT; clear e115
                          subst hT
                          go_wp2_with fail
                          go_roundw
                          case rel =>
                            obtain ⟨m1, m2, m3⟩ := HM.out
                            refine ⟨Q + 1, by omega, by omega, by go_num, ?_, (hxi.alloc _).on hbF, ?_, (hRi.below (by (repeat (first | exact Below.refl _ _ | (refine Below.setCell ?_ (by first | omega | (simp; omega) | simp) _) | (refine Below.alloc ?_ (by first | omega | (simp; omega) | simp) _) | apply Below.drew | apply below_drewN)))).below hbF, (by (have q_hbF := Below.size hbF; (try simp at q_hbF); have q_hbi := Below.size hbi; (try simp at q_hbi); repeat (first | exact Below.refl _ _ | (refine Below.trans ?_ (Below.mono hbF (by first | omega | (simp; omega) | simp))) | (refine Below.trans ?_ (Below.mono hbi (by first | omega | (simp; omega) | simp))) | (refine Below.setCell ?_ (by first | omega | (simp; omega) | simp) _) | (refine Below.alloc ?_ (by first | omega | (simp; omega) | simp) _) | apply Below.drew | apply below_drewN)))⟩
                            · rw [show ((Q + 1 : Nat) : Int) = (Q : Int) + 1 from by omega, m1]
                            · rw [show ((Q + 1 : Nat) : Int) = (Q : Int) + 1 from by omega, m2, m3]; exact (hwi.alloc _).on hbF
                          case measure => simp [intOf] <;> omega
                    · obtain rfl : Q = 25 := by omega
                      have HW := Lib.hid (fnd_row b P)
                      go_wp2_with fail
                      go_roundw
                      case rel =>
                        obtain ⟨m1, m2, m3⟩ := HW.out
                        refine ⟨P + 1, by omega, by omega, by go_num, ?_, hxi, ?_, hRi, hbi⟩
                        · rw [show ((P + 1 : Nat) : Int) = (P : Int) + 1 from by omega, m1]; rfl
                        · rw [show ((P + 1 : Nat) : Int) = (P : Int) + 1 from by omega, m2, m3]; exact hwi
                      case measure => simp [intOf] <;> omega
                · obtain rfl : P = 65 := by omega
                  have cx := hx.cell
                  have cw := hw.cell
                  have e1 := Lib.hid (show fndB b ((65 : Nat) : Int) 4 = sOK b from fnd_end b)
                  rw [e1.out]
                  have hw' : Blk wr (gx + 1) 23 #[.int .i64 X1, .int .i64 X2] := by rw [HX1.out, HX2.out]; exact hw
                  have cw' := hw'.cell
                  clear cw hw
                  cases hs : sOK b
                  · have hE : E = 4 := by rw [HE.out, hs]; rfl
                    subst hE
                    go_wp2_with fail
                    refine (sawake_any _).mono ?_
                    rintro e w7 ⟨rfl, hb7⟩
                    go_wp2_with fail
                    go_ret
                    exact ⟨rfl, (by (have q_hb7 := Below.size hb7; (try simp at q_hb7); have q_hbr := Below.size hbr; (try simp at q_hbr); repeat (first | exact Below.refl _ _ | (refine Below.trans ?_ (Below.mono hb7 (by first | omega | (simp; omega) | simp))) | (refine Below.trans ?_ (Below.mono hbr (by first | omega | (simp; omega) | simp))) | (refine Below.setCell ?_ (by first | omega | (simp; omega) | simp) _) | (refine Below.alloc ?_ (by first | omega | (simp; omega) | simp) _) | apply Below.drew | apply below_drewN)))⟩
                  · have hE : E = 0 := by rw [HE.out, hs]; rfl
                    subst hE
                    go_wp2_with fail
                    refine (sawake_any _).mono ?_
                    rintro e w7 ⟨rfl, hb7⟩
                    go_wp2_with fail
                    go_ret
                    exact ⟨rfl, (by (have q_hb7 := Below.size hb7; (try simp at q_hb7); have q_hbr := Below.size hbr; (try simp at q_hbr); repeat (first | exact Below.refl _ _ | (refine Below.trans ?_ (Below.mono hb7 (by first | omega | (simp; omega) | simp))) | (refine Below.trans ?_ (Below.mono hbr (by first | omega | (simp; omega) | simp))) | (refine Below.setCell ?_ (by first | omega | (simp; omega) | simp) _) | (refine Below.alloc ?_ (by first | omega | (simp; omega) | simp) _) | apply Below.drew | apply below_drewN)))⟩
end Go.Proofs.Ythepgnankelmeaa
