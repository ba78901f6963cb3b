/- The walk of the statement PagesParse. -/
import Derived.Test.YtidlcplamgajpaaPgB8
import Derived.Test.YtidlcplamgajpaaInts
namespace Go.Proofs.Ytidlcplamgajpaa
open Go.RowKit

theorem land255 (n : Int) : bits .and .i64 n 255 = n % 256 := by
  have h7 : (BitVec.ofInt 64 255).toNat = 2 ^ 8 - 1 := by decide
  have key : (BitVec.ofInt 64 n &&& BitVec.ofInt 64 255).toNat = (n % ((2 ^ 64 : Nat) : Int)).toNat % 2 ^ 8 := by
    rw [BitVec.toNat_and, BitVec.toNat_ofInt, h7, Nat.and_two_pow_sub_one_eq_mod]
  show IntKind.i64.wrap ((BitVec.ofInt 64 n &&& BitVec.ofInt 64 255).toNat : Nat) = n % 256
  rw [key, IntKind.wrap_i64]
  omega
set_option maxRecDepth 100000 in
set_option maxHeartbeats 4000000 in
theorem law_pparse (A : Option Addr) (n c : Nat) (l : List Pg) (Ai : Option Addr) (ni ci : Nat) (is : List Int) (Av : Option Addr) (nv cv : Nat) (vs : List UInt8) (cut : Int) (w : World) (hr : RdG pgE w A n l) (hnc : n ≤ c) (hc : c ≤ maxLen) (hri : RdG i64E w Ai ni is) (hni : ni ≤ ci) (hci : ci ≤ maxLen) (hrv : Rd w Av nv vs) :
    Calls Try.prog 8 #[.slice A n c, .slice Ai ni ci, .slice Av nv cv, .int .i64 cut] w fun e w' => e = .returned (.bool true) ∧ Below w.heap.size w w' := by
  have hn47 : n ≤ 9223372036854775807 := by unfold maxLen at hc; omega
  have hi47 : ni ≤ 9223372036854775807 := by unfold maxLen at hci; omega
  clear hc hci
  go_enter Try.func8, Try.ntmps8
  go_wp2_with fail
  go_loopw [9, 23] (fun v i wr => ∃ (k : Nat) (q : List Pg), k ≤ n ∧ i = .int .i64 k ∧ q.length ≤ k ∧ q.length ≤ 16 ∧ Hid (∀ x ∈ q, mayB x = true) ∧ FreshG pgE 33 w.heap.size wr v q ∧ Below w.heap.size w wr) (fun _ i _ => n - (intOf i).toNat)
  case atStart => exact ⟨0, [], by omega, rfl, by simp, by simp, Lib.hid (by simp), FreshG.nil _ _ _, Below.refl _ _⟩
  case round =>
    obtain ⟨k, q, hk, rfl, hq1, hq2, hqm, hF, hbel⟩ := hrel
    have hbz := hbel.size
    by_cases hlt : k < n
    · have hltI : (k : Int) < n := by omega
      obtain ⟨b, off, x, rfl, hb, hx, hcell⟩ := (hr.below hbel).at_ hlt
      have c0 := hcell 0 _ rfl
      have c1' := hcell 1 _ rfl
      have c2' := hcell 2 _ rfl
      have c3 := hcell 3 _ rfl
      have c4 := hcell 4 _ rfl
      simp only [show pgE.sz = 5 from rfl, Nat.add_zero] at c0 c1' c2' c3 c4
      obtain ⟨p1, p2, p3, p4, p5⟩ := x
      simp only at c0 c1' c2' c3 c4
      clear hcell
      by_cases hk16 : k < 16
      · have hk16' : (k : Int) < 16 := by omega
        obtain ⟨M, hM⟩ : ∃ M, mayB (p1, p2, p3, p4, p5) = M := ⟨_, rfl⟩
        have HG := Lib.hid (show M = true → ∀ x ∈ q ++ [(p1, p2, p3, p4, p5)], mayB x = true from fun h x hx => by
          rcases List.mem_append.1 hx with hx | hx
          · exact hqm.out x hx
          · rw [List.mem_singleton.1 hx, hM, h])
        clear hx
        go_wp2_with fail
        refine (rone_any p1 p2 p3 p4 p5 _).mono ?_
        rintro e w3 ⟨rfl, hb3⟩
        rw [hM]
        have b3 : Below w.heap.size w w3 := (by (have q_hb3 := Below.size hb3; (try simp at q_hb3); have q_hbel := Below.size hbel; (try simp at q_hbel); repeat (first | exact Below.refl _ _ | (refine Below.trans ?_ (Below.mono hb3 (by first | omega | (simp; omega) | simp))) | (refine Below.trans ?_ (Below.mono hbel (by first | omega | (simp; omega) | simp))) | (refine Below.setCell ?_ (by first | omega | (simp; omega) | simp) _) | (refine Below.alloc ?_ (by first | omega | (simp; omega) | simp) _) | apply Below.drew | apply below_drewN)))
        have hF3 : FreshG pgE 33 w.heap.size w3 _ q := (hF.alloc _).below hb3
        have hz3 := b3.size
        cases M with
        | false =>
          clear hM c0 c1' c2' c3 c4 hb3
          go_wp2_with fail
          go_roundw
          case rel => exact ⟨k + 1, q, by omega, by go_num, by omega, by omega, hqm, hF3, b3⟩
          case measure => simp [intOf] <;> omega
        | true =>
          have hB3 := (Blk.new wr 33 #[.int .i64 p1, .int .i64 p2, .int .i64 p3, .int .i64 p4, .int .u64 p5]).on hb3
          have cB3 := hB3.cell
          have HL := Lib.hid (HG.out rfl)
          clear hM HG c0 c1' c2' c3 c4 hb3
          go_wp2_with (at_builtin; refine wpList_append_G (E := pgE) _ rfl (.tmp 34) (.tmp 36) _ rfl w.heap.size 33 Try.underlying22 infoRP rfl _ q rfl (hF3.alloc _) (some ⟨w3.heap.size, 0, none⟩) 1 1 [(p1, p2, p3, p4, p5)] rfl (RdG.boxed _ _ _ _ rfl) (by omega) (by omega) (by simp; omega) ?_; intro v5 w5 hF5 hg5 hb5)
          go_roundw
          case rel => exact ⟨k + 1, _, by omega, by go_num, by simp; omega, by simp; omega, HL, hF5, (by (have q_hb5 := Below.size hb5; (try simp at q_hb5); have q_b3 := Below.size b3; (try simp at q_b3); repeat (first | exact Below.refl _ _ | (refine Below.trans ?_ (Below.mono hb5 (by first | omega | (simp; omega) | simp))) | (refine Below.trans ?_ (Below.mono b3 (by first | omega | (simp; omega) | simp))) | (refine Below.setCell ?_ (by first | omega | (simp; omega) | simp) _) | (refine Below.alloc ?_ (by first | omega | (simp; omega) | simp) _) | apply Below.drew | apply below_drewN)))⟩
          case measure => simp [intOf] <;> omega
      · have hk16' : ¬ (k : Int) < 16 := by omega
        clear hx
        go_wp2_with fail
        go_roundw
        case rel => exact ⟨k + 1, q, by omega, by go_num, by omega, by omega, hqm, hF.alloc _, (by (have q_hbel := Below.size hbel; (try simp at q_hbel); repeat (first | exact Below.refl _ _ | (refine Below.trans ?_ (Below.mono hbel (by first | omega | (simp; omega) | simp))) | (refine Below.setCell ?_ (by first | omega | (simp; omega) | simp) _) | (refine Below.alloc ?_ (by first | omega | (simp; omega) | simp) _) | apply Below.drew | apply below_drewN)))⟩
        case measure => simp [intOf] <;> omega
    · obtain rfl : k = n := by omega
      obtain ⟨A1, c1, rfl, hR1, _, hc1, hm1⟩ := hF.rdn q.length rfl
      have hroom : ∀ x ∈ q, roomPg x := fun x hx => may_room (hqm.out x hx)
      have HRM := Lib.hid hroom
      clear hroom hqm hF
      go_wp2_with fail
      refine (rpgbytes_any A1 q.length c1 q _ (hR1.alloc _) hq2 HRM.out).mono ?_
      rintro e w2 ⟨v2, rfl, hF2, hb2⟩
      have hBL := pgsL_len q
      obtain ⟨BL, hBLq⟩ : ∃ BL, pgsL q = BL := ⟨_, rfl⟩
      rw [hBLq] at hF2 hBL
      clear hBLq
      obtain ⟨A2, c2, rfl, hR2, _, hc2, hm2⟩ := hF2.rdn 256 hBL
      have hB2 := (Blk.new wr 5 #[]).on hb2
      have b2 : Below wr.heap.size wr w2 := (by (have q_hb2 := Below.size hb2; (try simp at q_hb2); repeat (first | exact Below.refl _ _ | (refine Below.trans ?_ (Below.mono hb2 (by first | omega | (simp; omega) | simp))) | (refine Below.setCell ?_ (by first | omega | (simp; omega) | simp) _) | (refine Below.alloc ?_ (by first | omega | (simp; omega) | simp) _) | apply Below.drew | apply below_drewN)))
      have hz2 := b2.size
      clear hF2 hb2 hR1 HRM hq1 hq2 hc1 hm1
      go_wp2_with (at_builtin; refine wpList_append_bytes _ rfl (.tmp 39) (.tmp 41) _ rfl wr.heap.size 5 Try.underlying57 info8 _ [] rfl (Fresh.of_blk (n := 0) hB2 (Nat.le_refl _) (by unfold maxLen; omega) rfl rfl) A2 256 c2 BL rfl hR2 (by simp) hz2 ?_; intro v1 w1 hF1 hg1 hb1; rw [List.nil_append] at hF1)
      have hb01 : Below w.heap.size w w1 := (by (have q_hb1 := Below.size hb1; (try simp at q_hb1); have q_b2 := Below.size b2; (try simp at q_b2); have q_hbel := Below.size hbel; (try simp at q_hbel); repeat (first | exact Below.refl _ _ | (refine Below.trans ?_ (Below.mono hb1 (by first | omega | (simp; omega) | simp))) | (refine Below.trans ?_ (Below.mono b2 (by first | omega | (simp; omega) | simp))) | (refine Below.trans ?_ (Below.mono hbel (by first | omega | (simp; omega) | simp))) | (refine Below.setCell ?_ (by first | omega | (simp; omega) | simp) _) | (refine Below.alloc ?_ (by first | omega | (simp; omega) | simp) _) | apply Below.drew | apply below_drewN)))
      obtain ⟨wo, hwo⟩ : ∃ wo, wo = wr := ⟨_, rfl⟩
      subst hwo
      obtain ⟨Ag, cg, rfl, _, _, hng, hmg⟩ := hF1.rdn 256 hBL
      obtain ⟨g, cur0, rfl, hgB, _⟩ := hF1.open_ hBL (by omega)
      clear hR2 hB2 hg1 hb1 b2
      go_loopw [45] (fun i wq => ∃ j : Nat, j ≤ ni ∧ i = .int .i64 j ∧ (∃ q, q.length = 256 ∧ Fresh 5 wo.heap.size wq (.slice (some ⟨g, 0, none⟩) 256 cg) q) ∧ Below w.heap.size w wq) (fun i _ => ni - (intOf i).toNat)
      case atStart => exact ⟨0, by omega, rfl, ⟨BL, hBL, hF1⟩, hb01⟩
      case round =>
        clear hF1 hb01 hBL
        obtain ⟨wq, hwq⟩ : ∃ wq, wq = wr := ⟨_, rfl⟩
        subst hwq
        obtain ⟨j, hj, rfl, ⟨q, hql, hFq⟩, hbq⟩ := hrel
        obtain ⟨_, _, eq0, hRq, _, _, _⟩ := hFq.rdn 256 hql
        injection eq0 with eq1 eq2 eq3
        subst eq1 eq3
        obtain ⟨g', cur, eg, _, hBlk, hcs, hcs2, _⟩ := hFq.open_ hql (by omega)
        obtain rfl : g = g' := by injection eg with eg; injection eg
        by_cases hji : j < ni
        · obtain ⟨bi, oi, x, rfl, hbi, hxi, hci2⟩ := (hri.below hbq).i64 hji
          have hji' : (j : Int) < ni := by omega
          by_cases hj6 : j < 6
          · have hj6' : (j : Int) < 6 := by omega
            by_cases hjv : j < nv
            · have hjv' : (j : Int) < nv := by omega
              obtain ⟨bv_, ov, y, rfl, hbv, hyv, hcv2⟩ := (hrv.below hbq).at_ hjv
              have h255 := land255 x
              obtain ⟨kq, hkq⟩ : ∃ kq : Nat, (kq : Int) = x % 256 := ⟨(x % 256).toNat, by omega⟩
              have hk256 : kq < 256 := by omega
              rw [← hkq] at h255
              have cg9 := hBlk.cell
              have fg9 := hBlk.frozen
              obtain ⟨u0, hu0⟩ : ∃ u, cur[kq]? = some u := ⟨_, Array.getElem?_eq_getElem (by omega)⟩
              have hF2 := hFq.set_ hql rfl hBlk kq y hk256
              clear hkq hxi hyv
              go_wp2_with fail
              go_roundw
              case rel => exact ⟨j + 1, by omega, by go_num, ⟨_, by simpa using hql, hF2⟩, (by (have q_hbq := Below.size hbq; (try simp at q_hbq); repeat (first | exact Below.refl _ _ | (refine Below.trans ?_ (Below.mono hbq (by first | omega | (simp; omega) | simp))) | (refine Below.setCell ?_ (by first | omega | (simp; omega) | simp) _) | (refine Below.alloc ?_ (by first | omega | (simp; omega) | simp) _) | apply Below.drew | apply below_drewN)))⟩
              case measure => simp [intOf] <;> omega
            · have hjv' : ¬ (j : Int) < nv := by omega
              go_wp2_with fail
              go_roundw
              case rel => exact ⟨j + 1, by omega, by go_num, ⟨q, hql, hFq⟩, (by (have q_hbq := Below.size hbq; (try simp at q_hbq); repeat (first | exact Below.refl _ _ | (refine Below.trans ?_ (Below.mono hbq (by first | omega | (simp; omega) | simp))) | (refine Below.setCell ?_ (by first | omega | (simp; omega) | simp) _) | (refine Below.alloc ?_ (by first | omega | (simp; omega) | simp) _) | apply Below.drew | apply below_drewN)))⟩
              case measure => simp [intOf] <;> omega
          · have hj6' : ¬ (j : Int) < 6 := by omega
            go_wp2_with fail
            go_roundw
            case rel => exact ⟨j + 1, by omega, by go_num, ⟨q, hql, hFq⟩, (by (have q_hbq := Below.size hbq; (try simp at q_hbq); repeat (first | exact Below.refl _ _ | (refine Below.trans ?_ (Below.mono hbq (by first | omega | (simp; omega) | simp))) | (refine Below.setCell ?_ (by first | omega | (simp; omega) | simp) _) | (refine Below.alloc ?_ (by first | omega | (simp; omega) | simp) _) | apply Below.drew | apply below_drewN)))⟩
            case measure => simp [intOf] <;> omega
        · obtain rfl : j = ni := by omega
          clear hBlk hcs2
          by_cases hc1 : 0 < cut
          · by_cases hc2 : cut < 256
            · obtain ⟨nq, rfl⟩ := Int.eq_ofNat_of_zero_le (show 0 ≤ cut by omega)
              have hn1 : 0 < nq := by omega
              have hn2 : nq < 256 := by omega
              have e1 : (256 : Int) - nq = ((256 - nq : Nat) : Int) := by omega
              have e2 : ¬ cg = nq := by omega
              have e3 : (nq : Int) ≤ 256 := by omega
              go_wp2_with fail
              refine (pgparse_short _ (256 - nq) _ _ (by omega) (by unfold maxLen; omega)).mono ?_
              rintro e w1 ⟨rfl, hb1⟩
              go_wp2_with fail
              refine (pawake_any _).mono ?_
              rintro e w2 ⟨rfl, hb2⟩
              go_wp2_with fail
              go_ret
              exact ⟨rfl, (by (have q_hb2 := Below.size hb2; (try simp at q_hb2); have q_hb1 := Below.size hb1; (try simp at q_hb1); have q_hbq := Below.size hbq; (try simp at q_hbq); repeat (first | exact Below.refl _ _ | (refine Below.trans ?_ (Below.mono hb2 (by first | omega | (simp; omega) | simp))) | (refine Below.trans ?_ (Below.mono hb1 (by first | omega | (simp; omega) | simp))) | (refine Below.trans ?_ (Below.mono hbq (by first | omega | (simp; omega) | simp))) | (refine Below.setCell ?_ (by first | omega | (simp; omega) | simp) _) | (refine Below.alloc ?_ (by first | omega | (simp; omega) | simp) _) | apply Below.drew | apply below_drewN)))⟩
            ·
              have hSW := hRq.below (Below.refl _ _)
              go_wp2_with fail
              have hP := pgparse_any g 0 cg q _ hSW hng hmg
              cases ho : okB q with
              | true =>
                refine hP.mono ?_
                intro e w1 hP1
                obtain ⟨_, v1, rfl, hF1, hb1⟩ := hP1.resolve_right (fun h => by rw [ho] at h; cases h.1)
                obtain ⟨A7, c7, rfl, hR7, _, hc7, hm7⟩ := hF1.rdn 16 (parseP_len _ _)
                have hR1 := hRq.below hb1
                clear hP hP1 hF1 hSW
                go_wp2_with fail
                refine (rpgparse_any g 0 cg q w1 hR1 hng hmg).mono ?_
                intro e w2 hP2
                obtain ⟨_, v2, rfl, hF2, hb2⟩ := hP2.resolve_right (fun h => by rw [ho] at h; cases h.1)
                obtain ⟨A9, c9, rfl, hR9, _, hc9, hm9⟩ := hF2.rdn 16 (parseP_len _ _)
                have hR72 := hR7.below hb2
                clear hP2 hF2 hR1 hR7
                go_wp2_with fail
                refine (plainL_any A7 16 c7 (parseP q 16) w2 hR72 (by omega)).mono ?_
                rintro e w3 ⟨v3, rfl, hF3, hb3⟩
                obtain ⟨A8, c8, rfl, hR8, _, hc8, hm8⟩ := hF3.rdn 16 (parseP_len _ _)
                have hR93 := hR9.below hb3
                clear hF3 hR9 hR72
                go_wp2_with fail
                refine (same_any A8 A9 16 c8 c9 (parseP q 16) w3 hR8 hR93 (by omega)).mono ?_
                rintro e w4 ⟨rfl, hb4⟩
                go_wp2_with fail
                refine (pawake_any _).mono ?_
                rintro e w5 ⟨rfl, hb5⟩
                go_wp2_with fail
                go_ret
                exact ⟨rfl, (by (have q_hb5 := Below.size hb5; (try simp at q_hb5); have q_hb4 := Below.size hb4; (try simp at q_hb4); have q_hb3 := Below.size hb3; (try simp at q_hb3); have q_hb2 := Below.size hb2; (try simp at q_hb2); have q_hb1 := Below.size hb1; (try simp at q_hb1); have q_hbq := Below.size hbq; (try simp at q_hbq); repeat (first | exact Below.refl _ _ | (refine Below.trans ?_ (Below.mono hb5 (by first | omega | (simp; omega) | simp))) | (refine Below.trans ?_ (Below.mono hb4 (by first | omega | (simp; omega) | simp))) | (refine Below.trans ?_ (Below.mono hb3 (by first | omega | (simp; omega) | simp))) | (refine Below.trans ?_ (Below.mono hb2 (by first | omega | (simp; omega) | simp))) | (refine Below.trans ?_ (Below.mono hb1 (by first | omega | (simp; omega) | simp))) | (refine Below.trans ?_ (Below.mono hbq (by first | omega | (simp; omega) | simp))) | (refine Below.setCell ?_ (by first | omega | (simp; omega) | simp) _) | (refine Below.alloc ?_ (by first | omega | (simp; omega) | simp) _) | apply Below.drew | apply below_drewN)))⟩
              | false =>
                refine hP.mono ?_
                intro e w1 hP1
                obtain ⟨_, rfl, hb1⟩ := hP1.resolve_left (fun h => by rw [ho] at h; cases h.1)
                have hR1 := hRq.below hb1
                clear hP hP1 hSW
                go_wp2_with fail
                refine (rpgparse_any g 0 cg q w1 hR1 hng hmg).mono ?_
                intro e w2 hP2
                obtain ⟨_, rfl, hb2⟩ := hP2.resolve_left (fun h => by rw [ho] at h; cases h.1)
                clear hP2 hR1
                go_wp2_with fail
                refine (plainL_any none 0 0 [] w2 RdG.nil (by omega)).mono ?_
                rintro e w3 ⟨v3, rfl, hF3, hb3⟩
                obtain ⟨A8, c8, rfl, hR8, _, hc8, hm8⟩ := hF3.rdn 0 rfl
                clear hF3
                go_wp2_with fail
                refine (same_any A8 none 0 c8 0 [] w3 hR8 RdG.nil (by omega)).mono ?_
                rintro e w4 ⟨rfl, hb4⟩
                go_wp2_with fail
                refine (pawake_any _).mono ?_
                rintro e w5 ⟨rfl, hb5⟩
                go_wp2_with fail
                go_ret
                exact ⟨rfl, (by (have q_hb5 := Below.size hb5; (try simp at q_hb5); have q_hb4 := Below.size hb4; (try simp at q_hb4); have q_hb3 := Below.size hb3; (try simp at q_hb3); have q_hb2 := Below.size hb2; (try simp at q_hb2); have q_hb1 := Below.size hb1; (try simp at q_hb1); have q_hbq := Below.size hbq; (try simp at q_hbq); repeat (first | exact Below.refl _ _ | (refine Below.trans ?_ (Below.mono hb5 (by first | omega | (simp; omega) | simp))) | (refine Below.trans ?_ (Below.mono hb4 (by first | omega | (simp; omega) | simp))) | (refine Below.trans ?_ (Below.mono hb3 (by first | omega | (simp; omega) | simp))) | (refine Below.trans ?_ (Below.mono hb2 (by first | omega | (simp; omega) | simp))) | (refine Below.trans ?_ (Below.mono hb1 (by first | omega | (simp; omega) | simp))) | (refine Below.trans ?_ (Below.mono hbq (by first | omega | (simp; omega) | simp))) | (refine Below.setCell ?_ (by first | omega | (simp; omega) | simp) _) | (refine Below.alloc ?_ (by first | omega | (simp; omega) | simp) _) | apply Below.drew | apply below_drewN)))⟩
          ·
            have hSW := hRq.below (Below.refl _ _)
            go_wp2_with fail
            have hP := pgparse_any g 0 cg q _ hSW hng hmg
            cases ho : okB q with
            | true =>
              refine hP.mono ?_
              intro e w1 hP1
              obtain ⟨_, v1, rfl, hF1, hb1⟩ := hP1.resolve_right (fun h => by rw [ho] at h; cases h.1)
              obtain ⟨A7, c7, rfl, hR7, _, hc7, hm7⟩ := hF1.rdn 16 (parseP_len _ _)
              have hR1 := hRq.below hb1
              clear hP hP1 hF1 hSW
              go_wp2_with fail
              refine (rpgparse_any g 0 cg q w1 hR1 hng hmg).mono ?_
              intro e w2 hP2
              obtain ⟨_, v2, rfl, hF2, hb2⟩ := hP2.resolve_right (fun h => by rw [ho] at h; cases h.1)
              obtain ⟨A9, c9, rfl, hR9, _, hc9, hm9⟩ := hF2.rdn 16 (parseP_len _ _)
              have hR72 := hR7.below hb2
              clear hP2 hF2 hR1 hR7
              go_wp2_with fail
              refine (plainL_any A7 16 c7 (parseP q 16) w2 hR72 (by omega)).mono ?_
              rintro e w3 ⟨v3, rfl, hF3, hb3⟩
              obtain ⟨A8, c8, rfl, hR8, _, hc8, hm8⟩ := hF3.rdn 16 (parseP_len _ _)
              have hR93 := hR9.below hb3
              clear hF3 hR9 hR72
              go_wp2_with fail
              refine (same_any A8 A9 16 c8 c9 (parseP q 16) w3 hR8 hR93 (by omega)).mono ?_
              rintro e w4 ⟨rfl, hb4⟩
              go_wp2_with fail
              refine (pawake_any _).mono ?_
              rintro e w5 ⟨rfl, hb5⟩
              go_wp2_with fail
              go_ret
              exact ⟨rfl, (by (have q_hb5 := Below.size hb5; (try simp at q_hb5); have q_hb4 := Below.size hb4; (try simp at q_hb4); have q_hb3 := Below.size hb3; (try simp at q_hb3); have q_hb2 := Below.size hb2; (try simp at q_hb2); have q_hb1 := Below.size hb1; (try simp at q_hb1); have q_hbq := Below.size hbq; (try simp at q_hbq); repeat (first | exact Below.refl _ _ | (refine Below.trans ?_ (Below.mono hb5 (by first | omega | (simp; omega) | simp))) | (refine Below.trans ?_ (Below.mono hb4 (by first | omega | (simp; omega) | simp))) | (refine Below.trans ?_ (Below.mono hb3 (by first | omega | (simp; omega) | simp))) | (refine Below.trans ?_ (Below.mono hb2 (by first | omega | (simp; omega) | simp))) | (refine Below.trans ?_ (Below.mono hb1 (by first | omega | (simp; omega) | simp))) | (refine Below.trans ?_ (Below.mono hbq (by first | omega | (simp; omega) | simp))) | (refine Below.setCell ?_ (by first | omega | (simp; omega) | simp) _) | (refine Below.alloc ?_ (by first | omega | (simp; omega) | simp) _) | apply Below.drew | apply below_drewN)))⟩
            | false =>
              refine hP.mono ?_
              intro e w1 hP1
              obtain ⟨_, rfl, hb1⟩ := hP1.resolve_left (fun h => by rw [ho] at h; cases h.1)
              have hR1 := hRq.below hb1
              clear hP hP1 hSW
              go_wp2_with fail
              refine (rpgparse_any g 0 cg q w1 hR1 hng hmg).mono ?_
              intro e w2 hP2
              obtain ⟨_, rfl, hb2⟩ := hP2.resolve_left (fun h => by rw [ho] at h; cases h.1)
              clear hP2 hR1
              go_wp2_with fail
              refine (plainL_any none 0 0 [] w2 RdG.nil (by omega)).mono ?_
              rintro e w3 ⟨v3, rfl, hF3, hb3⟩
              obtain ⟨A8, c8, rfl, hR8, _, hc8, hm8⟩ := hF3.rdn 0 rfl
              clear hF3
              go_wp2_with fail
              refine (same_any A8 none 0 c8 0 [] w3 hR8 RdG.nil (by omega)).mono ?_
              rintro e w4 ⟨rfl, hb4⟩
              go_wp2_with fail
              refine (pawake_any _).mono ?_
              rintro e w5 ⟨rfl, hb5⟩
              go_wp2_with fail
              go_ret
              exact ⟨rfl, (by (have q_hb5 := Below.size hb5; (try simp at q_hb5); have q_hb4 := Below.size hb4; (try simp at q_hb4); have q_hb3 := Below.size hb3; (try simp at q_hb3); have q_hb2 := Below.size hb2; (try simp at q_hb2); have q_hb1 := Below.size hb1; (try simp at q_hb1); have q_hbq := Below.size hbq; (try simp at q_hbq); repeat (first | exact Below.refl _ _ | (refine Below.trans ?_ (Below.mono hb5 (by first | omega | (simp; omega) | simp))) | (refine Below.trans ?_ (Below.mono hb4 (by first | omega | (simp; omega) | simp))) | (refine Below.trans ?_ (Below.mono hb3 (by first | omega | (simp; omega) | simp))) | (refine Below.trans ?_ (Below.mono hb2 (by first | omega | (simp; omega) | simp))) | (refine Below.trans ?_ (Below.mono hb1 (by first | omega | (simp; omega) | simp))) | (refine Below.trans ?_ (Below.mono hbq (by first | omega | (simp; omega) | simp))) | (refine Below.setCell ?_ (by first | omega | (simp; omega) | simp) _) | (refine Below.alloc ?_ (by first | omega | (simp; omega) | simp) _) | apply Below.drew | apply below_drewN)))⟩
end Go.Proofs.Ytidlcplamgajpaa
