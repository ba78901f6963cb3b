/- Slots, by the document: Page. -/
import Derived.Test.YtnocjjaebemkoaaSlotR2
import Derived.Test.YtnocjjaebemkoaaSlot1
namespace Go.Proofs.Ytnocjjaebemkoaa
open Go.RowKit

theorem wins_step {z : Nat} {l : List Ob} {k : Nat} {o : Ob} (h : l[k]? = some o) : (l.take (k + 1)).flatMap (winL z) = (l.take k).flatMap (winL z) ++ winL z o := by
  rw [take_step h, List.flatMap_append]; simp
set_option maxRecDepth 100000 in
set_option maxHeartbeats 8000000 in
theorem rpage_any {c : Int} {z N : Nat} (hc : ClassOK c z N) (A : Option Addr) (n cp B : Nat) (T : TypeId) (l : List Ob) (w : World) (hr : RdR obK B T w A n l) (hn : n ≤ 16) (hok : ∀ o ∈ l, o.1 ≤ 18446744073709551615 ∧ o.2.length ≤ 1000) :
    Calls Try.prog 35 #[.slice A n cp, .int .i64 c] w (Gives 5 w (pageL z l)) := by
  have hlen := hr.len
  have hS := fun W => rsize_any c W
  have hcz := hc.size
  have hz1 := hc.z128
  have hz2 := hc.z16
  obtain ⟨S0, hS0⟩ : ∃ S0, S0 = sizeI c := ⟨_, rfl⟩
  rw [← hS0] at hS hcz
  obtain rfl : S0 = (z : Int) - 8 := by omega
  have hOK := Lib.hid hok
  clear hS0 hc hcz hok
  go_enter Try.func35, Try.ntmps35
  go_wp2_with fail
  go_loopw [5, 11] (fun b i wr => ∃ k : Nat, k ≤ n ∧ i = .int .i64 k ∧ Fresh 5 w.heap.size wr b ((l.take k).flatMap (winL z)) ∧ Below w.heap.size w wr) (fun _ i _ => n - (intOf i).toNat)
  case atStart => exact ⟨0, by omega, rfl, Fresh.nil _ _ _, Below.refl _ _⟩
  case round =>
    obtain ⟨k, hk, rfl, hF, hbel⟩ := hrel
    have hbz := hbel.size
    have hfl : ((l.take k).flatMap (winL z)).length ≤ 2048 := by
      rw [flat_len', List.length_take]
      have : min k l.length * z ≤ 16 * 128 := Nat.mul_le_mul (by omega) hz1
      omega
    by_cases hlt : k < n
    · obtain ⟨b, off, S, Ad, nd, cd, L, rfl, hb, he, hc0, hc1, hX, hnd, hcd⟩ := (hr.below hbel).ob (k := k) hlt
      have hP := Lib.hid (wins_step (z := z) he)
      have ho := hOK.out _ (List.mem_of_getElem? he)
      simp only at ho
      have hLl : L.length = nd := hX.1.len
      have hXr := hX.1
      have hB := Blk.new wr 62 #[.int .u64 S, .slice Ad nd cd]
      have hcx := hB.cell
      clear he hX
      by_cases hSp : 0 < S
      · have HP := Lib.hid (show (l.take (k + 1)).flatMap (winL z) = (l.take k).flatMap (winL z) ++ padL z (putL 2 (nd : Int) ++ putL 6 S ++ L) by
          rw [hP.out]
          unfold winL slotL
          rw [if_pos hSp, hLl, List.append_assoc])
        clear hP
        go_wp2_with fail
        refine (rput_any 2 (nd : Int) _ (by omega) (by omega) (by omega)).mono ?_
        rintro e w1 ⟨v1, rfl, hF1, hb1⟩
        obtain ⟨A1, c1, rfl, hR1, _, hn1, hm1⟩ := hF1.rdn 2 (putL_len _ _)
        have hO1 := hB.on hb1
        have cO1 := hO1.cell
        have zO1 := hO1.lt
        have hbr1 : Below wr.heap.size wr w1 := (by (have q_hb1 := Below.size hb1; (try simp at q_hb1); repeat (first | exact Below.refl _ _ | (refine Below.trans ?_ (Below.mono hb1 (by first | omega | (simp; omega) | simp))) | (refine Below.setCell ?_ (by first | omega | (simp; omega) | simp) _) | (refine Below.alloc ?_ (by first | omega | (simp; omega) | simp) _) | apply Below.drew | apply below_drewN)))
        clear hcx hF1 hb1
        go_wp2_with (at_builtin; refine wpList_append_bytes _ rfl (.tmp 18) (.tmp 23) _ rfl w1.heap.size 5 Try.underlying32 info8 _ [] rfl (Fresh.nil _ _ _) A1 2 c1 _ rfl hR1 (by simp) (Nat.le_refl _) ?_; intro b2 w2 hF2 hg2 hb2; rw [List.nil_append] at hF2; have hO2 := hO1.on hb2; have cO2 := hO2.cell; clear cO1)
        refine (rput_any 6 S w2 (by omega) (by omega) (by omega)).mono ?_
        rintro e w3 ⟨v3, rfl, hF3, hb3⟩
        obtain ⟨A3, c3, rfl, hR3, _, hn3, hm3⟩ := hF3.rdn 6 (putL_len _ _)
        have hF3' := hF2.below hb3
        have hO3 := hO2.on hb3
        have cO3 := hO3.cell
        have hbr3 : Below wr.heap.size wr w3 := (by (have q_hb3 := Below.size hb3; (try simp at q_hb3); have q_hb2 := Below.size hb2; (try simp at q_hb2); have q_hbr1 := Below.size hbr1; (try simp at q_hbr1); repeat (first | exact Below.refl _ _ | (refine Below.trans ?_ (Below.mono hb3 (by first | omega | (simp; omega) | simp))) | (refine Below.trans ?_ (Below.mono hb2 (by first | omega | (simp; omega) | simp))) | (refine Below.trans ?_ (Below.mono hbr1 (by first | omega | (simp; omega) | simp))) | (refine Below.setCell ?_ (by first | omega | (simp; omega) | simp) _) | (refine Below.alloc ?_ (by first | omega | (simp; omega) | simp) _) | apply Below.drew | apply below_drewN)))
        have z13 : w1.heap.size ≤ w3.heap.size := by have := hb2.size; have := hb3.size; omega
        clear cO2 hF2 hF3 hb3 hb2 hg2
        go_wp2_with (at_builtin; first | (refine wpList_append_bytes _ rfl (.tmp 25) (.tmp 28) _ rfl w1.heap.size 5 Try.underlying32 info8 _ (putL 2 (nd : Int)) rfl hF3' A3 6 c3 (putL 6 S) rfl hR3 (by rw [putL_len]; omega) z13 ?_; intro b4 w4 hF4 hg4 hb4; have hO4 := hO3.below hb4 zO1; have cO4 := hO4.cell; have hbr4 : Below wr.heap.size wr w4 := hbr3.trans (hb4.mono hbr1.size); have hR4 := hXr.below hbr4; have z14 := hb4.size; clear cO3 hg4) | (refine wpList_append_bytes _ rfl (.tmp 30) (.tmp 32) _ rfl w1.heap.size 5 Try.underlying32 info8 _ (putL 2 (nd : Int) ++ putL 6 S) rfl hF4 Ad nd cd L rfl hR4 (by rw [List.length_append, putL_len, putL_len]; omega) (by omega) ?_; intro b5 w5 hF5 hg5 hb5; have hbr5 : Below wr.heap.size wr w5 := hbr4.trans (hb5.mono hbr1.size); clear hg5))
        obtain ⟨A5, c5, rfl, hR5, _, hn5, hm5⟩ := hF5.rdn (8 + nd) (by simp [putL_len]; omega)
        clear hF5 hb5 hF4 hb4 hbr4 hR4
        go_wp2_with fail
        refine (hS _).mono ?_
        rintro e w6 ⟨rfl, rfl⟩
        go_wp2_with fail
        refine (rpad_any A5 (8 + nd) c5 (putL 2 (nd : Int) ++ putL 6 S ++ L) z _ hR5 (by omega) (by omega)).mono ?_
        rintro e w7 ⟨v7, rfl, hF7, hb7⟩
        obtain ⟨A7, c7, rfl, hR7, _, hn7, hm7⟩ := hF7.rdn z (padL_len _ _)
        have hb17 : Below wr.heap.size wr w7 := (by (have q_hb7 := Below.size hb7; (try simp at q_hb7); have q_hbr5 := Below.size hbr5; (try simp at q_hbr5); repeat (first | exact Below.refl _ _ | (refine Below.trans ?_ (Below.mono hb7 (by first | omega | (simp; omega) | simp))) | (refine Below.trans ?_ (Below.mono hbr5 (by first | omega | (simp; omega) | simp))) | (refine Below.setCell ?_ (by first | omega | (simp; omega) | simp) _) | (refine Below.alloc ?_ (by first | omega | (simp; omega) | simp) _) | apply Below.drew | apply below_drewN)))
        have hFp := hF.below hb17
        have hz7 := hb17.size
        clear hF7 hb7
        go_wp2_with (at_builtin; refine wpList_append_bytes _ rfl (.tmp 34) (.tmp 39) _ rfl w.heap.size 5 Try.underlying32 info8 _ _ rfl hFp A7 z c7 _ rfl hR7 (by omega) (by omega) ?_; intro b8 w8 hF8 hg8 hb8)
        go_roundw
        case rel => exact ⟨k + 1, by omega, by go_num, by rw [HP.out]; exact hF8, hbel.trans ((hb17.mono hbz).trans hb8)⟩
        case measure => simp [intOf] <;> omega
      · have HP := Lib.hid (show (l.take (k + 1)).flatMap (winL z) = (l.take k).flatMap (winL z) ++ padL z [] by
          rw [hP.out]
          unfold winL slotL
          rw [if_neg hSp])
        have hbr5 : Below wr.heap.size wr (wr.alloc (.cells #[.int .u64 S, .slice Ad nd cd] 62)) := (by (repeat (first | exact Below.refl _ _ | (refine Below.setCell ?_ (by first | omega | (simp; omega) | simp) _) | (refine Below.alloc ?_ (by first | omega | (simp; omega) | simp) _) | apply Below.drew | apply below_drewN)))
        clear hP
        go_wp2_with fail
        refine (hS _).mono ?_
        rintro e w6 ⟨rfl, rfl⟩
        go_wp2_with fail
        refine (rpad_any none 0 0 ([]) z _ Rd.nil (by omega) (by omega)).mono ?_
        rintro e w7 ⟨v7, rfl, hF7, hb7⟩
        obtain ⟨A7, c7, rfl, hR7, _, hn7, hm7⟩ := hF7.rdn z (padL_len _ _)
        have hb17 : Below wr.heap.size wr w7 := (by (have q_hb7 := Below.size hb7; (try simp at q_hb7); have q_hbr5 := Below.size hbr5; (try simp at q_hbr5); repeat (first | exact Below.refl _ _ | (refine Below.trans ?_ (Below.mono hb7 (by first | omega | (simp; omega) | simp))) | (refine Below.trans ?_ (Below.mono hbr5 (by first | omega | (simp; omega) | simp))) | (refine Below.setCell ?_ (by first | omega | (simp; omega) | simp) _) | (refine Below.alloc ?_ (by first | omega | (simp; omega) | simp) _) | apply Below.drew | apply below_drewN)))
        have hFp := hF.below hb17
        have hz7 := hb17.size
        clear hF7 hb7
        go_wp2_with (at_builtin; refine wpList_append_bytes _ rfl (.tmp 34) (.tmp 39) _ rfl w.heap.size 5 Try.underlying32 info8 _ _ rfl hFp A7 z c7 _ rfl hR7 (by omega) (by omega) ?_; intro b8 w8 hF8 hg8 hb8)
        go_roundw
        case rel => exact ⟨k + 1, by omega, by go_num, by rw [HP.out]; exact hF8, hbel.trans ((hb17.mono hbz).trans hb8)⟩
        case measure => simp [intOf] <;> omega
    · obtain rfl : k = n := by omega
      rw [List.take_of_length_le (by omega)] at hF hfl
      obtain ⟨m, hm⟩ : ∃ m, (l.flatMap (winL z)).length = m := ⟨_, rfl⟩
      obtain ⟨A9, c9, rfl, hR9, _, hn9, hm9⟩ := hF.rdn m hm
      rw [hm] at hfl
      clear hF hm
      go_wp2_with fail
      refine (rpad_any A9 m c9 (l.flatMap (winL z)) 256 _ hR9 (by omega) (by omega)).mono ?_
      rintro e w7 ⟨v7, rfl, hF7, hb7⟩
      go_wp2_with fail
      go_ret
      exact ⟨_, rfl, hF7.from_ hbz, (by (have q_hb7 := Below.size hb7; (try simp at q_hb7); have q_hbel := Below.size hbel; (try simp at q_hbel); repeat (first | exact Below.refl _ _ | (refine Below.trans ?_ (Below.mono hb7 (by first | omega | (simp; omega) | simp))) | (refine Below.trans ?_ (Below.mono hbel (by first | omega | (simp; omega) | simp))) | (refine Below.setCell ?_ (by first | omega | (simp; omega) | simp) _) | (refine Below.alloc ?_ (by first | omega | (simp; omega) | simp) _) | apply Below.drew | apply below_drewN)))⟩
end Go.Proofs.Ytnocjjaebemkoaa
