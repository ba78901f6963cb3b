/- The walk of the statement PagesBytes. -/
import Derived.Test.YtidlcplamgajpaaPgB5
import Derived.Test.YtidlcplamgajpaaPages15
import Derived.Test.YtidlcplamgajpaaPages8
namespace Go.Proofs.Ytidlcplamgajpaa
open Go.RowKit

theorem any_mem {l : List Pg} {k : Nat} {x : Pg} (hx : l[k]? = some x) (h : badB x = true) : l.any badB = true := List.any_eq_true.2 ⟨x, List.mem_of_getElem? hx, h⟩
set_option maxRecDepth 100000 in
set_option maxHeartbeats 4000000 in
/-- Too many, or a bad one. -/
theorem law_pbytes_no (A : Option Addr) (n c : Nat) (l0 : List Pg) (w : World) (hr0 : RdG pgE w A n l0) (hnc : n ≤ c) (hc : c ≤ maxLen) (hno : 16 < min n 70 ∨ (l0.take (min n 70)).any badB = true) :
    Calls Try.prog 9 #[.slice A n c] w fun e w' => e = .returned (.bool true) ∧ Below w.heap.size w w' := by
  obtain ⟨s, hs⟩ : ∃ s, min n 70 = s := ⟨_, rfl⟩
  obtain ⟨l, hl⟩ : ∃ l, l0.take s = l := ⟨_, rfl⟩
  rw [hs, hl] at hno
  have hr : RdG pgE w A s l := by rw [← hl]; have := hr0.cutTo (min n 70) (by omega); rw [hs] at this; exact this
  have hlen := hr.len
  have hs70 : s ≤ 70 := by omega
  have HS := Lib.hid hs
  have HNO := Lib.hid hno
  clear hl hs hr0 hno
  go_enter Try.func9, Try.ntmps9
  go_wp2_with fail
  refine (few_any _ _ _ _ hnc hc).mono ?_
  rintro e w1 ⟨rfl, rfl⟩
  rw [HS.out]
  go_wp2_with fail
  refine (ours_any A s c l _ hr (by omega)).mono ?_
  rintro e w1 ⟨v, rfl, hF1, hb1⟩
  obtain ⟨A1, c1, rfl, hR1, _, hc1, hc2⟩ := hF1.rdn s hlen
  clear hF1
  go_wp2_with fail
  rcases Nat.lt_or_ge 16 s with h16 | h16
  · have h16' : (16 : Int) < s := by omega
    refine (pgbytes_many A1 s c1 _ h16).mono ?_
    rintro e w2 ⟨rfl, rfl⟩
    go_wp2_with fail
    refine (pawake_any _).mono ?_
    rintro e w3 ⟨rfl, hb3⟩
    go_wp2_with fail
    go_ret
    exact ⟨rfl, (by (have q_hb3 := Below.size hb3; (try simp at q_hb3); have q_hb1 := Below.size hb1; (try simp at q_hb1); repeat (first | exact Below.refl _ _ | (refine Below.trans ?_ (Below.mono hb3 (by first | omega | (simp; omega) | simp))) | (refine Below.trans ?_ (Below.mono hb1 (by first | omega | (simp; omega) | simp))) | (refine Below.setCell ?_ (by first | omega | (simp; omega) | simp) _) | (refine Below.alloc ?_ (by first | omega | (simp; omega) | simp) _) | apply Below.drew | apply below_drewN)))⟩
  · have h16' : ¬ (16 : Int) < s := by omega
    have hbad := HNO.out.resolve_left (by omega)
    refine (pgbytes_bad A1 s c1 l _ hR1 h16 hbad).mono ?_
    rintro e w2 ⟨rfl, hb2⟩
    have b2 : Below w.heap.size w w2 := (by (have q_hb2 := Below.size hb2; (try simp at q_hb2); have q_hb1 := Below.size hb1; (try simp at q_hb1); repeat (first | exact Below.refl _ _ | (refine Below.trans ?_ (Below.mono hb2 (by first | omega | (simp; omega) | simp))) | (refine Below.trans ?_ (Below.mono hb1 (by first | omega | (simp; omega) | simp))) | (refine Below.setCell ?_ (by first | omega | (simp; omega) | simp) _) | (refine Below.alloc ?_ (by first | omega | (simp; omega) | simp) _) | apply Below.drew | apply below_drewN)))
    have hz2 := b2.size
    clear hb1 hb2 hR1
    have HB := Lib.hid hbad
    clear hbad
    go_wp2_with fail
    go_loopw [33] (fun i wr => ∃ k : Nat, k ≤ s ∧ i = .int .i64 k ∧ Hid ((l.take k).any badB = false) ∧ Below w.heap.size w wr) (fun i _ => s - (intOf i).toNat)
    case atStart => exact ⟨0, by omega, rfl, Lib.hid (by simp), b2⟩
    case round =>
      obtain ⟨k, hk, rfl, hg, hbel⟩ := hrel
      have hbz := hbel.size
      by_cases hlt : k < s
      · have hltI : (k : Int) < s := by omega
        obtain ⟨b, off, x, rfl, hb, hx, hcell⟩ := (hr.on hbel (Nat.le_refl _)).at_ hlt
        have c0 := hcell 0 _ rfl
        have c1' := hcell 1 _ rfl
        have c2' := hcell 2 _ rfl
        have c3 := hcell 3 _ rfl
        have c4 := hcell 4 _ rfl
        simp only [show pgE.sz = 5 from rfl, Nat.add_zero] at c0 c1' c2' c3 c4
        obtain ⟨p1, p2, p3, p4, p5⟩ := x
        simp only at c0 c1' c2' c3 c4
        clear hcell
        obtain ⟨M, hM⟩ : ∃ M, mayB (p1, p2, p3, p4, p5) = M := ⟨_, rfl⟩
        have HG := Lib.hid (show M = true → (l.take (k + 1)).any badB = false from fun h => by
          rw [take_step hx, List.any_append, hg.out]
          simp [badB, hM, h])
        clear hx
        go_wp2_with fail
        refine (rone_any p1 p2 p3 p4 p5 _).mono ?_
        rintro e w3 ⟨rfl, hb3⟩
        rw [hM]
        have b3 : Below w.heap.size w w3 := (by (have q_hb3 := Below.size hb3; (try simp at q_hb3); have q_hbel := Below.size hbel; (try simp at q_hbel); repeat (first | exact Below.refl _ _ | (refine Below.trans ?_ (Below.mono hb3 (by first | omega | (simp; omega) | simp))) | (refine Below.trans ?_ (Below.mono hbel (by first | omega | (simp; omega) | simp))) | (refine Below.setCell ?_ (by first | omega | (simp; omega) | simp) _) | (refine Below.alloc ?_ (by first | omega | (simp; omega) | simp) _) | apply Below.drew | apply below_drewN)))
        clear hM c0 c1' c2' c3 c4 hb3
        cases M with
        | true =>
          go_wp2_with fail
          go_roundw
          case rel => exact ⟨k + 1, by omega, by go_num, Lib.hid (HG.out (by simp)), (by (have q_b3 := Below.size b3; (try simp at q_b3); repeat (first | exact Below.refl _ _ | (refine Below.trans ?_ (Below.mono b3 (by first | omega | (simp; omega) | simp))) | (refine Below.setCell ?_ (by first | omega | (simp; omega) | simp) _) | (refine Below.alloc ?_ (by first | omega | (simp; omega) | simp) _) | apply Below.drew | apply below_drewN)))⟩
          case measure => simp [intOf] <;> omega
        | false =>
          go_wp2_with fail
          refine (pawake_any _).mono ?_
          rintro e w4 ⟨rfl, hb4⟩
          go_wp2_with fail
          go_ret
          exact ⟨rfl, (by (have q_hb4 := Below.size hb4; (try simp at q_hb4); have q_b3 := Below.size b3; (try simp at q_b3); repeat (first | exact Below.refl _ _ | (refine Below.trans ?_ (Below.mono hb4 (by first | omega | (simp; omega) | simp))) | (refine Below.trans ?_ (Below.mono b3 (by first | omega | (simp; omega) | simp))) | (refine Below.setCell ?_ (by first | omega | (simp; omega) | simp) _) | (refine Below.alloc ?_ (by first | omega | (simp; omega) | simp) _) | apply Below.drew | apply below_drewN)))⟩
      · obtain rfl : k = s := by omega
        exfalso
        have h := hg.out
        rw [List.take_of_length_le (by omega), HB.out] at h
        cases h
end Go.Proofs.Ytidlcplamgajpaa
