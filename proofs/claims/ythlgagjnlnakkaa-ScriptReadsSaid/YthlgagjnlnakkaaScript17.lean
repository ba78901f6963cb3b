/- The walk of the statement ScriptJoined. -/
import Derived.Test.YthlgagjnlnakkaaScript16
namespace Go.Proofs.Ythlgagjnlnakkaa
open Go.RowKit

theorem RdG.cutTo {α : Type} {E : Enc α} {w : World} {A : Option Addr} {n : Nat} {l : List α} (h : RdG E w A n l) (m : Nat) (hm : m ≤ n) : RdG E w A m (l.take m) := by
  have hl := h.1
  refine ⟨by simp; omega, fun hp => ?_⟩
  obtain ⟨b, off, hA, hlt, hc⟩ := h.2 (by omega)
  refine ⟨b, off, hA, hlt, fun k a hk j u hu => ?_⟩
  rw [List.getElem?_take] at hk
  split at hk
  · exact hc k a hk j u hu
  · cases hk
theorem RdG.rest {α : Type} {E : Enc α} {w : World} {A : Option Addr} {n : Nat} {l : List α} (h : RdG E w A n l) {k c : Nat} (hk : k ≤ n) (hc : n ≤ c) : RdG E w (if c = k then A else A.map (·.add (k * E.sz))) (n - k) (l.drop k) := by
  have hl := h.1
  refine ⟨by simp; omega, fun hn => ?_⟩
  rw [if_neg (by omega)]
  obtain ⟨b, off, rfl, hb, hcell⟩ := h.2 (by omega)
  refine ⟨b, off + k * E.sz, ?_, hb, fun i a hi j u hu => ?_⟩
  · show some ((⟨b, off, none⟩ : Addr).add (k * E.sz)) = _
    unfold Addr.add
    split <;> simp_all
  · rw [List.getElem?_drop] at hi
    have := hcell _ a hi j u hu
    rw [Nat.add_mul] at this
    rw [← this]
    congr 2
    omega
theorem RdR.cutTo {B : Nat} {T : TypeId} {w : World} {A : Option Addr} {n : Nat} {es : List ActD} (h : RdR actK B T w A n es) (m : Nat) (hm : m ≤ n) : RdR actK B T w A m (es.take m) := by
  obtain ⟨hs, h1, h2, h3⟩ := h
  refine ⟨hs.take m, h1.cutTo m hm, by simp [h2], fun i x e hx he => ?_⟩
  rw [List.getElem?_take] at hx he
  split at hx
  · rename_i hi
    rw [if_pos hi] at he
    exact h3 i x e hx he
  · cases hx
theorem RdR.rest {B : Nat} {T : TypeId} {w : World} {A : Option Addr} {n : Nat} {es : List ActD} (h : RdR actK B T w A n es) {k c : Nat} (hk : k ≤ n) (hc : n ≤ c) : RdR actK B T w (if c = k then A else A.map (·.add (k * 7))) (n - k) (es.drop k) := by
  obtain ⟨hs, h1, h2, h3⟩ := h
  refine ⟨hs.drop k, h1.rest hk hc, by simp [h2], fun i x e hx he => ?_⟩
  rw [List.getElem?_drop] at hx he
  exact h3 _ x e hx he
/-- Other records are appended. -/
theorem RAll.app {η α : Type} {K : RKind η α} {B Br : Nat} {T T2 : TypeId} {w w' : World} {v : Value} {hs hs2 : List η} {es es2 : List α} (ha : RAll K B T w hs es) (ha2 : RAll K B T w hs2 es2) {s : Nat} {m : Nat} {xs : List Value} (hrow : w.ownsRow Br T2 s v m xs) (hBr : B ≤ Br) (hT : T ≠ T2) (hg : w.grownBy w' v.ownBlock) : RAll K B T w' (hs ++ hs2) (es ++ es2) := by
  have up : ∀ {h : η} {e : α}, RItem K B T w h e → RItem K B T w' h e := fun hi => ⟨hi.1, hi.2.1.grown hrow hBr hT hg, hi.2.2⟩
  refine ⟨by simp [ha.1, ha2.1], fun i h' e' h1 h2 => ?_⟩
  rcases Nat.lt_or_ge i hs.length with hk | hk
  · rw [List.getElem?_append_left hk] at h1
    rw [List.getElem?_append_left (by rw [← ha.1]; exact hk)] at h2
    exact up (ha.2 i h' e' h1 h2)
  · rw [List.getElem?_append_right hk] at h1
    rw [List.getElem?_append_right (by rw [← ha.1]; exact hk), ← ha.1] at h2
    exact up (ha2.2 _ h' e' h1 h2)
theorem join_own {B Br : Nat} {T T2 : TypeId} {w w' : World} {v v' : Value} {hs hs2 : List ActH} {es es2 : List ActD} (hF : FreshG actK.E T2 Br w v hs) (ha : RAll actK B T w hs es) (ha2 : RAll actK B T w hs2 es2) (hF' : FreshG actE T2 Br w' v' (hs ++ hs2)) (hg : w.grownBy w' v.ownBlock) (hBr : B ≤ Br) (hT : T ≠ T2) : OwnR actK T2 Br B T w' v' (es ++ es2) := by
  obtain ⟨A, c, e, hown⟩ := id hF
  exact ⟨_, hF', ha.app ha2 hown hBr hT hg⟩
theorem filt_step {es : List ActD} {k : Nat} {e : ActD} {M : Bool} (he : es[k]? = some e) (hm : mayA e = M) : (es.take (k + 1)).filter mayA = (es.take k).filter mayA ++ (if M then [e] else []) := by
  rw [take_step he, List.filter_append]
  cases M <;> simp [hm]
theorem all_filt (es : List ActD) : (es.filter mayA).all mayA = true := by simp
theorem encS_of {es : List ActD} (h : es.all mayA = true) : encS es = (es.map encA).flatten ∧ errS es = 0 := by unfold encS errS; rw [if_pos h, if_pos h]; exact ⟨rfl, rfl⟩
theorem encs_len3 {N m : Nat} {es : List ActD} (h : ∀ e ∈ es, e.2.length ≤ N) (hm : es.length ≤ m) : (es.map encA).flatten.length ≤ m * (12 + N) := by
  have := encs_len2 h m
  rwa [List.take_of_length_le hm] at this

set_option maxRecDepth 100000 in
set_option maxHeartbeats 1000000 in
theorem law_scriptjoined (A1 A2 : Option Addr) (n m c d : Nat) (es fs : List ActD) (w : World) (h1 : RdR actK w.heap.size 5 w A1 n es) (h2 : RdR actK w.heap.size 5 w A2 m fs) :
    Calls Try.prog 6 #[.slice A1 n c, .slice A2 m d] w fun e w' => e = .returned (.bool true) ∧ Below w.heap.size w w' := by
  obtain ⟨a1, ha1⟩ : ∃ a, a = cutA 5 es := ⟨_, rfl⟩
  obtain ⟨a2, ha2⟩ : ∃ b, b = cutA 5 fs := ⟨_, rfl⟩
  obtain ⟨a, ha⟩ : ∃ a, a = a1 ++ a2 := ⟨_, rfl⟩
  obtain ⟨n1, hn1⟩ : ∃ k, a1.length = k := ⟨_, rfl⟩
  obtain ⟨n2, hn2⟩ : ∃ k, a2.length = k := ⟨_, rfl⟩
  obtain ⟨na, hna⟩ : ∃ k, a.length = k := ⟨_, rfl⟩
  have hn15 : n1 ≤ 5 := by rw [← hn1, ha1, cutA_len]; omega
  have hn25 : n2 ≤ 5 := by rw [← hn2, ha2, cutA_len]; omega
  have hnaa : na = n1 + n2 := by rw [← hna, ha, List.length_append, hn1, hn2]
  have HLa := Lib.hid (show ∀ e ∈ a, e.2.length ≤ 1030 by
    intro e he
    rw [ha, List.mem_append, ha1, ha2] at he
    rcases he with he | he
    · exact cutA_le e he
    · exact cutA_le e he)
  have HA1 := Lib.hid ha1
  have HA2 := Lib.hid ha2
  have HA := Lib.hid ha
  have HN1 := Lib.hid hn1
  have HN2 := Lib.hid hn2
  have HNA := Lib.hid hna
  have hna10 : na ≤ 10 := by omega
  clear ha1 ha2 ha hn1 hn2 hna
  go_enter Try.func6, Try.ntmps6
  go_wp2_with fail
  refine (acut_any A1 n c w.heap.size 5 es _ h1 (Nat.le_refl _) (by omega)).mono ?_
  rintro e w1 ⟨v1, rfl, hO1, hb1⟩
  rw [← HA1.out] at hO1
  have hz1 := hb1.size
  go_wp2_with fail
  refine (acut_any A2 m d w.heap.size 5 fs _ (h2.below hb1) (by omega) (by omega)).mono ?_
  rintro e w2 ⟨v2, rfl, hO2, hb2⟩
  rw [← HA2.out] at hO2
  obtain ⟨A2', c2, rfl, ⟨hs2, hR2, hL2⟩, hn2, hm2⟩ := hO2.rd n2 HN2.out
  have hz2 := hb2.size
  obtain ⟨hs1, hFr1, hAll1⟩ := hO1.below hb2
  have hsl1 : hs1.length = n1 := by rw [hAll1.1, HN1.out]
  clear hO1 hO2
  go_wp2_with (at_builtin; refine wpList_append_G (E := actE) _ rfl (.tmp 16) (.tmp 18) _ rfl w.heap.size 32 Try.underlying22 infoRA rfl v1 hs1 rfl hFr1 A2' n2 c2 hs2 rfl hR2 (by omega) (by omega) (by omega) ?_; intro v3 w3 hF3 hg3 hb3; obtain ⟨A3, c3, rfl, hR3, hn3, hm3⟩ := (join_own hFr1 hAll1 hL2 hF3 hg3 (Nat.le_refl _) (by decide)).rd na (by rw [← HA.out]; exact HNA.out); rw [← HA.out] at hR3)
  have b3 : Below w.heap.size w w3 := (show Below w.heap.size w w2 from (by (have q_hb2 := Below.size hb2; (try simp at q_hb2); have q_hb1 := Below.size hb1; (try simp at q_hb1); repeat (first | exact Below.refl _ _ | (refine Below.trans ?_ (Below.mono hb2 (by first | omega | (simp; omega) | simp))) | (refine Below.trans ?_ (Below.mono hb1 (by first | omega | (simp; omega) | simp))) | (refine Below.setCell ?_ (by first | omega | (simp; omega) | simp) _) | (refine Below.alloc ?_ (by first | omega | (simp; omega) | simp) _) | apply Below.drew | apply below_drewN)))).trans hb3
  have hz3 := b3.size
  clear hb1 hb2 hb3 hz1 hz2 hFr1 hAll1 hR2 hL2 hF3 hg3
  go_loopw [5, 6, 21] (fun v nv i wr => ∃ (k q : Nat), k ≤ na ∧ i = .int .i64 k ∧ nv = .int .i64 q ∧ q ≤ ((a.take k).filter mayA).length ∧ OwnR actK 32 w3.heap.size w.heap.size 5 wr v ((a.take k).filter mayA) ∧ Below w3.heap.size w3 wr) (fun _ _ i _ => na - (intOf i).toNat)
  case atStart => exact ⟨0, 0, by omega, rfl, rfl, by simp, OwnR.nil _, Below.refl _ _⟩
  case round =>
    obtain ⟨k, q, hk, rfl, rfl, hq, hO, be3⟩ := hrel
    have hbz3 := be3.size
    have bw : Below w.heap.size w wr := b3.trans (be3.mono hz3)
    clear b3
    obtain ⟨X, hX0⟩ : ∃ X, X = (a.take k).filter mayA := ⟨_, rfl⟩
    rw [← hX0] at hq hO
    have hXl : X.length ≤ 10 := by
      have := List.length_filter_le mayA (a.take k)
      rw [← hX0, List.length_take] at this
      omega
    by_cases hlt : k < na
    · obtain ⟨b, off, f1, f2, f3, f4, f5, f6, Ad, nd, cd, D, rfl, hb, he, c0, c1', c2', c3', c4, c5, c6, hX, hnd, hcd⟩ := (hR3.below be3).act hlt
      have hDl : D.length = nd := hX.1.len
      obtain ⟨M, hM⟩ : ∃ M, mayA ((f1, f2, f3, f4, f5, f6), D) = M := ⟨_, rfl⟩
      have hfil := filt_step he hM
      rw [← hX0] at hfil
      have HM := Lib.hid hM
      have HF := Lib.hid hfil
      have HX := Lib.hid hX
      have Bx := Blk.new wr 32 #[.int .i64 f1, .bool f2, .int .i64 f3, .int .i64 f4, .int .i64 f5, .int .i64 f6, .slice Ad nd cd]
      have q1 : (k : Int) < na := by omega
      clear he hX hM hfil hX0
      go_wp2_with fail
      refine (rmay_any f1 f2 f3 f4 f5 f6 Ad nd cd D _ hDl).mono ?_
      rintro e w5 ⟨rfl, hb5⟩
      have hB5 := Bx.on hb5
      have cB5 := hB5.cell
      have b5 : Below wr.heap.size wr w5 := (by (have q_hb5 := Below.size hb5; (try simp at q_hb5); repeat (first | exact Below.refl _ _ | (refine Below.trans ?_ (Below.mono hb5 (by first | omega | (simp; omega) | simp))) | (refine Below.setCell ?_ (by first | omega | (simp; omega) | simp) _) | (refine Below.alloc ?_ (by first | omega | (simp; omega) | simp) _) | apply Below.drew | apply below_drewN)))
      have hz5 := b5.size
      have hO5 := hO.below b5
      have be5 : Below w3.heap.size w3 w5 := (by (have q_b5 := Below.size b5; (try simp at q_b5); have q_be3 := Below.size be3; (try simp at q_be3); repeat (first | exact Below.refl _ _ | (refine Below.trans ?_ (Below.mono b5 (by first | omega | (simp; omega) | simp))) | (refine Below.trans ?_ (Below.mono be3 (by first | omega | (simp; omega) | simp))) | (refine Below.setCell ?_ (by first | omega | (simp; omega) | simp) _) | (refine Below.alloc ?_ (by first | omega | (simp; omega) | simp) _) | apply Below.drew | apply below_drewN)))
      rw [HM.out]
      clear hb5 Bx hO
      cases M with
      | false =>
        go_wp2_with fail
        go_roundw
        case rel => exact ⟨k + 1, q, by omega, by go_num, rfl, by rw [HF.out]; simp; omega, by rw [HF.out]; simpa using hO5, be5⟩
        case measure => simp [intOf] <;> omega
      | true =>
        obtain ⟨hs, hFr, hAll⟩ := hO5
        have hsl : hs.length = X.length := hAll.1
        have hA2 := hAll.below ((Below.refl _ w5).alloc (Nat.le_refl _) (.cells #[.int .i64 f1, .bool f2, .int .i64 f3, .int .i64 f4, .int .i64 f5, .int .i64 f6, .slice Ad nd cd] 32))
        have hF2 := hFr.alloc (.cells #[.int .i64 f1, .bool f2, .int .i64 f3, .int .i64 f4, .int .i64 f5, .int .i64 f6, .slice Ad nd cd] 32)
        have hI2 : RItem actK w.heap.size 5 (w5.alloc (.cells #[.int .i64 f1, .bool f2, .int .i64 f3, .int .i64 f4, .int .i64 f5, .int .i64 f6, .slice Ad nd cd] 32)) ((f1, f2, f3, f4, f5, f6), (Ad, nd, cd)) ((f1, f2, f3, f4, f5, f6), D) := ⟨rfl, (HX.out.below b5).below ((Below.refl _ w5).alloc (Nat.le_refl _) _), hnd, hcd⟩
        have hRb : RdG actE (w5.alloc (.cells #[.int .i64 f1, .bool f2, .int .i64 f3, .int .i64 f4, .int .i64 f5, .int .i64 f6, .slice Ad nd cd] 32)) (some ⟨w5.heap.size, 0, none⟩) 1 [((f1, f2, f3, f4, f5, f6), (Ad, nd, cd))] := RdG.boxed _ _ _ _ rfl
        have HI2 := Lib.hid hI2
        clear hI2
        go_wp2_with (at_builtin; refine wpList_append_G (E := actE) _ rfl (.tmp 28) (.tmp 30) _ rfl w3.heap.size 32 Try.underlying22 infoRA rfl u5 hs rfl hF2 (some ⟨w5.heap.size, 0, none⟩) 1 1 [((f1, f2, f3, f4, f5, f6), (Ad, nd, cd))] rfl hRb (by omega) (by omega) (by simp; omega) ?_; intro b' w6 hF3 hg3 hb3)
        have hO3 : OwnR actK 32 w3.heap.size w.heap.size 5 w6 b' (X ++ [((f1, f2, f3, f4, f5, f6), D)]) := by
          obtain ⟨A4, c4', e4, hown4⟩ := id hF2
          exact ⟨_, hF3, hA2.more HI2.out hown4 hz3 (by decide) hg3⟩
        have be6 : Below w3.heap.size w3 w6 := (show Below w3.heap.size w3 (w5.alloc (.cells #[.int .i64 f1, .bool f2, .int .i64 f3, .int .i64 f4, .int .i64 f5, .int .i64 f6, .slice Ad nd cd] 32)) from (by (have q_be5 := Below.size be5; (try simp at q_be5); repeat (first | exact Below.refl _ _ | (refine Below.trans ?_ (Below.mono be5 (by first | omega | (simp; omega) | simp))) | (refine Below.setCell ?_ (by first | omega | (simp; omega) | simp) _) | (refine Below.alloc ?_ (by first | omega | (simp; omega) | simp) _) | apply Below.drew | apply below_drewN)))).trans hb3
        have bw6 : Below w.heap.size w w6 := (show Below w.heap.size w (w5.alloc (.cells #[.int .i64 f1, .bool f2, .int .i64 f3, .int .i64 f4, .int .i64 f5, .int .i64 f6, .slice Ad nd cd] 32)) from (by (have q_b5 := Below.size b5; (try simp at q_b5); have q_bw := Below.size bw; (try simp at q_bw); repeat (first | exact Below.refl _ _ | (refine Below.trans ?_ (Below.mono b5 (by first | omega | (simp; omega) | simp))) | (refine Below.trans ?_ (Below.mono bw (by first | omega | (simp; omega) | simp))) | (refine Below.setCell ?_ (by first | omega | (simp; omega) | simp) _) | (refine Below.alloc ?_ (by first | omega | (simp; omega) | simp) _) | apply Below.drew | apply below_drewN)))).trans (hb3.mono hz3)
        refine (acut_any A1 n c w.heap.size 5 es _ (h1.below bw6) bw6.size (by omega)).mono ?_
        rintro e w7 ⟨v7, rfl, hO7, hb7⟩
        obtain ⟨nc, hnc⟩ : ∃ nc, (cutA 5 es).length = nc := ⟨_, rfl⟩
        obtain ⟨A7, c7, rfl, _, _, _⟩ := hO7.rd nc hnc
        have hO7 := hO3.below hb7
        have be7 : Below w3.heap.size w3 w7 := (by (have q_hb7 := Below.size hb7; (try simp at q_hb7); have q_be6 := Below.size be6; (try simp at q_be6); repeat (first | exact Below.refl _ _ | (refine Below.trans ?_ (Below.mono hb7 (by first | omega | (simp; omega) | simp))) | (refine Below.trans ?_ (Below.mono be6 (by first | omega | (simp; omega) | simp))) | (refine Below.setCell ?_ (by first | omega | (simp; omega) | simp) _) | (refine Below.alloc ?_ (by first | omega | (simp; omega) | simp) _) | apply Below.drew | apply below_drewN)))
        clear hO3 hb7 hb3 hF3 hg3 cB5 hB5 hF2 hA2 hFr hAll HI2
        by_cases hkc : k < nc
        · have q2 : (k : Int) < nc := by omega
          go_wp2_with fail
          go_roundw
          case rel => exact ⟨k + 1, q + 1, by omega, by go_num, by go_num, by rw [HF.out]; simp; omega, by rw [HF.out]; simpa using hO7, be7⟩
          case measure => simp [intOf] <;> omega
        · have q2 : ¬ (k : Int) < nc := by omega
          go_wp2_with fail
          go_roundw
          case rel => exact ⟨k + 1, q, by omega, by go_num, rfl, by rw [HF.out]; simp; omega, by rw [HF.out]; simpa using hO7, be7⟩
          case measure => simp [intOf] <;> omega
    · obtain rfl : k = na := by omega
      have hT : a.take k = a := List.take_of_length_le (by rw [HNA.out]; omega)
      rw [hT] at hX0
      have hall : X.all mayA = true := by rw [hX0]; exact all_filt a
      have HALL := Lib.hid hall
      have hXb : ∀ e ∈ X, e.2.length ≤ 1030 := by
        intro e he
        rw [hX0] at he
        exact HLa.out e (List.mem_filter.1 he).1
      obtain ⟨nX, hnX⟩ : ∃ nX, X.length = nX := ⟨_, rfl⟩
      obtain ⟨x1, hx1⟩ : ∃ x1, x1 = X.take q := ⟨_, rfl⟩
      obtain ⟨x2, hx2⟩ : ∃ x2, x2 = X.drop q := ⟨_, rfl⟩
      have hxx : x1 ++ x2 = X := by rw [hx1, hx2]; exact List.take_append_drop q X
      have hl1 : x1.length = q := by rw [hx1, List.length_take]; omega
      have hl2 : x2.length = nX - q := by rw [hx2, List.length_drop]; omega
      have HXB1 := Lib.hid (show ∀ e ∈ x1, e.2.length ≤ 1000000 by intro e he; have := hXb e (by rw [← hxx]; exact List.mem_append_left _ he); omega)
      have HXB2 := Lib.hid (show ∀ e ∈ x2, e.2.length ≤ 1000000 by intro e he; have := hXb e (by rw [← hxx]; exact List.mem_append_right _ he); omega)
      rw [← hxx, List.all_append, Bool.and_eq_true] at hall
      obtain ⟨e1, z1⟩ := encS_of hall.1
      obtain ⟨e2, z2⟩ := encS_of hall.2
      have hk1 := encs_len3 (m := 10) HXB1.out (by omega)
      have hk2 := encs_len3 (m := 10) HXB2.out (by omega)
      rw [← e1] at hk1
      rw [← e2] at hk2
      obtain ⟨L1, hL1⟩ : ∃ L1, L1 = encS x1 := ⟨_, rfl⟩
      obtain ⟨L2, hL2⟩ : ∃ L2, L2 = encS x2 := ⟨_, rfl⟩
      obtain ⟨l1, hl1'⟩ : ∃ l1, L1.length = l1 := ⟨_, rfl⟩
      obtain ⟨l2, hl2'⟩ : ∃ l2, L2.length = l2 := ⟨_, rfl⟩
      have p1 := Lib.hid (show PA (L1 ++ L2) X [] from ⟨HALL.out, by rw [hL1, hL2, e1, e2, ← hxx, List.append_nil, List.map_append, List.flatten_append]⟩)
      rw [← hL1] at hk1
      rw [← hL2] at hk2
      have H1 := Lib.hid hx1
      have H2 := Lib.hid hx2
      have Z1 := Lib.hid z1
      have Z2 := Lib.hid z2
      have HL1 := Lib.hid hL1
      have HL2 := Lib.hid hL2
      have HK1 := Lib.hid hl1
      have HK2 := Lib.hid hl2
      obtain ⟨A5, c5, rfl, hR5, hn5, hm5⟩ := hO.rd nX hnX
      clear hX0 hT hall hXb hx1 hx2 hxx e1 e2 z1 z2 hL1 hL2 hl1 hl2 hO
      rw [hl1'] at hk1
      rw [hl2'] at hk2
      have hqn : q ≤ nX := by omega
      have hq0 : (q : Int) ≤ c5 := by omega
      have hq1 : (q : Int) ≤ nX := by omega
      have hnX10 : nX ≤ 10 := by omega
      have hR1 : RdR actK w.heap.size 5 wr A5 q x1 := by
        have h_ := hR5.cutTo q hqn
        rw [← H1.out] at h_
        exact h_
      have hR2 : RdR actK w.heap.size 5 wr (if c5 = q then A5 else A5.map (·.add (q * 7))) (nX - q) x2 := by
        have h_ := hR5.rest hqn hn5
        rw [← H2.out] at h_
        exact h_
      have hwz := bw.size
      go_wp2_with fail
      refine (aours_any A5 q c5 w.heap.size x1 _ hR1 hwz (by omega) HXB1.out).mono ?_
      rintro e w5 ⟨v5, rfl, hO5, hb5⟩
      obtain ⟨A6, c6, rfl, hR6, hn6, hm6⟩ := hO5.rd q HK1.out
      have hz5 := hb5.size
      clear hO5 hR1
      go_wp2_with fail
      refine (sencode_any A6 q c6 _ _ x1 _ hR6 (by omega)).mono ?_
      rintro e w6 ⟨v6, rfl, hF6, hb6⟩
      have hz6 := hb6.size
      rw [← HL1.out] at hF6
      rw [Z1.out]
      obtain ⟨A7, c7, rfl, hR7, _, hn7, hm7⟩ := hF6.rdn l1 hl1'
      clear hF6 hR6
      have hR2b := hR2.below (show Below wr.heap.size wr w6 from (by (have q_hb6 := Below.size hb6; (try simp at q_hb6); have q_hb5 := Below.size hb5; (try simp at q_hb5); repeat (first | exact Below.refl _ _ | (refine Below.trans ?_ (Below.mono hb6 (by first | omega | (simp; omega) | simp))) | (refine Below.trans ?_ (Below.mono hb5 (by first | omega | (simp; omega) | simp))) | (refine Below.setCell ?_ (by first | omega | (simp; omega) | simp) _) | (refine Below.alloc ?_ (by first | omega | (simp; omega) | simp) _) | apply Below.drew | apply below_drewN))))
      have hwz6 : w.heap.size ≤ w6.heap.size := by omega
      have hnx1 : nX - q ≤ 1000 := by omega
      by_cases hcq : c5 = q
      · subst hcq
        have hnz : nX - c5 = 0 := by omega
        rw [if_pos rfl, hnz] at hR2b
        have HK2b := Lib.hid (HK2.out.trans hnz)
        clear hnz HK2 hR2
        go_wp2_with fail
        refine (aours_any A5 0 0 w.heap.size x2 _ hR2b hwz6 (by omega) HXB2.out).mono ?_
        rintro e w7 ⟨v7, rfl, hO7, hb7⟩
        obtain ⟨A8, c8, rfl, hR8, hn8, hm8⟩ := hO7.rd 0 HK2b.out
        have hz7 := hb7.size
        clear hO7 hR2b
        go_wp2_with fail
        refine (sencode_any A8 0 c8 _ _ x2 _ hR8 (by omega)).mono ?_
        rintro e w8 ⟨v8, rfl, hF8, hb8⟩
        have hz8 := hb8.size
        rw [← HL2.out] at hF8
        rw [Z2.out]
        obtain ⟨A9, c9, rfl, hR9, _, hn9, hm9⟩ := hF8.rdn l2 hl2'
        clear hF8 hR8
        have hR7' := (hR7.below (show Below w6.heap.size w6 w8 from (by (have q_hb8 := Below.size hb8; (try simp at q_hb8); have q_hb7 := Below.size hb7; (try simp at q_hb7); repeat (first | exact Below.refl _ _ | (refine Below.trans ?_ (Below.mono hb8 (by first | omega | (simp; omega) | simp))) | (refine Below.trans ?_ (Below.mono hb7 (by first | omega | (simp; omega) | simp))) | (refine Below.setCell ?_ (by first | omega | (simp; omega) | simp) _) | (refine Below.alloc ?_ (by first | omega | (simp; omega) | simp) _) | apply Below.drew | apply below_drewN))))).alloc (.cells #[] 5)
        have hlit : Fresh 5 w8.heap.size (w8.alloc (.cells #[] 5)) (.slice (some ⟨w8.heap.size, 0, none⟩) 0 0) [] := Fresh.of_blk (Blk.new w8 _ _) (Nat.le_refl _) (by unfold maxLen; omega) rfl rfl
        go_wp2_with (at_builtin; first | (refine wpList_append_bytes _ rfl (.tmp 57) (.tmp 58) _ rfl w8.heap.size 5 Try.underlying30 info8 (.slice (some ⟨w8.heap.size, 0, none⟩) 0 0) [] rfl hlit A7 l1 c7 L1 rfl hR7' (by simp; omega) (by simp) ?_; intro b1 w10 hF10 hg10 hb10; rw [List.nil_append] at hF10; have b10 : Below w8.heap.size w8 w10 := ((Below.refl _ w8).alloc (Nat.le_refl _) _).trans hb10; have hR9' := hR9.below b10) | (refine wpList_append_bytes _ rfl (.tmp 59) (.tmp 60) _ rfl w8.heap.size 5 Try.underlying30 info8 b1 L1 rfl hF10 A9 l2 c9 L2 rfl hR9' (by omega) b10.size ?_; intro b2 w11 hF11 hg11 hb11; obtain ⟨A11, c11, rfl, hR11, _, hn11, hm11⟩ := hF11.rdn (l1 + l2) (by rw [List.length_append, hl1', hl2'])))
        have b11 : Below w8.heap.size w8 w11 := b10.trans hb11
        have hz11 := b11.size
        refine (sparse_any A11 (l1 + l2) c11 (L1 ++ L2) _ hR11 (by omega) hn11 hm11).mono ?_
        intro e w12 hP
        obtain ⟨v12, rfl, hO12, hb12⟩ := parsed_own p1.out hP
        obtain ⟨A12, c12, rfl, hR12, hn12, hm12⟩ := hO12.rd nX hnX
        have hz12 := hb12.size
        clear hO12 hP
        go_wp2_with fail
        refine (aplain_any A12 nX c12 _ X _ hR12 hz12 (by omega)).mono ?_
        rintro e w13 ⟨v13, rfl, hO13, hb13⟩
        obtain ⟨A13, c13, rfl, hR13, hn13, hm13⟩ := hO13.rd nX hnX
        have b13 : Below wr.heap.size wr w13 := (by (have q_hb13 := Below.size hb13; (try simp at q_hb13); have q_hb12 := Below.size hb12; (try simp at q_hb12); have q_b11 := Below.size b11; (try simp at q_b11); have q_hb8 := Below.size hb8; (try simp at q_hb8); have q_hb7 := Below.size hb7; (try simp at q_hb7); have q_hb6 := Below.size hb6; (try simp at q_hb6); have q_hb5 := Below.size hb5; (try simp at q_hb5); repeat (first | exact Below.refl _ _ | (refine Below.trans ?_ (Below.mono hb13 (by first | omega | (simp; omega) | simp))) | (refine Below.trans ?_ (Below.mono hb12 (by first | omega | (simp; omega) | simp))) | (refine Below.trans ?_ (Below.mono b11 (by first | omega | (simp; omega) | simp))) | (refine Below.trans ?_ (Below.mono hb8 (by first | omega | (simp; omega) | simp))) | (refine Below.trans ?_ (Below.mono hb7 (by first | omega | (simp; omega) | simp))) | (refine Below.trans ?_ (Below.mono hb6 (by first | omega | (simp; omega) | simp))) | (refine Below.trans ?_ (Below.mono hb5 (by first | omega | (simp; omega) | simp))) | (refine Below.setCell ?_ (by first | omega | (simp; omega) | simp) _) | (refine Below.alloc ?_ (by first | omega | (simp; omega) | simp) _) | apply Below.drew | apply below_drewN)))
        go_wp2_with fail
        refine (rall_any false A13 A5 nX nX c13 c5 _ _ _ _ X X _ hR13 (hR5.below b13) (by omega)).mono ?_
        rintro e w14 ⟨rfl, hb14⟩
        rw [allA_refl]
        go_wp2_with fail
        refine (sawake_any _).mono ?_
        rintro e w15 ⟨rfl, hb15⟩
        go_wp2_with fail
        go_ret
        exact ⟨rfl, (by (have q_hb15 := Below.size hb15; (try simp at q_hb15); have q_hb14 := Below.size hb14; (try simp at q_hb14); have q_b13 := Below.size b13; (try simp at q_b13); have q_bw := Below.size bw; (try simp at q_bw); repeat (first | exact Below.refl _ _ | (refine Below.trans ?_ (Below.mono hb15 (by first | omega | (simp; omega) | simp))) | (refine Below.trans ?_ (Below.mono hb14 (by first | omega | (simp; omega) | simp))) | (refine Below.trans ?_ (Below.mono b13 (by first | omega | (simp; omega) | simp))) | (refine Below.trans ?_ (Below.mono bw (by first | omega | (simp; omega) | simp))) | (refine Below.setCell ?_ (by first | omega | (simp; omega) | simp) _) | (refine Below.alloc ?_ (by first | omega | (simp; omega) | simp) _) | apply Below.drew | apply below_drewN)))⟩
      · rw [if_neg hcq] at hR2b
        go_wp2_with fail
        refine (aours_any (A5.map (fun x => x.add (q * 7))) (nX - q) (c5 - q) w.heap.size x2 _ hR2b hwz6 (by omega) HXB2.out).mono ?_
        rintro e w7 ⟨v7, rfl, hO7, hb7⟩
        obtain ⟨A8, c8, rfl, hR8, hn8, hm8⟩ := hO7.rd (nX - q) HK2.out
        have hz7 := hb7.size
        clear hO7 hR2b
        go_wp2_with fail
        refine (sencode_any A8 (nX - q) c8 _ _ x2 _ hR8 (by omega)).mono ?_
        rintro e w8 ⟨v8, rfl, hF8, hb8⟩
        have hz8 := hb8.size
        rw [← HL2.out] at hF8
        rw [Z2.out]
        obtain ⟨A9, c9, rfl, hR9, _, hn9, hm9⟩ := hF8.rdn l2 hl2'
        clear hF8 hR8
        have hR7' := (hR7.below (show Below w6.heap.size w6 w8 from (by (have q_hb8 := Below.size hb8; (try simp at q_hb8); have q_hb7 := Below.size hb7; (try simp at q_hb7); repeat (first | exact Below.refl _ _ | (refine Below.trans ?_ (Below.mono hb8 (by first | omega | (simp; omega) | simp))) | (refine Below.trans ?_ (Below.mono hb7 (by first | omega | (simp; omega) | simp))) | (refine Below.setCell ?_ (by first | omega | (simp; omega) | simp) _) | (refine Below.alloc ?_ (by first | omega | (simp; omega) | simp) _) | apply Below.drew | apply below_drewN))))).alloc (.cells #[] 5)
        have hlit : Fresh 5 w8.heap.size (w8.alloc (.cells #[] 5)) (.slice (some ⟨w8.heap.size, 0, none⟩) 0 0) [] := Fresh.of_blk (Blk.new w8 _ _) (Nat.le_refl _) (by unfold maxLen; omega) rfl rfl
        go_wp2_with (at_builtin; first | (refine wpList_append_bytes _ rfl (.tmp 57) (.tmp 58) _ rfl w8.heap.size 5 Try.underlying30 info8 (.slice (some ⟨w8.heap.size, 0, none⟩) 0 0) [] rfl hlit A7 l1 c7 L1 rfl hR7' (by simp; omega) (by simp) ?_; intro b1 w10 hF10 hg10 hb10; rw [List.nil_append] at hF10; have b10 : Below w8.heap.size w8 w10 := ((Below.refl _ w8).alloc (Nat.le_refl _) _).trans hb10; have hR9' := hR9.below b10) | (refine wpList_append_bytes _ rfl (.tmp 59) (.tmp 60) _ rfl w8.heap.size 5 Try.underlying30 info8 b1 L1 rfl hF10 A9 l2 c9 L2 rfl hR9' (by omega) b10.size ?_; intro b2 w11 hF11 hg11 hb11; obtain ⟨A11, c11, rfl, hR11, _, hn11, hm11⟩ := hF11.rdn (l1 + l2) (by rw [List.length_append, hl1', hl2'])))
        have b11 : Below w8.heap.size w8 w11 := b10.trans hb11
        have hz11 := b11.size
        refine (sparse_any A11 (l1 + l2) c11 (L1 ++ L2) _ hR11 (by omega) hn11 hm11).mono ?_
        intro e w12 hP
        obtain ⟨v12, rfl, hO12, hb12⟩ := parsed_own p1.out hP
        obtain ⟨A12, c12, rfl, hR12, hn12, hm12⟩ := hO12.rd nX hnX
        have hz12 := hb12.size
        clear hO12 hP
        go_wp2_with fail
        refine (aplain_any A12 nX c12 _ X _ hR12 hz12 (by omega)).mono ?_
        rintro e w13 ⟨v13, rfl, hO13, hb13⟩
        obtain ⟨A13, c13, rfl, hR13, hn13, hm13⟩ := hO13.rd nX hnX
        have b13 : Below wr.heap.size wr w13 := (by (have q_hb13 := Below.size hb13; (try simp at q_hb13); have q_hb12 := Below.size hb12; (try simp at q_hb12); have q_b11 := Below.size b11; (try simp at q_b11); have q_hb8 := Below.size hb8; (try simp at q_hb8); have q_hb7 := Below.size hb7; (try simp at q_hb7); have q_hb6 := Below.size hb6; (try simp at q_hb6); have q_hb5 := Below.size hb5; (try simp at q_hb5); repeat (first | exact Below.refl _ _ | (refine Below.trans ?_ (Below.mono hb13 (by first | omega | (simp; omega) | simp))) | (refine Below.trans ?_ (Below.mono hb12 (by first | omega | (simp; omega) | simp))) | (refine Below.trans ?_ (Below.mono b11 (by first | omega | (simp; omega) | simp))) | (refine Below.trans ?_ (Below.mono hb8 (by first | omega | (simp; omega) | simp))) | (refine Below.trans ?_ (Below.mono hb7 (by first | omega | (simp; omega) | simp))) | (refine Below.trans ?_ (Below.mono hb6 (by first | omega | (simp; omega) | simp))) | (refine Below.trans ?_ (Below.mono hb5 (by first | omega | (simp; omega) | simp))) | (refine Below.setCell ?_ (by first | omega | (simp; omega) | simp) _) | (refine Below.alloc ?_ (by first | omega | (simp; omega) | simp) _) | apply Below.drew | apply below_drewN)))
        go_wp2_with fail
        refine (rall_any false A13 A5 nX nX c13 c5 _ _ _ _ X X _ hR13 (hR5.below b13) (by omega)).mono ?_
        rintro e w14 ⟨rfl, hb14⟩
        rw [allA_refl]
        go_wp2_with fail
        refine (sawake_any _).mono ?_
        rintro e w15 ⟨rfl, hb15⟩
        go_wp2_with fail
        go_ret
        exact ⟨rfl, (by (have q_hb15 := Below.size hb15; (try simp at q_hb15); have q_hb14 := Below.size hb14; (try simp at q_hb14); have q_b13 := Below.size b13; (try simp at q_b13); have q_bw := Below.size bw; (try simp at q_bw); repeat (first | exact Below.refl _ _ | (refine Below.trans ?_ (Below.mono hb15 (by first | omega | (simp; omega) | simp))) | (refine Below.trans ?_ (Below.mono hb14 (by first | omega | (simp; omega) | simp))) | (refine Below.trans ?_ (Below.mono b13 (by first | omega | (simp; omega) | simp))) | (refine Below.trans ?_ (Below.mono bw (by first | omega | (simp; omega) | simp))) | (refine Below.setCell ?_ (by first | omega | (simp; omega) | simp) _) | (refine Below.alloc ?_ (by first | omega | (simp; omega) | simp) _) | apply Below.drew | apply below_drewN)))⟩
end Go.Proofs.Ythlgagjnlnakkaa
