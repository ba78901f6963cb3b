/- Logs: their blocks; the chapter's example. -/
import Derived.Test.YthepgnankelmeaaLog5
import Derived.Test.YthepgnankelmeaaSuper3
namespace Go.Proofs.Ythepgnankelmeaa
open Go.RowKit

def encL (cnt : Int) (es : List Ent) : List (List UInt8) := headL cnt es :: es.map (·.2)
def encR (p t cnt : Int) (es : List Ent) : List (List UInt8) := if mayLog p t es = true then encL cnt es else []
def encX (p t : Int) (es : List Ent) : Int := if mayLog p t es = true then 0 else 1
theorem encL_len (cnt : Int) (es : List Ent) : (encL cnt es).length = 1 + es.length := by simp [encL]; omega
/-- A call's end: blocks of its own and an error's number. -/
def GivesSE (T1 T2 : TypeId) (w : World) (ls : List (List UInt8)) (x : Int) (e : Ending) (w' : World) : Prop := ∃ v, e = .returned (.tuple #[v, .int .i64 x]) ∧ OwnSS T1 T2 w.heap.size w' v ls ∧ Below w.heap.size w w'

set_option maxRecDepth 100000 in
set_option maxHeartbeats 8000000 in
theorem lenc_any (p t cnt : Int) (A : Option Addr) (n c B : Nat) (Tb : TypeId) (es : List Ent) (w : World) (hr : RdR entK B Tb w A n es) (hn : n ≤ 1000000) (hc0 : 0 ≤ cnt) (hc1 : cnt ≤ 18446744073709551615) :
    Calls Try.prog 37 #[.agg #[.int .i64 p, .int .i64 t], .agg #[.int .u64 cnt, .slice A n c]] w (GivesSE 5 39 w (encR p t cnt es) (encX p t es)) := by
  have hlen := hr.len
  have P0 : Blk ((w.alloc (.cells #[.int .i64 p, .int .i64 t] 23)).alloc (.cells #[.int .u64 cnt, .slice A n c] 56)) w.heap.size 23 #[.int .i64 p, .int .i64 t] := (Blk.new _ _ _).alloc _
  have Q0 : Blk ((w.alloc (.cells #[.int .i64 p, .int .i64 t] 23)).alloc (.cells #[.int .u64 cnt, .slice A n c] 56)) (w.heap.size + 1) 56 #[.int .u64 cnt, .slice A n c] := by
    simpa using Blk.new (w.alloc (.cells #[.int .i64 p, .int .i64 t] 23)) 56 #[.int .u64 cnt, .slice A n c]
  cases hm : mayLog p t es
  · have hX := Lib.hid (show encX p t es = 1 by unfold encX; rw [hm]; rfl)
    have hR := Lib.hid (show encR p t cnt es = [] by unfold encR; rw [hm]; rfl)
    go_enter Try.func37, Try.ntmps37
    go_wp2_with fail
    refine (lmay_any p t cnt A n c B Tb es _ ((hr.alloc _).alloc _) hn).mono ?_
    rintro e w1 ⟨rfl, hb1⟩
    rw [hm]
    go_wp2_with fail
    go_ret2
    rw [hX.out, hR.out]
    exact ⟨_, rfl, OwnSS.nil _, (by (have q_hb1 := Below.size hb1; (try simp at q_hb1); repeat (first | exact Below.refl _ _ | (refine Below.trans ?_ (Below.mono hb1 (by first | omega | (simp; omega) | simp))) | (refine Below.setCell ?_ (by first | omega | (simp; omega) | simp) _) | (refine Below.alloc ?_ (by first | omega | (simp; omega) | simp) _) | apply Below.drew | apply below_drewN)))⟩
  · obtain ⟨g1, l1, l2, hall⟩ := mayLog_true hm
    obtain ⟨g2, g3, _, g4⟩ := gmay_true g1
    obtain ⟨_, _, _, s1, _, _⟩ := geo_range g2 g3
    have hX := Lib.hid (show encX p t es = 0 by unfold encX; rw [hm]; rfl)
    have hR := Lib.hid (show encR p t cnt es = encL cnt es by unfold encR; rw [hm]; rfl)
    have hn24 : n ≤ 24 := by omega
    have hall2 : ∀ e ∈ es, 0 ≤ e.1 ∧ e.1 ≤ 65535 := fun e he => by have := hall e he; omega
    have hall3 : ∀ e ∈ es, e.2.length = 256 := fun e he => (hall e he).2.2
    have H2 := Lib.hid hall2
    have H3 := Lib.hid hall3
    clear hall hall2 hall3 g1 g2 g3 g4 s1
    go_enter Try.func37, Try.ntmps37
    go_wp2_with fail
    refine (lmay_any p t cnt A n c B Tb es _ ((hr.alloc _).alloc _) hn).mono ?_
    rintro e w1 ⟨rfl, hb1⟩
    rw [hm]
    have Q1 := Q0.on hb1
    have cQ := Q1.cell
    have b1 : Below w.heap.size w w1 := (by (have q_hb1 := Below.size hb1; (try simp at q_hb1); repeat (first | exact Below.refl _ _ | (refine Below.trans ?_ (Below.mono hb1 (by first | omega | (simp; omega) | simp))) | (refine Below.setCell ?_ (by first | omega | (simp; omega) | simp) _) | (refine Below.alloc ?_ (by first | omega | (simp; omega) | simp) _) | apply Below.drew | apply below_drewN)))
    clear P0 Q0 hb1 hm
    go_wp2_with fail
    refine (lhead_any cnt A n c B Tb es _ (hr.on b1 (Nat.le_refl _)) (by omega) hc0 hc1 H2.out).mono ?_
    rintro e w2 ⟨v2, rfl, hF2, hb2⟩
    have Q2 := Q1.on hb2
    have b2 : Below w.heap.size w w2 := (by (have q_hb2 := Below.size hb2; (try simp at q_hb2); have q_b1 := Below.size b1; (try simp at q_b1); repeat (first | exact Below.refl _ _ | (refine Below.trans ?_ (Below.mono hb2 (by first | omega | (simp; omega) | simp))) | (refine Below.trans ?_ (Below.mono b1 (by first | omega | (simp; omega) | simp))) | (refine Below.setCell ?_ (by first | omega | (simp; omega) | simp) _) | (refine Below.alloc ?_ (by first | omega | (simp; omega) | simp) _) | apply Below.drew | apply below_drewN)))
    obtain ⟨A2, c2, rfl, _, _, hc21, hc22⟩ := hF2.rdn 256 (headL_len _ _)
    have hF2' := (hF2.from_ b1.size).alloc (.cells #[.slice A2 256 c2] 39)
    have Q3 := Q2.alloc (.cells #[.slice A2 256 c2] 39)
    have cQ3 := Q3.cell
    have hO0 : OwnSS 5 39 w.heap.size (w2.alloc (.cells #[.slice A2 256 c2] 39)) (.slice (some ⟨w2.heap.size, 0, none⟩) 1 1) [headL cnt es] := by
      refine ⟨[(A2, 256, c2)], FreshG.of_blk (Blk.new w2 _ _) b2.size (by unfold maxLen; omega) rfl rfl, rfl, fun k x l hx hl => ?_⟩
      match k, hx, hl with
      | 0, hx, hl =>
        simp at hx hl
        subst hx hl
        exact hF2'
      | _ + 1, hx, hl => simp at hx
    have b3 : Below w.heap.size w (w2.alloc (.cells #[.slice A2 256 c2] 39)) := (by (have q_b2 := Below.size b2; (try simp at q_b2); repeat (first | exact Below.refl _ _ | (refine Below.trans ?_ (Below.mono b2 (by first | omega | (simp; omega) | simp))) | (refine Below.setCell ?_ (by first | omega | (simp; omega) | simp) _) | (refine Below.alloc ?_ (by first | omega | (simp; omega) | simp) _) | apply Below.drew | apply below_drewN)))
    clear hF2 hF2' Q1 Q2 cQ hb2 b2 b1
    go_wp2_with fail
    go_loopw [6, 19] (fun v i wr => ∃ k : Nat, k ≤ n ∧ i = .int .i64 k ∧ OwnSS 5 39 w.heap.size wr v (headL cnt es :: (es.take k).map (·.2)) ∧ Below w.heap.size w wr) (fun _ i _ => n - (intOf i).toNat)
    case atStart => exact ⟨0, by omega, rfl, by simpa using hO0, b3⟩
    case round =>
      clear hO0 Q3 cQ3 b3
      obtain ⟨k, hk, rfl, hO, hbel⟩ := hrel
      have hbz := hbel.size
      by_cases hlt : k < n
      · obtain ⟨b, off, K, Ad, nd, cd, L, rfl, hb, he, c0, c1, hX1, hnd, hcd⟩ := (hr.below hbel).ent hlt
        have hL := H3.out _ (List.mem_of_getElem? he)
        simp only at hL
        have hLn := hX1.1.len
        obtain rfl : nd = 256 := by omega
        have hst := Lib.hid (show headL cnt es :: (es.take k).map (·.2) ++ [L] = headL cnt es :: (es.take (k + 1)).map (·.2) by rw [take_step he]; simp)
        have hkl : (headL cnt es :: (es.take k).map (·.2)).length ≤ 100 := by simp; omega
        have q1 : (k : Int) < n := by omega
        clear he
        go_wp2_with fail
        refine (clone_any Ad 256 cd L _ (hX1.1.alloc _) (by omega)).mono ?_
        rintro e w4 ⟨v4, rfl, hF4, hb4⟩
        obtain ⟨A4, c4, rfl, _, _, hc41, hc42⟩ := hF4.rdn 256 hL
        have hF4' := hF4.from_ (B' := w.heap.size) (by simp; omega)
        have hO4 := (hO.below (w' := wr.alloc (.cells #[.int .i64 K, .slice Ad 256 cd] 102)) (by (repeat (first | exact Below.refl _ _ | (refine Below.setCell ?_ (by first | omega | (simp; omega) | simp) _) | (refine Below.alloc ?_ (by first | omega | (simp; omega) | simp) _) | apply Below.drew | apply below_drewN)))).below hb4
        have b4 : Below w.heap.size w w4 := (by (have q_hb4 := Below.size hb4; (try simp at q_hb4); have q_hbel := Below.size hbel; (try simp at q_hbel); repeat (first | exact Below.refl _ _ | (refine Below.trans ?_ (Below.mono hb4 (by first | omega | (simp; omega) | simp))) | (refine Below.trans ?_ (Below.mono hbel (by first | omega | (simp; omega) | simp))) | (refine Below.setCell ?_ (by first | omega | (simp; omega) | simp) _) | (refine Below.alloc ?_ (by first | omega | (simp; omega) | simp) _) | apply Below.drew | apply below_drewN)))
        have hz4 := b4.size
        obtain ⟨bs, hrow, hbs, hallb⟩ := hO4
        have hbk : bs.length ≤ 100 := by rw [hbs]; exact hkl
        clear hO hb4 hF4 hX1 hkl
        go_wp2_with (at_builtin; refine wpList_append_G (E := ssE) _ rfl (.tmp 23) (.tmp 27) _ rfl w.heap.size 39 Try.underlying51 infoSS rfl _ bs rfl (hrow.alloc _) _ _ _ [(A4, 256, c4)] rfl (RdG.boxed _ _ _ _ rfl) (by omega) (by omega) (by simp; omega) ?_; intro b' w9 hF9 hg9 hb9)
        have hO9 := OwnSS.more (T1 := 5) (by decide) hbs (hrow.alloc (.cells #[.slice A4 256 c4] 39)) (fun k x l hx hl => (hallb k x l hx hl).below (by (repeat (first | exact Below.refl _ _ | (refine Below.setCell ?_ (by first | omega | (simp; omega) | simp) _) | (refine Below.alloc ?_ (by first | omega | (simp; omega) | simp) _) | apply Below.drew | apply below_drewN)))) (hF4'.below (by (repeat (first | exact Below.refl _ _ | (refine Below.setCell ?_ (by first | omega | (simp; omega) | simp) _) | (refine Below.alloc ?_ (by first | omega | (simp; omega) | simp) _) | apply Below.drew | apply below_drewN)))) hF9 hg9
        go_roundw
        case rel => exact ⟨k + 1, by omega, by go_num, by rw [← hst.out]; exact hO9, (by (have q_hb9 := Below.size hb9; (try simp at q_hb9); have q_b4 := Below.size b4; (try simp at q_b4); repeat (first | exact Below.refl _ _ | (refine Below.trans ?_ (Below.mono hb9 (by first | omega | (simp; omega) | simp))) | (refine Below.trans ?_ (Below.mono b4 (by first | omega | (simp; omega) | simp))) | (refine Below.setCell ?_ (by first | omega | (simp; omega) | simp) _) | (refine Below.alloc ?_ (by first | omega | (simp; omega) | simp) _) | apply Below.drew | apply below_drewN)))⟩
        case measure => simp [intOf] <;> omega
      · obtain rfl : k = n := by omega
        have hT := Lib.hid (show es.take k = es from List.take_of_length_le (by omega))
        go_wp2_with fail
        go_ret2
        rw [hX.out, hR.out]
        exact ⟨_, rfl, by unfold encL; rw [← hT.out]; rw [hT.out] at hO ⊢; exact hO, hbel⟩
end Go.Proofs.Ythepgnankelmeaa
