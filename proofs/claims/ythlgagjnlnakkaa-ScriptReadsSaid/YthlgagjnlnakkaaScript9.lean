/- Scripts: their bytes; the chapter's example. -/
import Derived.Test.YthlgagjnlnakkaaScript8
namespace Go.Proofs.Ythlgagjnlnakkaa
open Go.RowKit

theorem smaynot_any (f1 : Int) (f2 : Bool) (f3 f4 f5 f6 : Int) (A : Option Addr) (n c : Nat) (L : List UInt8) (w : World) (ha : Rd w A n L) :
    Calls Try.prog 31 #[actV f1 f2 f3 f4 f5 f6 A n c] w fun e w' => e = .returned (.bool (!mayA ((f1, f2, f3, f4, f5, f6), L))) ∧ Below w.heap.size w w' := by
  have ha1 := ha.alloc (.cells #[.int .i64 f1, .bool f2, .int .i64 f3, .int .i64 f4, .int .i64 f5, .int .i64 f6, .slice A n c] 34)
  go_enter Try.func31, Try.ntmps31
  go_wp2_with fail
  refine (smay_any f1 f2 f3 f4 f5 f6 A n c L _ ha1).mono ?_
  rintro e w1 ⟨rfl, hb1⟩
  obtain ⟨X, hX⟩ : ∃ X, X = mayA ((f1, f2, f3, f4, f5, f6), L) := ⟨_, rfl⟩
  have HX := Lib.hid hX
  rw [← hX]
  clear hX
  go_wp2_with fail
  go_ret
  exact ⟨by rw [← HX.out]; rfl, (by (have q_hb1 := Below.size hb1; (try simp at q_hb1); repeat (first | exact Below.refl _ _ | (refine Below.trans ?_ (Below.mono hb1 (by first | omega | (simp; omega) | simp))) | (refine Below.setCell ?_ (by first | omega | (simp; omega) | simp) _) | (refine Below.alloc ?_ (by first | omega | (simp; omega) | simp) _) | apply Below.drew | apply below_drewN)))⟩

theorem all_stepA {es : List ActD} {k : Nat} {e : ActD} (h : (es.take k).all mayA = true) (he : es[k]? = some e) (hm : mayA e = true) : (es.take (k + 1)).all mayA = true := by
  rw [take_step he, List.all_append, h]; simp [hm]
theorem all_noA {es : List ActD} {k : Nat} {e : ActD} (he : es[k]? = some e) (hm : mayA e = false) : es.all mayA = false := by
  rw [List.all_eq_false]
  exact ⟨e, List.mem_of_getElem? he, by simp [hm]⟩
theorem all_getA {es : List ActD} {k : Nat} {e : ActD} (h : es.all mayA = true) (he : es[k]? = some e) : mayA e = true := List.all_eq_true.1 h _ (List.mem_of_getElem? he)

def FirstBad (w : World) (es : List ActD) (e : Ending) (w' : World) : Prop := (∃ z : Int, e = .returned (.int .i64 z) ∧ decide (0 ≤ z) = !es.all mayA) ∧ Below w.heap.size w w'
set_option maxRecDepth 100000 in
set_option maxHeartbeats 4000000 in
theorem aindex_any (A : Option Addr) (n c B : Nat) (T : TypeId) (es : List ActD) (w : World) (hr : RdR actK B T w A n es) (hn : n ≤ 1000000) :
    Calls Try.prog 42 #[.slice A n c, .func (Fn.func 31) #[] #[]] w (FirstBad w es) := by
  have hlen := hr.len
  go_enter Try.func42, Try.ntmps42
  go_wp2_with fail
  go_loopw [8] (fun i wr => ∃ k : Nat, k ≤ n ∧ i = .int .i64 k ∧ (es.take k).all mayA = true ∧ Below w.heap.size w wr) (fun i _ => n - (intOf i).toNat)
  case atStart => exact ⟨0, by omega, rfl, by simp, Below.refl _ _⟩
  case round =>
    obtain ⟨k, hk, rfl, heq, hbel⟩ := hrel
    have HEQ := Lib.hid heq
    clear heq
    by_cases hlt : k < n
    · obtain ⟨b1, off1, f1, f2, f3, f4, f5, f6, Ad1, nd1, cd1, L1, rfl, hb1, he1, c0, c1', c2', c3, c4, c5, c6, hX1, hnd1, hcd1⟩ := (hr.below hbel).act hlt
      have HE1 := Lib.hid he1
      have q1 : (k : Int) < n := by omega
      clear he1
      go_wp2_with fail
      refine (smaynot_any f1 f2 f3 f4 f5 f6 Ad1 nd1 cd1 L1 _ hX1.1).mono ?_
      rintro e w1 ⟨rfl, hb3⟩
      cases hx : mayA ((f1, f2, f3, f4, f5, f6), L1) with
      | true =>
        have hst := Lib.hid (all_stepA HEQ.out HE1.out hx)
        rw [Bool.not_true]
        clear hx
        go_wp2_with fail
        go_roundw
        case rel => exact ⟨k + 1, by omega, by go_num, hst.out, (by (have q_hb3 := Below.size hb3; (try simp at q_hb3); have q_hbel := Below.size hbel; (try simp at q_hbel); repeat (first | exact Below.refl _ _ | (refine Below.trans ?_ (Below.mono hb3 (by first | omega | (simp; omega) | simp))) | (refine Below.trans ?_ (Below.mono hbel (by first | omega | (simp; omega) | simp))) | (refine Below.setCell ?_ (by first | omega | (simp; omega) | simp) _) | (refine Below.alloc ?_ (by first | omega | (simp; omega) | simp) _) | apply Below.drew | apply below_drewN)))⟩
        case measure => simp [intOf] <;> omega
      | false =>
        have hst := Lib.hid (all_noA HE1.out hx)
        rw [Bool.not_false]
        clear hx
        go_wp2_with fail
        go_ret
        exact ⟨⟨(k : Int), rfl, by rw [hst.out]; simp⟩, (by (have q_hb3 := Below.size hb3; (try simp at q_hb3); have q_hbel := Below.size hbel; (try simp at q_hbel); repeat (first | exact Below.refl _ _ | (refine Below.trans ?_ (Below.mono hb3 (by first | omega | (simp; omega) | simp))) | (refine Below.trans ?_ (Below.mono hbel (by first | omega | (simp; omega) | simp))) | (refine Below.setCell ?_ (by first | omega | (simp; omega) | simp) _) | (refine Below.alloc ?_ (by first | omega | (simp; omega) | simp) _) | apply Below.drew | apply below_drewN)))⟩
    · obtain rfl : k = n := by omega
      have hst := Lib.hid (show es.all mayA = true by have := HEQ.out; rw [List.take_of_length_le (by omega)] at this; exact this)
      go_wp2_with fail
      go_ret
      exact ⟨⟨-1, rfl, by rw [hst.out]; rfl⟩, hbel⟩

theorem acontains_any (A : Option Addr) (n c B : Nat) (T : TypeId) (es : List ActD) (w : World) (hr : RdR actK B T w A n es) (hn : n ≤ 1000000) :
    Calls Try.prog 30 #[.slice A n c, .func (Fn.func 31) #[] #[]] w fun e w' => e = .returned (.bool (!es.all mayA)) ∧ Below w.heap.size w w' := by
  go_enter Try.func30, Try.ntmps30
  go_wp2_with fail
  refine (aindex_any A n c B T es _ hr hn).mono ?_
  rintro e w1 ⟨⟨z, rfl, hz⟩, hb1⟩
  obtain ⟨X, hX⟩ : ∃ X, X = !es.all mayA := ⟨_, rfl⟩
  have HX := Lib.hid hX
  rw [← hX] at hz
  clear hX
  go_wp2_with fail
  go_ret
  exact ⟨by rw [← HX.out]; rfl, hb1⟩

def encS (es : List ActD) : List UInt8 := if es.all mayA = true then (es.map encA).flatten else []
def errS (es : List ActD) : Int := if es.all mayA = true then 0 else 1
/-- A call's end: bytes of its own and an error's number. -/
def GivesBE (w : World) (l : List UInt8) (x : Int) (e : Ending) (w' : World) : Prop := ∃ v, e = .returned (.tuple #[v, .int .i64 x]) ∧ Fresh 5 w.heap.size w' v l ∧ Below w.heap.size w w'
theorem encs_step {es : List ActD} {k : Nat} {e : ActD} (he : es[k]? = some e) : ((es.take k).map encA).flatten ++ encA e = ((es.take (k + 1)).map encA).flatten := by
  rw [take_step he]; simp
theorem encs_len {es : List ActD} (h : ∀ e ∈ es, e.2.length ≤ 1024) (k : Nat) : ((es.take k).map encA).flatten.length ≤ k * 1036 := by
  induction k with
  | zero => simp
  | succ k ih =>
    cases he : es[k]? with
    | none =>
      have h1 : es.length ≤ k := List.getElem?_eq_none_iff.1 he
      have t1 : es.take k = es := List.take_of_length_le h1
      have t2 : es.take (k + 1) = es := List.take_of_length_le (by omega)
      rw [t1] at ih
      rw [t2]
      exact Nat.le_trans ih (Nat.mul_le_mul_right _ (Nat.le_succ k))
    | some e =>
      have := h e (List.mem_of_getElem? he)
      rw [← encs_step he, List.length_append, encA_len, Nat.add_mul]
      exact Nat.add_le_add ih (by omega)

set_option maxRecDepth 100000 in
set_option maxHeartbeats 4000000 in
theorem sencode_any (A : Option Addr) (n c B : Nat) (T : TypeId) (es : List ActD) (w : World) (hr : RdR actK B T w A n es) (hn : n ≤ 1000000) :
    Calls Try.prog 16 #[.slice A n c] w (GivesBE w (encS es) (errS es)) := by
  have hlen := hr.len
  cases hm : es.all mayA with
  | false =>
    have hX := Lib.hid (show errS es = 1 by unfold errS; rw [hm]; rfl)
    have hR := Lib.hid (show encS es = [] by unfold encS; rw [hm]; rfl)
    go_enter Try.func16, Try.ntmps16
    go_wp2_with fail
    refine (acontains_any A n c B T es _ hr hn).mono ?_
    rintro e w1 ⟨rfl, hb1⟩
    rw [hm, Bool.not_false]
    go_wp2_with fail
    go_ret2
    rw [hX.out, hR.out]
    exact ⟨_, rfl, Fresh.nil _ _ _, hb1⟩
  | true =>
    have hX := Lib.hid (show errS es = 0 by unfold errS; rw [hm]; rfl)
    have hR := Lib.hid (show encS es = (es.map encA).flatten by unfold encS; rw [hm]; rfl)
    have HM := Lib.hid hm
    have hall : ∀ e ∈ es, e.2.length ≤ 1024 := fun e he => (mayA_range (List.all_eq_true.1 hm e he)).2.1
    have HL := Lib.hid hall
    clear hall
    go_enter Try.func16, Try.ntmps16
    go_wp2_with fail
    refine (acontains_any A n c B T es _ hr hn).mono ?_
    rintro e w1 ⟨rfl, hb1⟩
    rw [hm, Bool.not_true]
    clear hm
    go_wp2_with fail
    go_loopw [4, 11] (fun v i wr => ∃ k : Nat, k ≤ n ∧ i = .int .i64 k ∧ Fresh 5 w.heap.size wr v ((es.take k).map encA).flatten ∧ Below w.heap.size w wr) (fun _ i _ => n - (intOf i).toNat)
    case atStart => exact ⟨0, by omega, rfl, Fresh.nil _ _ _, hb1⟩
    case round =>
      clear hb1
      obtain ⟨k, hk, rfl, hF, hbel⟩ := hrel
      have hbz := hbel.size
      by_cases hlt : k < n
      · obtain ⟨b1, off1, f1, f2, f3, f4, f5, f6, Ad1, nd1, cd1, L1, rfl, hb1, he1, c0, c1', c2', c3, c4, c5, c6, hX1, hnd1, hcd1⟩ := (hr.below hbel).act hlt
        have hst := Lib.hid (encs_step he1)
        have hkl := encs_len HL.out k
        have hmm := all_getA HM.out he1
        have hLL := HL.out _ (List.mem_of_getElem? he1)
        simp only at hLL
        obtain ⟨R0, hR0⟩ : ∃ R0, R0 = ((es.take k).map encA).flatten := ⟨_, rfl⟩
        rw [← hR0] at hF hst hkl
        obtain ⟨E0, hE0⟩ : ∃ E0, E0 = encA ((f1, f2, f3, f4, f5, f6), L1) := ⟨_, rfl⟩
        have hel : E0.length = 12 + L1.length := by rw [hE0, encA_len]
        have henc := fun (w : World) (hw : Rd w Ad1 nd1 L1) => aenc_any f1 f2 f3 f4 f5 f6 Ad1 nd1 cd1 L1 w hw hmm
        rw [← hE0] at hst henc
        have HENC := Lib.hid henc
        have q1 : (k : Int) < n := by omega
        clear he1 hR0 hE0 henc hmm
        go_wp2_with fail
        refine (HENC.out _ (hX1.1.alloc _)).mono ?_
        rintro e w4 ⟨v4, rfl, hF4, hb4⟩
        obtain ⟨A4, c4, rfl, hR4, _, _, _⟩ := hF4.rdn _ hel
        have b4 : Below w.heap.size w w4 := (by (have q_hb4 := Below.size hb4; (try simp at q_hb4); have q_hbel := Below.size hbel; (try simp at q_hbel); repeat (first | exact Below.refl _ _ | (refine Below.trans ?_ (Below.mono hb4 (by first | omega | (simp; omega) | simp))) | (refine Below.trans ?_ (Below.mono hbel (by first | omega | (simp; omega) | simp))) | (refine Below.setCell ?_ (by first | omega | (simp; omega) | simp) _) | (refine Below.alloc ?_ (by first | omega | (simp; omega) | simp) _) | apply Below.drew | apply below_drewN)))
        have hF5 := (hF.below (w' := wr.alloc (.cells #[.int .i64 f1, .bool f2, .int .i64 f3, .int .i64 f4, .int .i64 f5, .int .i64 f6, .slice Ad1 nd1 cd1] 34)) (by (repeat (first | exact Below.refl _ _ | (refine Below.setCell ?_ (by first | omega | (simp; omega) | simp) _) | (refine Below.alloc ?_ (by first | omega | (simp; omega) | simp) _) | apply Below.drew | apply below_drewN)))).below hb4
        have hz4 := b4.size
        go_wp2_with (at_builtin; refine wpList_append_bytes _ rfl (.tmp 15) (.tmp 17) _ rfl w.heap.size 5 Try.underlying30 info8 _ _ rfl hF5 _ _ _ E0 rfl hR4 (by omega) (by omega) ?_; intro b' w9 hF9 hg9 hb9)
        go_roundw
        case rel => exact ⟨k + 1, by omega, by go_num, by rw [← hst.out]; exact hF9, (by (have q_hb9 := Below.size hb9; (try simp at q_hb9); have q_b4 := Below.size b4; (try simp at q_b4); repeat (first | exact Below.refl _ _ | (refine Below.trans ?_ (Below.mono hb9 (by first | omega | (simp; omega) | simp))) | (refine Below.trans ?_ (Below.mono b4 (by first | omega | (simp; omega) | simp))) | (refine Below.setCell ?_ (by first | omega | (simp; omega) | simp) _) | (refine Below.alloc ?_ (by first | omega | (simp; omega) | simp) _) | apply Below.drew | apply below_drewN)))⟩
        case measure => simp [intOf] <;> omega
      · obtain rfl : k = n := by omega
        have hT := Lib.hid (show es.take k = es from List.take_of_length_le (by omega))
        go_wp2_with fail
        go_ret2
        rw [hX.out, hR.out]
        exact ⟨_, rfl, by have := hF; rw [hT.out] at this; exact this, hbel⟩

set_option maxRecDepth 100000 in
theorem sawake_any (w : World) :
    Calls Try.prog 12 #[] w fun e w' => e = .returned (.bool true) ∧ Below w.heap.size w w' := by
  have hE : encS [((6, false, 0, 0, 5, 0), [])] = [6, 0, 0, 0, 0, 0, 5, 0, 0, 0, 0, 0] := by decide
  have hX : errS [((6, false, 0, 0, 5, 0), [])] = 0 := by decide
  have HE := Lib.hid hE
  have HX := Lib.hid hX
  clear hE hX
  have hr : RdR actK 0 5 (w.alloc (.cells #[.int .i64 6, .bool false, .int .i64 0, .int .i64 0, .int .i64 5, .int .i64 0, .slice none 0 0] 34)) (some ⟨w.heap.size, 0, none⟩) 1 [((6, false, 0, 0, 5, 0), [])] := by
    refine ⟨[((6, false, 0, 0, 5, 0), (none, 0, 0))], RdG.boxed _ _ _ _ rfl, rfl, fun i h e hi he => ?_⟩
    match i, hi, he with
    | 0, hi, he =>
      simp at hi he
      subst hi he
      exact ⟨rfl, ⟨Rd.nil, fun ad hn _ => absurd hn (by show ¬ 0 < 0; omega)⟩, by show 0 ≤ 0; omega, by show 0 ≤ maxLen; unfold maxLen; omega⟩
    | _ + 1, hi, _ => simp at hi
  go_enter Try.func12, Try.ntmps12
  go_wp2_with fail
  refine (sencode_any _ 1 1 0 5 _ _ hr (by omega)).mono ?_
  rintro e w1 ⟨v, rfl, hF, hb1⟩
  rw [HE.out] at hF
  rw [HX.out]
  obtain ⟨A, c, rfl, hR, _, _, _⟩ := hF.rdn 12 rfl
  have cv := conv c _ hR
  have hq : ((str [6, 0, 0, 0, 0, 0, 5, 0, 0, 0, 0, 0]).toList == [6, 0, 0, 0, 0, 0, 5, 0, 0, 0, 0, 0]) = true := by rw [str_toL]; rfl
  go_wp2_with fail
  go_ret
  exact ⟨rfl, (by (have q_hb1 := Below.size hb1; (try simp at q_hb1); repeat (first | exact Below.refl _ _ | (refine Below.trans ?_ (Below.mono hb1 (by first | omega | (simp; omega) | simp))) | (refine Below.setCell ?_ (by first | omega | (simp; omega) | simp) _) | (refine Below.alloc ?_ (by first | omega | (simp; omega) | simp) _) | apply Below.drew | apply below_drewN)))⟩
end Go.Proofs.Ythlgagjnlnakkaa
