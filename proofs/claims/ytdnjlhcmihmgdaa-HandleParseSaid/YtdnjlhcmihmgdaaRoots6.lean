/- Heads: parsed, by the program. -/
import Derived.Test.YtdnjlhcmihmgdaaRoots5
import Derived.Test.YtdnjlhcmihmgdaaZero
namespace Go.Proofs.Ytdnjlhcmihmgdaa
open Go.RowKit

set_option maxHeartbeats 1000000 in
theorem equal_any (A B : Option Addr) (n m c d : Nat) (a b : List UInt8) (w : World) (ha : Rd w A n a) (hb : Rd w B m b) :
    Calls Try.prog 54 #[.slice A n c, .slice B m d] w fun e w' => e = .returned (.bool (decide (a = b))) ∧ w = w' := by
  have h1 := run_str (P := Try.prog) ha 39 5 9 c Try.underlying39 Try.underlying5 Try.underlying9
  have h2 := run_str (P := Try.prog) hb 39 5 9 d Try.underlying39 Try.underlying5 Try.underlying9
  have hq := Lib.hid (show ((str a).toList == (str b).toList) = decide (a = b) by rw [Bool.eq_iff_iff]; simp [str_toL])
  go_enter Try.func54, Try.ntmps54
  go_wp2_with fail
  go_ret
  exact ⟨ret_bool hq.out, rfl⟩

def stR (s : List UInt8 × Int) : List UInt8 × Int := (takeL s.1 s.2 8, takeE s.1 s.2 8)
/-- The row behind so many numbers; the numbers. -/
def stK (b : List UInt8) : Nat → List UInt8 × Int
  | 0 => (b, 0)
  | k + 1 => stR (stK b k)
def vaK (b : List UInt8) (k : Nat) : Int := (getL (takeO (stK b k).1 (stK b k).2 8) : Int)
def vaF (b : List UInt8) : Nat → Int := fun i => vaK b (i + 1)
theorem vaK_range (b : List UInt8) (k : Nat) : 0 ≤ vaK b k ∧ vaK b k ≤ 18446744073709551615 := by
  have h1 := getL_small (takeO (stK b k).1 (stK b k).2 8) (by unfold takeO; split <;> simp <;> omega)
  unfold vaK
  omega
/-- A row's number of eight bytes. -/
theorem numK (b : List UInt8) (k : Nat) (g : Nat) (gs : List Nat) (w : World) (h : RowIs 87 w g gs (stK b k).1 (stK b k).2) :
    Calls Try.prog 35 #[.pointer (some ⟨g, 0, none⟩), .int .i64 8] w fun e w' => e = .returned (.int .u64 (vaK b k)) ∧ RowIs 87 w' g gs (stK b (k + 1)).1 (stK b (k + 1)).2 ∧ Kept [g] w w' :=
  num_any g gs (stK b k).1 (stK b k).2 8 w h (by omega)
/-- What is parsed of bytes: does a block of noughts stand there; else is it just what the program would write? -/
def goodR (b : List UInt8) : Bool := decide (serrR (vaK b 0) (vaF b) = 0 ∧ b = sencR (vaK b 0) (vaF b))
def parN (b : List UInt8) : Int := if b.length = 256 ∧ zeroB b = true then 1 else if goodR b = true then vaK b 0 else 0
def parF (b : List UInt8) : Nat → Int := if b.length = 256 ∧ zeroB b = true then (fun _ => 0) else if goodR b = true then vaF b else (fun _ => 0)
def parE (b : List UInt8) : Int := if b.length = 256 ∧ zeroB b = true then 0 else if goodR b = true then 0 else 4
theorem hz_one (n : Int) : (hz n).all (fun x => x.oneCell') = true := by simp [hz, Value.oneCell']
/-- A result that lies in a cell, and an error's number. -/
theorem ret_cell2 {P : Program} {fn : Func} {R : Ending → World → Prop} {a : Act} {w : World} {p u : Tmp} {ty : TypeId} {g : Nat} {T : TypeId} {cur : Array Value} {x : Value} (h : fn.results = #[.cell p ty, .tmp u]) (hp : a.tmps.getD p undef = .pointer (some ⟨g, 0, none⟩)) (hx : a.tmps.getD u undef = x)
    (hB : Blk w g T cur) (d : TypeDesc) (hu : P.underlying ty = some d) (hd : d.isRow = true) (hi : (P.info? ty).map (·.size) = some cur.size) (hdf : a.defers = []) (hR : R (.returned (.tuple #[.agg cur, x])) w) : bodyPost P fn R .ret a w := by
  have hld := hB.loadVar (P := P) ty d hu hd hi
  refine bodyPost_ret (v := .tuple #[.agg cur, x]) ?_ hdf hR
  rw [results_cell_tmp h, hp, hx]
  simp [asAddr, Result.andThen, hld]

set_option maxRecDepth 100000 in
set_option maxHeartbeats 1000000 in
theorem sparseR_any (A : Option Addr) (n c : Nat) (b : List UInt8) (w : World) (hr : Rd w A n b) (hn : n ≤ 1000000000) :
    Calls Try.prog 42 #[.slice A n c] w fun e w' => e = .returned (.tuple #[.agg (hd (parN b) (parF b)), .int .i64 (parE b)]) ∧ Below w.heap.size w w' := by
  have hbl := hr.len
  have H0 := Blk.new w 70 (hz 0)
  have hb0 : Below w.heap.size w (w.alloc (.cells (hz 0) 70)) := (by (repeat (first | exact Below.refl _ _ | (refine Below.setCell ?_ (by first | omega | (simp; omega) | simp) _) | (refine Below.alloc ?_ (by first | omega | (simp; omega) | simp) _) | apply Below.drew | apply below_drewN)))
  by_cases hz256 : n = 256 ∧ zeroB b = true
  · obtain ⟨h256, hzz⟩ := hz256
    subst h256
    have p1 := Lib.hid (show parN b = 1 by unfold parN; rw [if_pos ⟨hbl, hzz⟩])
    have p2 := Lib.hid (show parF b = fun _ => 0 by unfold parF; rw [if_pos ⟨hbl, hzz⟩])
    have p3 := Lib.hid (show parE b = 0 by unfold parE; rw [if_pos ⟨hbl, hzz⟩])
    go_enter Try.func42, Try.ntmps42
    go_wp2_with fail
    refine (zero_any A 256 c b _ (hr.alloc _) (by unfold maxLen; omega)).mono ?_
    rintro e w1 ⟨rfl, rfl⟩
    rw [hzz]
    go_wp2_with (refine wpList_store_blk rfl 70 (.tmp 2) (.tmp 16) rfl w.heap.size 70 (hz 0) (hz 1) rfl rfl H0 rfl (by kernel_rfl) (hz_one 1) ?_; intro W9 hB9 hK9)
    refine ret_cell2 (p := 2) (u := 3) rfl rfl rfl hB9 _ Try.underlying70 rfl (by kernel_rfl) rfl ⟨by rw [p1.out, p2.out, p3.out]; rfl, hb0.trans (hK9.below hb0.size (by simp))⟩
  · have hnz : ¬ (b.length = 256 ∧ zeroB b = true) := by rw [hbl]; exact hz256
    obtain ⟨G, hG⟩ : ∃ G, G = goodR b := ⟨_, rfl⟩
    obtain ⟨E, hE⟩ : ∃ E, E = serrR (vaK b 0) (vaF b) := ⟨_, rfl⟩
    obtain ⟨S, hS⟩ : ∃ S, S = sencR (vaK b 0) (vaF b) := ⟨_, rfl⟩
    have hgood := Lib.hid (show G = decide (E = 0 ∧ b = S) by rw [hG, hE, hS]; rfl)
    have p1 := Lib.hid (show parN b = if G = true then vaK b 0 else 0 by unfold parN; rw [if_neg hnz, hG])
    have p2 := Lib.hid (show parF b = if G = true then vaF b else (fun _ => 0) by unfold parF; rw [if_neg hnz, hG])
    have p3 := Lib.hid (show parE b = if G = true then 0 else 4 by unfold parE; rw [if_neg hnz, hG])
    obtain ⟨v0, hv0⟩ : ∃ v0, v0 = vaK b 0 := ⟨_, rfl⟩
    obtain ⟨f, hf⟩ : ∃ f, f = vaF b := ⟨_, rfl⟩
    have r0 := vaK_range b 0
    have rf : ∀ i, i < 16 → 0 ≤ f i ∧ f i ≤ 18446744073709551615 := fun i _ => by rw [hf]; exact vaK_range b (i + 1)
    have hsb := fun (w : World) => sbytesR_any v0 f w (by rw [hv0]; exact r0.1) (by rw [hv0]; exact r0.2) rf
    rw [hv0, hf, ← hE, ← hS, ← hv0, ← hf] at hsb
    have HSB := Lib.hid hsb
    have HV := Lib.hid hv0
    have HF := Lib.hid hf
    have hra := hr.alloc (.cells (hz 0) 70)
    clear hG hE hS hnz hv0 hf hsb rf r0
    by_cases h256 : n = 256
    · have hzz : zeroB b = false := by
        cases h : zeroB b
        · rfl
        · exact absurd ⟨h256, h⟩ hz256
      subst h256
      go_enter Try.func42, Try.ntmps42
      go_wp2_with fail
      refine (zero_any A 256 c b _ hra (by unfold maxLen; omega)).mono ?_
      rintro e w1 ⟨rfl, rfl⟩
      rw [hzz]
      clear hzz hz256
      go_wp2_with fail
      refine (of_any A 256 c b _ hra (by omega)).mono ?_
      rintro e w2 ⟨g, rfl, hg, hR2, hb2⟩
      have hg2 := hR2.lt
      have b2 : Below w.heap.size w w2 := (by (have q_hb2 := Below.size hb2; (try simp at q_hb2); have q_hb0 := Below.size hb0; (try simp at q_hb0); repeat (first | exact Below.refl _ _ | (refine Below.trans ?_ (Below.mono hb2 (by first | omega | (simp; omega) | simp))) | (refine Below.trans ?_ (Below.mono hb0 (by first | omega | (simp; omega) | simp))) | (refine Below.setCell ?_ (by first | omega | (simp; omega) | simp) _) | (refine Below.alloc ?_ (by first | omega | (simp; omega) | simp) _) | apply Below.drew | apply below_drewN)))
      have H2 := H0.on hb2
      clear H0 hb0 hb2 hra
      go_wp2_with fail
      refine (numK b 0 g [g] _ hR2).mono ?_
      rintro e w3 ⟨rfl, hR3, hK3⟩
      rw [← HV.out]
      have hgg : w.heap.size + 1 ≤ g := by simpa using hg
      have b3 : Below w.heap.size w w3 := b2.trans (hK3.below b2.size (by simp; omega))
      have H3 := H2.kept hK3 (by simp; omega)
      have hg3 := hR3.lt
      have hR4 := hR3.wide (gs' := [g, w3.heap.size]) (by simp) (by intro x hx; simp at hx ⊢; omega)
      have hR5 := hR4.below (w' := w3.alloc (.cells (hz v0) 70)) (by (repeat (first | exact Below.refl _ _ | (refine Below.setCell ?_ (by first | omega | (simp; omega) | simp) _) | (refine Below.alloc ?_ (by first | omega | (simp; omega) | simp) _) | apply Below.drew | apply below_drewN)))
      have H5 := H3.alloc (.cells (hz v0) 70)
      have HH := Blk.new w3 70 (hz v0)
      have b5 : Below w.heap.size w (w3.alloc (.cells (hz v0) 70)) := (by (have q_b3 := Below.size b3; (try simp at q_b3); repeat (first | exact Below.refl _ _ | (refine Below.trans ?_ (Below.mono b3 (by first | omega | (simp; omega) | simp))) | (refine Below.setCell ?_ (by first | omega | (simp; omega) | simp) _) | (refine Below.alloc ?_ (by first | omega | (simp; omega) | simp) _) | apply Below.drew | apply below_drewN)))
      have hz3 := b3.size
      rw [← upto_zero v0 f] at HH
      clear hR2 H2 hR3 hR4 hK3 H3 b2 b3
      go_wp2_with fail
      go_loopw [23] (fun i wr => ∃ k : Nat, k ≤ 16 ∧ i = .int .i64 k ∧ RowIs 87 wr g [g, w3.heap.size] (stK b (k + 1)).1 (stK b (k + 1)).2 ∧ Blk wr w.heap.size 70 (hz 0) ∧ Blk wr w3.heap.size 70 (hd v0 (upto k f)) ∧ Below w.heap.size w wr) (fun i _ => 16 - (intOf i).toNat)
      case atStart => exact ⟨0, by omega, rfl, hR5, H5, HH, b5⟩
      case round =>
        clear hR5 H5 HH b5
        obtain ⟨k, hk, rfl, hRk, hB0, hBh, hbel⟩ := hrel
        have hrl := hRk.lt
        have hhl := hBh.lt
        by_cases hlt : k < 16
        · have q2 : (k : Int) < 16 := by omega
          go_wp2_with fail
          refine (numK b (k + 1) g _ _ hRk).mono ?_
          rintro e w6 ⟨rfl, hR6, hK6⟩
          have hv : vaK b (k + 1) = f k := by rw [HF.out]; rfl
          rw [hv]
          have hB6 := hB0.kept hK6 (by simp; omega)
          have hH6 := hBh.kept hK6 (by simp; omega)
          have b6 : Below w.heap.size w w6 := hbel.trans (hK6.below hbel.size (by simp; omega))
          have cG := (hH6.cell (1 + k)).trans (hd_get v0 (upto k f) hlt)
          have fG := hH6.frozen
          have hH7 := hH6.set_ (1 + k) (.int .u64 (f k))
          rw [upto_set v0 f hlt] at hH7
          have hB7 := hB6.far (p := ⟨w3.heap.size, 1 + k, none⟩) (by simp; omega) (.int .u64 (f k))
          have hR7 := hR6.kept (Kept.setCell (p := ⟨w3.heap.size, 1 + k, none⟩) (Kept.refl [w3.heap.size] w6) (by simp) (.int .u64 (f k))) (by simp) (by simp; omega)
          have b7 : Below w.heap.size w (w6.setCell ⟨w3.heap.size, 1 + k, none⟩ (.int .u64 (f k))) := (by (have q_b6 := Below.size b6; (try simp at q_b6); repeat (first | exact Below.refl _ _ | (refine Below.trans ?_ (Below.mono b6 (by first | omega | (simp; omega) | simp))) | (refine Below.setCell ?_ (by first | omega | (simp; omega) | simp) _) | (refine Below.alloc ?_ (by first | omega | (simp; omega) | simp) _) | apply Below.drew | apply below_drewN)))
          clear hRk hB0 hBh hbel hK6 hR6 hB6 hv b6
          go_wp2_with fail
          go_roundw
          case rel => exact ⟨k + 1, by omega, by go_num, hR7, hB7, hH7, b7⟩
          case measure => simp [intOf] <;> omega
        · obtain rfl : k = 16 := by omega
          rw [upto_all] at hBh
          clear hRk
          have hrw := hr.below hbel
          go_wp2_with (refine wpList_load_blk rfl 70 (.tmp 5) rfl w3.heap.size 0 70 (hd v0 f) (hd v0 f) _ rfl hBh (hd_self v0 f) Try.underlying70 rfl (by kernel_rfl) ?_)
          refine (HSB.out _).mono ?_
          rintro e w7 ⟨v7, rfl, hF7, hb7⟩
          have hB7 := hB0.on hb7
          have hH7 := hBh.on hb7
          have b7 : Below w.heap.size w w7 := (by (have q_hb7 := Below.size hb7; (try simp at q_hb7); have q_hbel := Below.size hbel; (try simp at q_hbel); repeat (first | exact Below.refl _ _ | (refine Below.trans ?_ (Below.mono hb7 (by first | omega | (simp; omega) | simp))) | (refine Below.trans ?_ (Below.mono hbel (by first | omega | (simp; omega) | simp))) | (refine Below.setCell ?_ (by first | omega | (simp; omega) | simp) _) | (refine Below.alloc ?_ (by first | omega | (simp; omega) | simp) _) | apply Below.drew | apply below_drewN)))
          obtain ⟨nS, hnS⟩ : ∃ nS, S.length = nS := ⟨_, rfl⟩
          obtain ⟨A7, c7, rfl, hR7, _, _, _⟩ := hF7.rdn nS hnS
          have hr7 := hrw.below hb7
          clear hB0 hBh hF7 hrw HSB
          by_cases hE0 : E = 0
          · subst hE0
            go_wp2_with fail
            refine (equal_any A A7 256 nS c c7 b S _ hr7 hR7).mono ?_
            rintro e w8 ⟨rfl, rfl⟩
            by_cases hbS : b = S
            · have hg1 : G = true := by rw [hgood.out]; exact decide_eq_true ⟨by simp, hbS⟩
              rw [decide_eq_true hbS]
              subst hg1
              clear hbS
              go_wp2_with (first | (refine wpList_load_blk rfl 70 (.tmp 5) rfl w3.heap.size 0 70 (hd v0 f) (hd v0 f) _ rfl hH7 (hd_self v0 f) Try.underlying70 rfl (by kernel_rfl) ?_) | (refine wpList_store_blk rfl 70 (.tmp 2) (.tmp 46) rfl w.heap.size 70 (hz 0) (hd v0 f) rfl rfl hB7 rfl (by kernel_rfl) (hd_one v0 f) ?_; intro W9 hB9 hK9))
              refine ret_cell2 (p := 2) (u := 3) rfl rfl rfl hB9 _ Try.underlying70 rfl (by kernel_rfl) rfl ⟨by rw [p1.out, p2.out, p3.out, HV.out, HF.out]; rfl, b7.trans (hK9.below b7.size (by simp))⟩
            · have hg1 : G = false := by rw [hgood.out]; exact decide_eq_false (fun h => hbS h.2)
              rw [decide_eq_false hbS]
              subst hg1
              clear hbS
              go_wp2_with (refine wpList_store_blk rfl 70 (.tmp 2) (.tmp 45) rfl w.heap.size 70 (hz 0) (hz 0) rfl rfl hB7 rfl (by kernel_rfl) (hz_one 0) ?_; intro W9 hB9 hK9)
              refine ret_cell2 (p := 2) (u := 3) rfl rfl rfl hB9 _ Try.underlying70 rfl (by kernel_rfl) rfl ⟨by rw [p1.out, p2.out, p3.out]; rfl, b7.trans (hK9.below b7.size (by simp))⟩
          · have hg1 : G = false := by rw [hgood.out]; exact decide_eq_false (fun h => hE0 h.1)
            subst hg1
            go_wp2_with (refine wpList_store_blk rfl 70 (.tmp 2) (.tmp 45) rfl w.heap.size 70 (hz 0) (hz 0) rfl rfl hB7 rfl (by kernel_rfl) (hz_one 0) ?_; intro W9 hB9 hK9)
            refine ret_cell2 (p := 2) (u := 3) rfl rfl rfl hB9 _ Try.underlying70 rfl (by kernel_rfl) rfl ⟨by rw [p1.out, p2.out, p3.out]; rfl, b7.trans (hK9.below b7.size (by simp))⟩
    · have q1 : ¬ (n : Int) = 256 := by omega
      clear hz256
      go_enter Try.func42, Try.ntmps42
      go_wp2_with fail
      refine (of_any A n c b _ hra (by omega)).mono ?_
      rintro e w2 ⟨g, rfl, hg, hR2, hb2⟩
      have hg2 := hR2.lt
      have b2 : Below w.heap.size w w2 := (by (have q_hb2 := Below.size hb2; (try simp at q_hb2); have q_hb0 := Below.size hb0; (try simp at q_hb0); repeat (first | exact Below.refl _ _ | (refine Below.trans ?_ (Below.mono hb2 (by first | omega | (simp; omega) | simp))) | (refine Below.trans ?_ (Below.mono hb0 (by first | omega | (simp; omega) | simp))) | (refine Below.setCell ?_ (by first | omega | (simp; omega) | simp) _) | (refine Below.alloc ?_ (by first | omega | (simp; omega) | simp) _) | apply Below.drew | apply below_drewN)))
      have H2 := H0.on hb2
      clear H0 hb0 hb2 hra
      go_wp2_with fail
      refine (numK b 0 g [g] _ hR2).mono ?_
      rintro e w3 ⟨rfl, hR3, hK3⟩
      rw [← HV.out]
      have hgg : w.heap.size + 1 ≤ g := by simpa using hg
      have b3 : Below w.heap.size w w3 := b2.trans (hK3.below b2.size (by simp; omega))
      have H3 := H2.kept hK3 (by simp; omega)
      have hg3 := hR3.lt
      have hR4 := hR3.wide (gs' := [g, w3.heap.size]) (by simp) (by intro x hx; simp at hx ⊢; omega)
      have hR5 := hR4.below (w' := w3.alloc (.cells (hz v0) 70)) (by (repeat (first | exact Below.refl _ _ | (refine Below.setCell ?_ (by first | omega | (simp; omega) | simp) _) | (refine Below.alloc ?_ (by first | omega | (simp; omega) | simp) _) | apply Below.drew | apply below_drewN)))
      have H5 := H3.alloc (.cells (hz v0) 70)
      have HH := Blk.new w3 70 (hz v0)
      have b5 : Below w.heap.size w (w3.alloc (.cells (hz v0) 70)) := (by (have q_b3 := Below.size b3; (try simp at q_b3); repeat (first | exact Below.refl _ _ | (refine Below.trans ?_ (Below.mono b3 (by first | omega | (simp; omega) | simp))) | (refine Below.setCell ?_ (by first | omega | (simp; omega) | simp) _) | (refine Below.alloc ?_ (by first | omega | (simp; omega) | simp) _) | apply Below.drew | apply below_drewN)))
      have hz3 := b3.size
      rw [← upto_zero v0 f] at HH
      clear hR2 H2 hR3 hR4 hK3 H3 b2 b3
      go_wp2_with fail
      go_loopw [23] (fun i wr => ∃ k : Nat, k ≤ 16 ∧ i = .int .i64 k ∧ RowIs 87 wr g [g, w3.heap.size] (stK b (k + 1)).1 (stK b (k + 1)).2 ∧ Blk wr w.heap.size 70 (hz 0) ∧ Blk wr w3.heap.size 70 (hd v0 (upto k f)) ∧ Below w.heap.size w wr) (fun i _ => 16 - (intOf i).toNat)
      case atStart => exact ⟨0, by omega, rfl, hR5, H5, HH, b5⟩
      case round =>
        clear hR5 H5 HH b5
        obtain ⟨k, hk, rfl, hRk, hB0, hBh, hbel⟩ := hrel
        have hrl := hRk.lt
        have hhl := hBh.lt
        by_cases hlt : k < 16
        · have q2 : (k : Int) < 16 := by omega
          go_wp2_with fail
          refine (numK b (k + 1) g _ _ hRk).mono ?_
          rintro e w6 ⟨rfl, hR6, hK6⟩
          have hv : vaK b (k + 1) = f k := by rw [HF.out]; rfl
          rw [hv]
          have hB6 := hB0.kept hK6 (by simp; omega)
          have hH6 := hBh.kept hK6 (by simp; omega)
          have b6 : Below w.heap.size w w6 := hbel.trans (hK6.below hbel.size (by simp; omega))
          have cG := (hH6.cell (1 + k)).trans (hd_get v0 (upto k f) hlt)
          have fG := hH6.frozen
          have hH7 := hH6.set_ (1 + k) (.int .u64 (f k))
          rw [upto_set v0 f hlt] at hH7
          have hB7 := hB6.far (p := ⟨w3.heap.size, 1 + k, none⟩) (by simp; omega) (.int .u64 (f k))
          have hR7 := hR6.kept (Kept.setCell (p := ⟨w3.heap.size, 1 + k, none⟩) (Kept.refl [w3.heap.size] w6) (by simp) (.int .u64 (f k))) (by simp) (by simp; omega)
          have b7 : Below w.heap.size w (w6.setCell ⟨w3.heap.size, 1 + k, none⟩ (.int .u64 (f k))) := (by (have q_b6 := Below.size b6; (try simp at q_b6); repeat (first | exact Below.refl _ _ | (refine Below.trans ?_ (Below.mono b6 (by first | omega | (simp; omega) | simp))) | (refine Below.setCell ?_ (by first | omega | (simp; omega) | simp) _) | (refine Below.alloc ?_ (by first | omega | (simp; omega) | simp) _) | apply Below.drew | apply below_drewN)))
          clear hRk hB0 hBh hbel hK6 hR6 hB6 hv b6
          go_wp2_with fail
          go_roundw
          case rel => exact ⟨k + 1, by omega, by go_num, hR7, hB7, hH7, b7⟩
          case measure => simp [intOf] <;> omega
        · obtain rfl : k = 16 := by omega
          rw [upto_all] at hBh
          clear hRk
          have hrw := hr.below hbel
          go_wp2_with (refine wpList_load_blk rfl 70 (.tmp 5) rfl w3.heap.size 0 70 (hd v0 f) (hd v0 f) _ rfl hBh (hd_self v0 f) Try.underlying70 rfl (by kernel_rfl) ?_)
          refine (HSB.out _).mono ?_
          rintro e w7 ⟨v7, rfl, hF7, hb7⟩
          have hB7 := hB0.on hb7
          have hH7 := hBh.on hb7
          have b7 : Below w.heap.size w w7 := (by (have q_hb7 := Below.size hb7; (try simp at q_hb7); have q_hbel := Below.size hbel; (try simp at q_hbel); repeat (first | exact Below.refl _ _ | (refine Below.trans ?_ (Below.mono hb7 (by first | omega | (simp; omega) | simp))) | (refine Below.trans ?_ (Below.mono hbel (by first | omega | (simp; omega) | simp))) | (refine Below.setCell ?_ (by first | omega | (simp; omega) | simp) _) | (refine Below.alloc ?_ (by first | omega | (simp; omega) | simp) _) | apply Below.drew | apply below_drewN)))
          obtain ⟨nS, hnS⟩ : ∃ nS, S.length = nS := ⟨_, rfl⟩
          obtain ⟨A7, c7, rfl, hR7, _, _, _⟩ := hF7.rdn nS hnS
          have hr7 := hrw.below hb7
          clear hB0 hBh hF7 hrw HSB
          by_cases hE0 : E = 0
          · subst hE0
            go_wp2_with fail
            refine (equal_any A A7 n nS c c7 b S _ hr7 hR7).mono ?_
            rintro e w8 ⟨rfl, rfl⟩
            by_cases hbS : b = S
            · have hg1 : G = true := by rw [hgood.out]; exact decide_eq_true ⟨by simp, hbS⟩
              rw [decide_eq_true hbS]
              subst hg1
              clear hbS
              go_wp2_with (first | (refine wpList_load_blk rfl 70 (.tmp 5) rfl w3.heap.size 0 70 (hd v0 f) (hd v0 f) _ rfl hH7 (hd_self v0 f) Try.underlying70 rfl (by kernel_rfl) ?_) | (refine wpList_store_blk rfl 70 (.tmp 2) (.tmp 46) rfl w.heap.size 70 (hz 0) (hd v0 f) rfl rfl hB7 rfl (by kernel_rfl) (hd_one v0 f) ?_; intro W9 hB9 hK9))
              refine ret_cell2 (p := 2) (u := 3) rfl rfl rfl hB9 _ Try.underlying70 rfl (by kernel_rfl) rfl ⟨by rw [p1.out, p2.out, p3.out, HV.out, HF.out]; rfl, b7.trans (hK9.below b7.size (by simp))⟩
            · have hg1 : G = false := by rw [hgood.out]; exact decide_eq_false (fun h => hbS h.2)
              rw [decide_eq_false hbS]
              subst hg1
              clear hbS
              go_wp2_with (refine wpList_store_blk rfl 70 (.tmp 2) (.tmp 45) rfl w.heap.size 70 (hz 0) (hz 0) rfl rfl hB7 rfl (by kernel_rfl) (hz_one 0) ?_; intro W9 hB9 hK9)
              refine ret_cell2 (p := 2) (u := 3) rfl rfl rfl hB9 _ Try.underlying70 rfl (by kernel_rfl) rfl ⟨by rw [p1.out, p2.out, p3.out]; rfl, b7.trans (hK9.below b7.size (by simp))⟩
          · have hg1 : G = false := by rw [hgood.out]; exact decide_eq_false (fun h => hE0 h.1)
            subst hg1
            go_wp2_with (refine wpList_store_blk rfl 70 (.tmp 2) (.tmp 45) rfl w.heap.size 70 (hz 0) (hz 0) rfl rfl hB7 rfl (by kernel_rfl) (hz_one 0) ?_; intro W9 hB9 hK9)
            refine ret_cell2 (p := 2) (u := 3) rfl rfl rfl hB9 _ Try.underlying70 rfl (by kernel_rfl) rfl ⟨by rw [p1.out, p2.out, p3.out]; rfl, b7.trans (hK9.below b7.size (by simp))⟩
end Go.Proofs.Ytdnjlhcmihmgdaa
