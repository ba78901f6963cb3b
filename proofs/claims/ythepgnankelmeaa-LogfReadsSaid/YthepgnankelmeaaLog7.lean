/- Logs: the chapter's example; records outside named blocks. -/
import Derived.Test.YthepgnankelmeaaLog6
namespace Go.Proofs.Ythepgnankelmeaa
open Go.RowKit

theorem lsize_any (cnt : Int) (A : Option Addr) (n c : Nat) (w : World) (hn : n ≤ 1000000) :
    Calls Try.prog 50 #[.agg #[.int .u64 cnt, .slice A n c]] w fun e w' => e = .returned (.int .i64 (1 + (n : Int))) ∧ Below w.heap.size w w' := by
  have hw : IntKind.i64.wrap (1 + (n : Int)) = 1 + n := IntWalk.i64_in _ (by omega)
  go_enter Try.func50, Try.ntmps50
  go_wp2_with fail
  go_ret
  exact ⟨rfl, (by (repeat (first | exact Below.refl _ _ | (refine Below.setCell ?_ (by first | omega | (simp; omega) | simp) _) | (refine Below.alloc ?_ (by first | omega | (simp; omega) | simp) _) | apply Below.drew | apply below_drewN)))⟩

theorem foldE_ex (Z : List UInt8) (h : Z.length = 256) : mayLog 9 4 [(5, Z)] = true := by
  unfold mayLog foldE
  rw [show gmay 9 4 = true from by decide +kernel]
  have e : (5 : Int) < sealedI 9 := by decide +kernel
  simp [stE, h, e]
theorem encL_ex (Z : List UInt8) : encL 3 [(5, Z)] = [headL 3 [(5, [])], Z] := rfl

set_option maxRecDepth 100000 in
set_option maxHeartbeats 4000000 in
theorem lawake_any (w : World) :
    Calls Try.prog 40 #[] w fun e w' => e = .returned (.bool true) ∧ Below w.heap.size w w' := by
  obtain ⟨Z, hZ⟩ : ∃ Z : List UInt8, Z = List.replicate 256 0 := ⟨_, rfl⟩
  have hZl : Z.length = 256 := by rw [hZ]; simp
  have HZ := Lib.hid hZ
  clear hZ
  have hmk : ∀ W : World, (Instr.makeSlice 39 (.int .i64 256) (.int .i64 256)).run Try.prog W = .ok (.slice (some ⟨W.heap.size, 0, none⟩) 256 256) (W.alloc (.cells (part Z 0) 5)) :=
    make_bytes (P := Try.prog) Try.underlying39 info8 .i64 .i64 256 (by omega) Z hZl
  have hZp : part Z 0 = (Z.map bv).toArray := by rw [HZ.out]; simp [part, bv]
  obtain ⟨wa, hwa⟩ : ∃ wa, wa = w.alloc (.cells (part Z 0) 5) := ⟨_, rfl⟩
  have Rz : Rd wa (some ⟨w.heap.size, 0, none⟩) 256 Z := by rw [hwa, hZp]; exact rd_of_cells (heap_alloc_new w _) (by simp) hZl
  have ha : wa.heap.size = w.heap.size + 1 := by rw [hwa]; simp
  have ba : Below w.heap.size w wa := by rw [hwa]; exact (by (repeat (first | exact Below.refl _ _ | (refine Below.setCell ?_ (by first | omega | (simp; omega) | simp) _) | (refine Below.alloc ?_ (by first | omega | (simp; omega) | simp) _) | apply Below.drew | apply below_drewN)))
  have hRb : RdG entE (wa.alloc (.cells #[.int .i64 5, .slice (some ⟨w.heap.size, 0, none⟩) 256 256] 102)) (some ⟨w.heap.size + 1, 0, none⟩) 1 [(5, (some ⟨w.heap.size, 0, none⟩, 256, 256))] := by rw [← ha]; exact RdG.boxed _ _ _ _ rfl
  obtain ⟨wb, hwb⟩ : ∃ wb, wb = (wa.alloc (.cells #[.int .i64 5, .slice (some ⟨w.heap.size, 0, none⟩) 256 256] 102)).alloc (.cells #[.int .u64 3, .slice (some ⟨w.heap.size + 1, 0, none⟩) 1 1] 56) := ⟨_, rfl⟩
  have hRl : RdR entK wb.heap.size 5 wb (some ⟨w.heap.size + 1, 0, none⟩) 1 [(5, Z)] := by
    refine ⟨[(5, (some ⟨w.heap.size, 0, none⟩, 256, 256))], by rw [hwb]; exact hRb.alloc _, rfl, fun i h e h1 h2 => ?_⟩
    match i, h1, h2 with
    | 0, h1, h2 =>
      simp at h1 h2
      subst h1 h2
      refine ⟨rfl, RdX.old ?_ (Nat.le_refl _), by show 256 ≤ 256; omega, by show 256 ≤ maxLen; unfold maxLen; omega⟩
      rw [hwb]
      exact (Rz.alloc _).alloc _
    | _ + 1, h1, h2 => simp at h1
  have Bl : Blk wb (w.heap.size + 1 + 1) 56 #[.int .u64 3, .slice (some ⟨w.heap.size + 1, 0, none⟩) 1 1] := by
    rw [hwb, ← ha]
    simpa using Blk.new (wa.alloc (.cells #[.int .i64 5, .slice (some ⟨w.heap.size, 0, none⟩) 256 256] 102)) 56 #[.int .u64 3, .slice (some ⟨wa.heap.size, 0, none⟩) 1 1]
  have bb : Below w.heap.size w wb := by rw [hwb]; exact (by (have q_ba := Below.size ba; (try simp at q_ba); repeat (first | exact Below.refl _ _ | (refine Below.trans ?_ (Below.mono ba (by first | omega | (simp; omega) | simp))) | (refine Below.setCell ?_ (by first | omega | (simp; omega) | simp) _) | (refine Below.alloc ?_ (by first | omega | (simp; omega) | simp) _) | apply Below.drew | apply below_drewN)))
  have hm := Lib.hid (foldE_ex Z hZl)
  have hX := Lib.hid (show encX 9 4 [(5, Z)] = 0 by unfold encX; rw [hm.out]; rfl)
  have hR := Lib.hid (show encR 9 4 3 [(5, Z)] = [headL 3 [(5, [])], Z] by unfold encR; rw [hm.out]; rfl)
  clear hRb Rz hZp
  go_enter Try.func40, Try.ntmps40
  go_upto_region 2 with fail
  rw [← hwa, ← hwb]
  clear hwa hwb ha ba hmk
  have cB := Bl.cell
  go_wp2_with fail
  refine (lenc_any 9 4 3 _ 1 1 _ _ [(5, Z)] _ hRl (by omega) (by omega) (by omega)).mono ?_
  rintro e w1 ⟨v1, rfl, hO1, hb1⟩
  rw [hX.out]
  rw [hR.out] at hO1
  obtain ⟨A1, c1, rfl, hS1, hc1, hc2⟩ := hO1.rd 2 rfl
  obtain ⟨b, off, rfl, hbk, hcell⟩ := hS1.2 (by omega)
  obtain ⟨Ai, ci, hci, hRi, hc3, hc4⟩ := hcell 0 _ rfl
  rw [headL_len] at hci hRi hc3
  have hs := conv ci _ (hRi.head 21 (by omega))
  rw [show str ((headL 3 [(5, [])]).take 21) = ⟨#[82, 69, 68, 79, 45, 76, 79, 71, 3, 0, 0, 0, 0, 0, 0, 0, 1, 0, 5, 0, 0]⟩ from by decide +kernel] at hs
  have q1 : 21 ≤ ci := by omega
  have q2 : (21 : Int) ≤ ci := by omega
  have cB1 := (Bl.on hb1).cell
  simp only [Nat.add_zero] at hci
  unfold maxLen at hc2 hc4
  clear hcell hS1 hO1 hRl
  go_wp2_with fail
  refine (lsize_any 3 _ 1 1 _ (by omega)).mono ?_
  rintro e w2 ⟨rfl, hb2⟩
  go_wp2_with fail
  go_ret
  exact ⟨rfl, (by (have q_hb2 := Below.size hb2; (try simp at q_hb2); have q_hb1 := Below.size hb1; (try simp at q_hb1); have q_bb := Below.size bb; (try simp at q_bb); repeat (first | exact Below.refl _ _ | (refine Below.trans ?_ (Below.mono hb2 (by first | omega | (simp; omega) | simp))) | (refine Below.trans ?_ (Below.mono hb1 (by first | omega | (simp; omega) | simp))) | (refine Below.trans ?_ (Below.mono bb (by first | omega | (simp; omega) | simp))) | (refine Below.setCell ?_ (by first | omega | (simp; omega) | simp) _) | (refine Below.alloc ?_ (by first | omega | (simp; omega) | simp) _) | apply Below.drew | apply below_drewN)))⟩

/-- Records that can be read, and lie in none of the blocks gs. -/
def RdRN {η α : Type} (K : RKind η α) (gs : List Nat) (B : Nat) (T : TypeId) (w : World) (A : Option Addr) (n : Nat) (es : List α) : Prop :=
  ∃ hs, RdG K.E w A n hs ∧ (∀ ad, 0 < n → A = some ad → ad.block ∉ gs) ∧ RAll K B T w hs es ∧ ∀ (i : Nat) (h : η), hs[i]? = some h → ∀ ad, 0 < (K.sl h).2.1 → (K.sl h).1 = some ad → ad.block ∉ gs
theorem RdX.keptN {B : Nat} {T : TypeId} {w w' : World} {A : Option Addr} {n : Nat} {l : List UInt8} {gs : List Nat} (h : RdX B T w A n l) (hk : Kept gs w w') (hA : ∀ ad, 0 < n → A = some ad → ad.block ∉ gs) : RdX B T w' A n l := by
  refine ⟨((RdN.kept ⟨h.1, hA⟩ hk (fun _ h_ => h_))).1, fun ad hn he => ?_⟩
  obtain ⟨b, off, hA', hlt, _⟩ := h.1.2 hn
  rw [hA'] at he
  injection he with he
  subst he
  have hng := hA _ hn hA'
  rcases h.2 _ hn hA' with h1 | ⟨cs, fr, h1⟩
  · exact .inl h1
  · exact .inr ⟨cs, fr, by rw [hk.block b hlt hng]; exact h1⟩
theorem RdRN.kept {η α : Type} {K : RKind η α} {gs : List Nat} {B : Nat} {T : TypeId} {w w' : World} {A : Option Addr} {n : Nat} {es : List α} (h : RdRN K gs B T w A n es) (hk : Kept gs w w') : RdRN K gs B T w' A n es := by
  obtain ⟨hs, h1, h2, h3, h4⟩ := h
  refine ⟨hs, ?_, h2, ⟨h3.1, fun i x e hx he => ⟨(h3.2 i x e hx he).1, (h3.2 i x e hx he).2.1.keptN hk (h4 i x hx), (h3.2 i x e hx he).2.2⟩⟩, h4⟩
  refine ⟨h1.1, fun hn => ?_⟩
  obtain ⟨b, off, hA, hlt, hc⟩ := h1.2 hn
  refine ⟨b, off, hA, Nat.lt_of_lt_of_le hlt hk.size, fun k a hka j u hu => ?_⟩
  rw [World.cell?_of_block (hk.block b hlt (h2 _ hn hA))]
  exact hc k a hka j u hu
theorem RdRN.rd {η α : Type} {K : RKind η α} {gs : List Nat} {B : Nat} {T : TypeId} {w : World} {A : Option Addr} {n : Nat} {es : List α} (h : RdRN K gs B T w A n es) : RdR K B T w A n es := by
  obtain ⟨hs, h1, _, h3, _⟩ := h
  exact ⟨hs, h1, h3⟩
theorem RdRN.old {η α : Type} {K : RKind η α} {gs : List Nat} {B : Nat} {T : TypeId} {w w' : World} {A : Option Addr} {n : Nat} {es : List α} (h : RdR K B T w A n es) (hg : ∀ x ∈ gs, w.heap.size ≤ x) (hb : Below w.heap.size w w') : RdRN K gs B T w' A n es := by
  obtain ⟨hs, h1, h3⟩ := h
  refine ⟨hs, h1.below hb, fun ad hn hA hx => ?_, h3.below hb, fun i x hx ad hp hA hxg => ?_⟩
  · obtain ⟨b, off, hA', hlt, _⟩ := h1.2 hn
    rw [hA'] at hA
    injection hA with hA
    subst hA
    have := hg _ hx
    simp at this
    omega
  · have hil : i < es.length := by rw [← h3.1]; exact (List.getElem?_eq_some_iff.1 hx).1
    obtain ⟨b, off, hA', hlt, _⟩ := (h3.2 i x _ hx (List.getElem?_eq_getElem hil)).2.1.1.2 hp
    rw [hA'] at hA
    injection hA with hA
    subst hA
    have := hg _ hxg
    simp at this
    omega
/-- A record's value that stays while the blocks gs change. -/
def IsLog {η α : Type} (K : RKind η α) (gs : List Nat) (B : Nat) (T : TypeId) (mk : Value → Value) (n : Nat) (es : List α) (y : Value) (W : World) : Prop :=
  ∃ A c, y = mk (.slice A n c) ∧ RdRN K gs B T W A n es ∧ n ≤ c ∧ c ≤ maxLen
theorem IsLog.stabW {η α : Type} (K : RKind η α) (gs : List Nat) (B : Nat) (T : TypeId) (mk : Value → Value) (n : Nat) (es : List α) : StabW gs (IsLog K gs B T mk n es) := fun _ _ _ hb ⟨A, c, e, h, h1, h2⟩ => ⟨A, c, e, h.kept hb, h1, h2⟩
theorem Below.kept0 {w w' : World} (gs : List Nat) (h : Below w.heap.size w w') : Kept gs w w' := .of_below h
theorem IsLog.stab {η α : Type} (K : RKind η α) (gs : List Nat) (B : Nat) (T : TypeId) (mk : Value → Value) (n : Nat) (es : List α) : Stab (IsLog K gs B T mk n es) := fun _ _ _ hb ⟨A, c, e, h, h1, h2⟩ => ⟨A, c, e, h.kept (.of_below hb), h1, h2⟩
theorem IsLog.of {η α : Type} {K : RKind η α} {gs : List Nat} {Br B : Nat} {T T2 : TypeId} {mk : Value → Value} {n : Nat} {es : List α} {v : Value} {W : World} (h : OwnR K T2 Br B T W v es) (hn : es.length = n) (hg : ∀ x ∈ gs, B ≤ x ∧ x < Br) (ht : ∀ x ∈ gs, ∃ cs t fr, W.heap[x]? = some (.cells cs t fr) ∧ T ≠ t) : IsLog K gs B T mk n es (mk v) W := by
  obtain ⟨hs, h1, h2⟩ := h
  obtain ⟨A, c, rfl, hR, _, hc, hm⟩ := h1.rdn n (h2.1.trans hn)
  refine ⟨A, c, rfl, ⟨hs, hR, fun ad _ hA hx => ?_, h2, fun i x hx ad hp hA hxg => ?_⟩, hc, hm⟩
  · have := (h1.block ad.block (by rw [hA]; rfl)).1
    have := (hg _ hx).2
    omega
  · have hil : i < es.length := by rw [← h2.1]; exact (List.getElem?_eq_some_iff.1 hx).1
    have hi := (h2.2 i x _ hx (List.getElem?_eq_getElem hil)).2.1
    exact (hi.rdn (gs := gs) (fun x hx => (hg x hx).1) ht).2 ad hp hA hxg
theorem RdR.drew {η α : Type} {K : RKind η α} {B : Nat} {T : TypeId} {w : World} {A : Option Addr} {n : Nat} {es : List α} (h : RdR K B T w A n es) : RdR K B T w.drew A n es := h.below ((Below.refl _ _).drew)
/-- A log's value that can be read. -/
def IsLg (T : TypeId) (x : Int) (n : Nat) (es : List Ent) (y : Value) (W : World) : Prop := ∃ A c B, y = .agg #[.int .u64 x, .slice A n c] ∧ RdR entK B T W A n es ∧ n ≤ c ∧ c ≤ maxLen
theorem IsLg.stab (T : TypeId) (x : Int) (n : Nat) (es : List Ent) : Stab (IsLg T x n es) := fun _ _ _ hb ⟨A, c, B, e, h, h1, h2⟩ => ⟨A, c, B, e, h.below hb, h1, h2⟩
theorem IsLg.of {T T2 : TypeId} {x : Int} {n Br B : Nat} {es : List Ent} {v : Value} {W : World} (h : OwnR entK T2 Br B T W v es) (hn : es.length = n) : IsLg T x n es (.agg #[.int .u64 x, v]) W := by
  obtain ⟨A, c, rfl, hR, h1, h2⟩ := h.rd n hn
  exact ⟨A, c, B, rfl, hR, h1, h2⟩
/-- A log in a block of its own, outside named blocks. -/
def CutAt (TL : TypeId) (g : Nat) (gs : List Nat) (B : Nat) (T : TypeId) (x : Int) (n : Nat) (es : List Ent) (W : World) : Prop := ∃ A c, Blk W g TL #[.int .u64 x, .slice A n c] ∧ RdRN entK gs B T W A n es ∧ n ≤ c ∧ c ≤ maxLen
theorem CutAt.below {TL : TypeId} {g : Nat} {gs : List Nat} {B : Nat} {T : TypeId} {x : Int} {n : Nat} {es : List Ent} {w w' : World} (h : CutAt TL g gs B T x n es w) (hb : Below w.heap.size w w') : CutAt TL g gs B T x n es w' := by
  obtain ⟨A, c, h1, h2, h3, h4⟩ := h
  exact ⟨A, c, h1.on hb, h2.kept (.of_below hb), h3, h4⟩
/-- Two logs are cut, each put back where it was. -/
def CutInv (TL : TypeId) (ga gb : Nat) (B : Nat) (T : TypeId) (x y : Int) (ca cb : Array Value) (na nb : Nat) (ea eb : List Ent) : Nat → Value → World → Prop
  | 0, _, W => Blk W ga TL ca ∧ Blk W gb TL cb
  | 1, _, W => CutAt TL ga [ga, gb] B T x na ea W ∧ Blk W gb TL cb
  | _, _, W => CutAt TL ga [ga, gb] B T x na ea W ∧ CutAt TL gb [ga, gb] B T y nb eb W
theorem CutInv.stab {TL : TypeId} {ga gb : Nat} {B : Nat} {T : TypeId} {x y : Int} {ca cb : Array Value} {na nb : Nat} {ea eb : List Ent} : ∀ i u w w', Below w.heap.size w w' → CutInv TL ga gb B T x y ca cb na nb ea eb i u w → CutInv TL ga gb B T x y ca cb na nb ea eb i u w'
  | 0, _, _, _, hb, h => ⟨h.1.on hb, h.2.on hb⟩
  | 1, _, _, _, hb, h => ⟨h.1.below hb, h.2.on hb⟩
  | _ + 2, _, _, _, hb, h => ⟨h.1.below hb, h.2.below hb⟩
end Go.Proofs.Ythepgnankelmeaa
