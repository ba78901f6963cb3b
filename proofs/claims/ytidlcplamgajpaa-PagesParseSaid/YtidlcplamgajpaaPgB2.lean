/- Pages as bytes: sixteen pages, by the program and by the document. -/
import Derived.Test.YtidlcplamgajpaaPgB1
namespace Go.Proofs.Ytidlcplamgajpaa
open Go.RowKit

/-- A block of another type stays, where a row of bytes has grown. -/
theorem Fresh.keeps {T t : TypeId} {B g : Nat} {w w' : World} {v : Value} {l : List UInt8} {cs : Array Value} (h : Fresh T B w v l) (hB : Blk w g t cs) (hne : T ≠ t) (hg : w.grownBy w' v.ownBlock) : Blk w' g t cs := by
  obtain ⟨_, _, e0, hown⟩ := h
  exact hB.grown hg (fun e => own_blk_ne hown hB hne e.symm)
theorem pgs_step {l : List Pg} {k : Nat} {x : Pg} (h : l[k]? = some x) : (l.take (k + 1)).flatMap pgL = (l.take k).flatMap pgL ++ pgL x := by
  rw [take_step h, List.flatMap_append]; simp
set_option maxHeartbeats 1000000 in
theorem pgbytes_many (A : Option Addr) (n c : Nat) (w : World) (hn : 16 < n) :
    Calls Try.prog 27 #[.slice A n c] w fun e w' => e = .returned (.tuple #[.slice none 0 0, .int .i64 1]) ∧ w = w' := by
  have hn' : (16 : Int) < n := by omega
  go_enter Try.func27, Try.ntmps27
  go_wp2_with fail
  go_ret2
  exact ⟨rfl, rfl⟩
set_option maxHeartbeats 1000000 in
theorem pgbytes_bad (A : Option Addr) (n c : Nat) (l : List Pg) (w : World) (hr : RdG pgE w A n l) (hn : n ≤ 16) (hb : l.any badB = true) :
    Calls Try.prog 27 #[.slice A n c] w fun e w' => e = .returned (.tuple #[.slice none 0 0, .int .i64 4]) ∧ Below w.heap.size w w' := by
  have hn' : ¬ (16 : Int) < n := by omega
  have hC := any_bad A n c l w hr (by unfold maxLen; omega)
  rw [hb] at hC
  go_enter Try.func27, Try.ntmps27
  go_wp2_with fail
  refine hC.mono ?_
  rintro e w1 ⟨rfl, hb1⟩
  go_wp2_with fail
  go_ret2
  exact ⟨rfl, hb1⟩
set_option maxRecDepth 100000 in
set_option maxHeartbeats 4000000 in
theorem pgbytes_yes (A : Option Addr) (n c : Nat) (l : List Pg) (w : World) (hr : RdG pgE w A n l) (hn : n ≤ 16) (hb : l.any badB = false) (hroom : ∀ x ∈ l, roomPg x) :
    Calls Try.prog 27 #[.slice A n c] w fun e w' => ∃ v, e = .returned (.tuple #[v, .int .i64 0]) ∧ Fresh 5 w.heap.size w' v (pgsL l) ∧ Below w.heap.size w w' := by
  have hn' : ¬ (16 : Int) < n := by omega
  have hlen := hr.len
  have hC := any_bad A n c l w hr (by unfold maxLen; omega)
  rw [hb] at hC
  have HR := Lib.hid hroom
  clear hroom hb
  go_enter Try.func27, Try.ntmps27
  go_wp2_with fail
  refine hC.mono ?_
  rintro e w1 ⟨rfl, hb1⟩
  have hr1 := hr.below hb1
  go_wp2_with fail
  go_loopw [4, 16] (fun v i wr => ∃ k : Nat, k ≤ n ∧ i = .int .i64 k ∧ Fresh 5 w1.heap.size wr v ((l.take k).flatMap pgL) ∧ Below w1.heap.size w1 wr) (fun _ i _ => n - (intOf i).toNat)
  case atStart => exact ⟨0, by omega, rfl, Fresh.nil _ _ _, Below.refl _ _⟩
  case round =>
    obtain ⟨k, hk, rfl, hF, hbel⟩ := hrel
    have hbz := hbel.size
    have hfl : ((l.take k).flatMap pgL).length ≤ 256 := by rw [flatPg_len, List.length_take]; omega
    by_cases hlt : k < n
    · obtain ⟨b, off, x, rfl, hbl, hx, hcell⟩ := (hr1.below hbel).at_ hlt
      obtain ⟨p1, p2, p3, p4, p5⟩ := x
      have c0 := hcell 0 _ rfl
      have c1 := hcell 1 _ rfl
      have c2 := hcell 2 _ rfl
      have c3 := hcell 3 _ rfl
      have c4 := hcell 4 _ rfl
      simp only [show pgE.sz = 5 from rfl, Nat.add_zero] at c0 c1 c2 c3 c4
      have hst := Lib.hid (pgs_step hx)
      have hrm := HR.out _ (List.mem_of_getElem? hx)
      have hB := Blk.new wr 65 #[.int .i64 p1, .int .i64 p2, .int .i64 p3, .int .i64 p4, .int .u64 p5]
      have cB := hB.cell
      clear hcell hx
      go_wp2_with fail
      refine (pbytes_any p1 p2 p3 p4 p5 _ hrm).mono ?_
      rintro e w3 ⟨v3, rfl, hF3, hb3⟩
      obtain ⟨A3, c3', rfl, hR3, _, hn3, hm3⟩ := hF3.rdn 16 (pgL_len _)
      have hF4 := (hF.alloc (.cells #[.int .i64 p1, .int .i64 p2, .int .i64 p3, .int .i64 p4, .int .u64 p5] 65)).below hb3
      have hb13 : Below wr.heap.size wr w3 := (by (have q_hb3 := Below.size hb3; (try simp at q_hb3); repeat (first | exact Below.refl _ _ | (refine Below.trans ?_ (Below.mono hb3 (by first | omega | (simp; omega) | simp))) | (refine Below.setCell ?_ (by first | omega | (simp; omega) | simp) _) | (refine Below.alloc ?_ (by first | omega | (simp; omega) | simp) _) | apply Below.drew | apply below_drewN)))
      have hz3 := hb13.size
      clear hF3 cB
      go_wp2_with (at_builtin; refine wpList_append_bytes _ rfl (.tmp 20) (.tmp 22) _ rfl w1.heap.size 5 Try.underlying57 info8 _ _ rfl hF4 A3 16 c3' _ rfl hR3 (by omega) (by omega) ?_; intro b5 w5 hF5 hg5 hb5)
      go_roundw
      case rel => exact ⟨k + 1, by omega, by go_num, by rw [hst.out]; exact hF5, hbel.trans ((hb13.mono hbz).trans hb5)⟩
      case measure => simp [intOf] <;> omega
    · obtain rfl : k = n := by omega
      rw [List.take_of_length_le (by omega)] at hF hfl
      obtain ⟨m, hm⟩ : ∃ m, (l.flatMap pgL).length = m := ⟨_, rfl⟩
      obtain ⟨A9, c9, rfl, hR9, _, hn9, hm9⟩ := hF.rdn m hm
      rw [hm] at hfl
      clear hF hm
      go_wp2_with fail
      refine (pad_any A9 m c9 (l.flatMap pgL) 256 _ hR9 (by omega) (by omega)).mono ?_
      rintro e w7 ⟨v7, rfl, hF7, hb7⟩
      go_wp2_with fail
      go_ret2
      exact ⟨_, rfl, hF7.from_ (Nat.le_trans hb1.size hbz), hb1.trans ((hbel.trans (hb7.mono hbz)).mono hb1.size)⟩
set_option maxRecDepth 100000 in
set_option maxHeartbeats 4000000 in
theorem rpgbytes_any (A : Option Addr) (n c : Nat) (l : List Pg) (w : World) (hr : RdG pgE w A n l) (hn : n ≤ 16) (hroom : ∀ x ∈ l, roomPg x) :
    Calls Try.prog 24 #[.slice A n c] w (Gives 5 w (pgsL l)) := by
  have hlen := hr.len
  have HR := Lib.hid hroom
  clear hroom
  go_enter Try.func24, Try.ntmps24
  go_wp2_with fail
  go_loopw [3, 8] (fun v i wr => ∃ k : Nat, k ≤ n ∧ i = .int .i64 k ∧ Fresh 5 w.heap.size wr v ((l.take k).flatMap pgL) ∧ Below w.heap.size w wr) (fun _ i _ => n - (intOf i).toNat)
  case atStart => exact ⟨0, by omega, rfl, Fresh.nil _ _ _, Below.refl _ _⟩
  case round =>
    obtain ⟨k, hk, rfl, hF, hbel⟩ := hrel
    have hbz := hbel.size
    have hfl : ((l.take k).flatMap pgL).length ≤ 256 := by rw [flatPg_len, List.length_take]; omega
    by_cases hlt : k < n
    · obtain ⟨b, off, x, rfl, hbl, hx, hcell⟩ := (hr.below hbel).at_ hlt
      obtain ⟨p1, p2, p3, p4, p5⟩ := x
      have c0 := hcell 0 _ rfl
      have c1 := hcell 1 _ rfl
      have c2 := hcell 2 _ rfl
      have c3 := hcell 3 _ rfl
      have c4 := hcell 4 _ rfl
      simp only [show pgE.sz = 5 from rfl, Nat.add_zero] at c0 c1 c2 c3 c4
      have hst := Lib.hid (pgs_step hx)
      obtain ⟨_, _, ⟨r0, r1⟩, ⟨s0, s1⟩, ⟨t0, t1⟩⟩ := HR.out _ (List.mem_of_getElem? hx)
      simp only at r0 r1 s0 s1 t0 t1
      have hB := Blk.new wr 33 #[.int .i64 p1, .int .i64 p2, .int .i64 p3, .int .i64 p4, .int .u64 p5]
      have cB := hB.cell
      have hw1 := wrap8 p1
      have hw2 := wrap8 p2
      have hw3 := wrap64 p3 r0 (by omega)
      have hw4 := wrap64 p4 s0 (by omega)
      have hFa := (hF.alloc (.cells #[.int .i64 p1, .int .i64 p2, .int .i64 p3, .int .i64 p4, .int .u64 p5] 33)).alloc (.cells #[.int .u8 ((byteI p1 0).toNat : Int), .int .u8 ((byteI p2 0).toNat : Int)] 5)
      clear hcell hx
      have hBa := hB.alloc (.cells #[.int .u8 ((byteI p1 0).toNat : Int), .int .u8 ((byteI p2 0).toNat : Int)] 5)
      go_wp2_with (at_builtin; refine wpList_append_bytes _ rfl (.tmp 12) (.tmp 19) _ rfl w.heap.size 5 Try.underlying57 info8 _ _ rfl hFa (some ⟨wr.heap.size + 1, 0, none⟩) 2 2 [byteI p1 0, byteI p2 0] rfl (by simpa using Rd.two (wr.alloc (.cells #[.int .i64 p1, .int .i64 p2, .int .i64 p3, .int .i64 p4, .int .u64 p5] 33)) 5 (byteI p1 0) (byteI p2 0)) (by omega) (by simp; omega) ?_; intro b5 w5 hF5 hg5 hb5; have hO5 := hFa.keeps hBa (by decide) hg5; have cO5 := hO5.cell; clear hg5 cB)
      have hbz5 : w.heap.size ≤ w5.heap.size := Nat.le_trans (by simp; omega) hb5.size
      have hbl5 : Below w.heap.size w w5 := (show Below w.heap.size w _ from (by (have q_hbel := Below.size hbel; (try simp at q_hbel); repeat (first | exact Below.refl _ _ | (refine Below.trans ?_ (Below.mono hbel (by first | omega | (simp; omega) | simp))) | (refine Below.setCell ?_ (by first | omega | (simp; omega) | simp) _) | (refine Below.alloc ?_ (by first | omega | (simp; omega) | simp) _) | apply Below.drew | apply below_drewN)))).trans hb5
      clear hb5 hFa hBa hB
      refine (rput_any 2 p3 _ (by omega) (by omega) (by omega)).mono ?_
      rintro e w6 ⟨v6, rfl, hF6, hb6⟩
      obtain ⟨A6, c6, rfl, hR6, _, _, _⟩ := hF6.rdn 2 (putL_len _ _)
      have hFb := hF5.below hb6
      have hO6 := hO5.on hb6
      have cO6 := hO6.cell
      have hbl6 := hbl5.trans (hb6.mono hbz5)
      have hl6 : ((l.take k).flatMap pgL ++ [byteI p1 0, byteI p2 0]).length ≤ 258 := by rw [List.length_append]; show _ + 2 ≤ 258; omega
      clear hF5 hF6 cO5 hb6 hO5 hbl5
      go_wp2_with (at_builtin; refine wpList_append_bytes _ rfl (.tmp 21) (.tmp 25) _ rfl w.heap.size 5 Try.underlying57 info8 _ _ rfl hFb A6 2 c6 _ rfl hR6 (by omega) hbl6.size ?_; intro b7 w7 hF7 hg7 hb7; have hO7 := hFb.keeps hO6 (by decide) hg7; have cO7 := hO7.cell; clear hg7 cO6)
      have hbl7 := hbl6.trans hb7
      clear hb7 hFb hO6 hbl6
      refine (rput_any 4 p4 _ (by omega) (by omega) (by omega)).mono ?_
      rintro e w8 ⟨v8, rfl, hF8, hb8⟩
      obtain ⟨A8, c8, rfl, hR8, _, _, _⟩ := hF8.rdn 4 (putL_len _ _)
      have hFc := hF7.below hb8
      have hO8 := hO7.on hb8
      have cO8 := hO8.cell
      have hbl8 := hbl7.trans (hb8.mono hbl7.size)
      have hl8 : ((l.take k).flatMap pgL ++ [byteI p1 0, byteI p2 0] ++ putL 2 p3).length ≤ 260 := by rw [List.length_append, putL_len]; omega
      clear hF7 hF8 cO7 hb8 hO7 hbl7
      go_wp2_with (at_builtin; refine wpList_append_bytes _ rfl (.tmp 27) (.tmp 31) _ rfl w.heap.size 5 Try.underlying57 info8 _ _ rfl hFc A8 4 c8 _ rfl hR8 (by omega) hbl8.size ?_; intro b9 w9 hF9 hg9 hb9; have hO9 := hFc.keeps hO8 (by decide) hg9; have cO9 := hO9.cell; clear hg9 cO8)
      have hbl9 := hbl8.trans hb9
      clear hb9 hFc hO8 hbl8
      refine (rput_any 8 p5 _ (by omega) (by omega) (by omega)).mono ?_
      rintro e w10 ⟨v10, rfl, hF10, hb10⟩
      obtain ⟨A10, c10, rfl, hR10, _, _, _⟩ := hF10.rdn 8 (putL_len _ _)
      have hFd := hF9.below hb10
      have hbl10 := hbl9.trans (hb10.mono hbl9.size)
      have hl10 : ((l.take k).flatMap pgL ++ [byteI p1 0, byteI p2 0] ++ putL 2 p3 ++ putL 4 p4).length ≤ 264 := by rw [List.length_append, putL_len]; omega
      clear hF9 hF10 cO9 hb10 hO9 hbl9
      go_wp2_with (at_builtin; refine wpList_append_bytes _ rfl (.tmp 33) (.tmp 36) _ rfl w.heap.size 5 Try.underlying57 info8 _ _ rfl hFd A10 8 c10 _ rfl hR10 (by omega) hbl10.size ?_; intro b11 w11 hF11 hg11 hb11)
      go_roundw
      case rel => exact ⟨k + 1, by omega, by go_num, by rw [hst.out, show (l.take k).flatMap pgL ++ pgL (p1, p2, p3, p4, p5) = (l.take k).flatMap pgL ++ [byteI p1 0, byteI p2 0] ++ putL 2 p3 ++ putL 4 p4 ++ putL 8 p5 by simp [pgL]]; exact hF11, hbl10.trans hb11⟩
      case measure => simp [intOf] <;> omega
    · obtain rfl : k = n := by omega
      rw [List.take_of_length_le (by omega)] at hF hfl
      obtain ⟨m, hm⟩ : ∃ m, (l.flatMap pgL).length = m := ⟨_, rfl⟩
      obtain ⟨A9, c9, rfl, hR9, _, hn9, hm9⟩ := hF.rdn m hm
      rw [hm] at hfl
      clear hF hm
      go_wp2_with fail
      refine (rpad_any A9 m c9 (l.flatMap pgL) 256 _ hR9 (by omega) (by omega)).mono ?_
      rintro e w7 ⟨v7, rfl, hF7, hb7⟩
      go_wp2_with fail
      go_ret
      exact ⟨_, rfl, hF7.from_ hbz, (by (have q_hb7 := Below.size hb7; (try simp at q_hb7); have q_hbel := Below.size hbel; (try simp at q_hbel); repeat (first | exact Below.refl _ _ | (refine Below.trans ?_ (Below.mono hb7 (by first | omega | (simp; omega) | simp))) | (refine Below.trans ?_ (Below.mono hbel (by first | omega | (simp; omega) | simp))) | (refine Below.setCell ?_ (by first | omega | (simp; omega) | simp) _) | (refine Below.alloc ?_ (by first | omega | (simp; omega) | simp) _) | apply Below.drew | apply below_drewN)))⟩
end Go.Proofs.Ytidlcplamgajpaa
