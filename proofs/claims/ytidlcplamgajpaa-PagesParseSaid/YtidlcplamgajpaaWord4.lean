/- Contracts of the document's own functions on words and bytes. -/
import Derived.Test.YtidlcplamgajpaaGet
import Derived.Test.YtidlcplamgajpaaPad
namespace Go.Proofs.Ytidlcplamgajpaa
open Go.RowKit

theorem byteI_next (v : Int) (k : Nat) : byteI (v / 256) k = byteI v (k + 1) := by
  unfold byteI
  congr 3
  rw [Int.ediv_ediv_of_nonneg (by omega), Int.pow_succ, Int.mul_comm]
theorem byteI_zero (v : Int) : (v % 256) = ((byteI v 0).toNat : Int) := by rw [byteI_val]; simp
theorem putL_snoc (n : Nat) (v : Int) : putL (n + 1) v = putL n v ++ [byteI v n] := by simp [putL, List.range_succ]
theorem div_pow (v : Int) (k : Nat) : v / 256 ^ k / 256 = v / 256 ^ (k + 1) := by
  rw [Int.ediv_ediv_of_nonneg (Int.pow_nonneg (by omega)), Int.pow_succ]

set_option maxHeartbeats 400000 in
theorem rput_any (n : Nat) (v : Int) (w : World) (n1 : n ≤ 8) (v0 : 0 ≤ v) (v1 : v ≤ 18446744073709551615) :
    Calls Try.prog 43 #[.int .i64 n, .int .u64 v] w (Gives 5 w (putL n v)) := by
  go_enter Try.func43, Try.ntmps43
  go_wp2_with fail
  go_loopw [1, 5, 6] (fun vv b i wr => ∃ k : Nat, k ≤ n ∧ i = .int .i64 k ∧ vv = .int .u64 (v / 256 ^ k) ∧ Fresh 5 w.heap.size wr b (putL k v) ∧ Below w.heap.size w wr) (fun _ _ i _ => n - (intOf i).toNat)
  case atStart => exact ⟨0, by omega, rfl, by simp, Fresh.nil _ _ _, Below.refl _ _⟩
  case round =>
    obtain ⟨k, hk, rfl, rfl, hF, hbel⟩ := hrel
    by_cases hlt : k < n
    · have hv0 : 0 ≤ v / 256 ^ k := Int.ediv_nonneg v0 (Int.pow_nonneg (by omega))
      have hv1 : v / 256 ^ k ≤ 18446744073709551615 := Int.le_trans (Int.ediv_le_self _ v0) v1
      have hd := Lib.hid (div_pow v k)
      have hbz := hbel.size
      obtain ⟨x, hx⟩ : ∃ x, x = v / 256 ^ k := ⟨_, rfl⟩
      have hX := Lib.hid hx
      rw [← hx] at hv0 hv1 ⊢
      clear hx
      go_wp2_with (at_builtin; refine wpList_append_bytes _ rfl (.tmp 16) (.tmp 20) _ rfl w.heap.size 5 Try.underlying57 info8 _ (putL k v) rfl (hF.alloc _) _ _ _ [byteI v k] rfl (Rd.byte _ _ _ _ (by rw [hX.out, byteI_val])) (by rw [putL_len]; omega) (by simp; omega) ?_; intro b' w1 hF1 hg1 hb1)
      go_roundw
      case rel => exact ⟨k + 1, by omega, by go_num, int_eq (by rw [hX.out, hd.out]), by rw [putL_snoc]; exact hF1, (by (have q_hb1 := Below.size hb1; (try simp at q_hb1); have q_hbel := Below.size hbel; (try simp at q_hbel); repeat (first | exact Below.refl _ _ | (refine Below.trans ?_ (Below.mono hb1 (by first | omega | (simp; omega) | simp))) | (refine Below.trans ?_ (Below.mono hbel (by first | omega | (simp; omega) | simp))) | (refine Below.setCell ?_ (by first | omega | (simp; omega) | simp) _) | (refine Below.alloc ?_ (by first | omega | (simp; omega) | simp) _) | apply Below.drew | apply below_drewN)))⟩
      case measure => simp [intOf] <;> omega
    · obtain rfl : k = n := by omega
      go_wp2_with fail
      go_ret
      exact ⟨_, rfl, hF, hbel⟩

set_option maxHeartbeats 400000 in
theorem rput_none (n v : Int) (w : World) (hn : n < 1 ∨ 8 < n) :
    Calls Try.prog 43 #[.int .i64 n, .int .u64 v] w (Gives 5 w []) := by
  rcases hn with hn | hn
  · go_enter Try.func43, Try.ntmps43
    go_wp2_with fail
    refine wp_loop_rounds 1 ?_; rw [rounds_succ]
    go_wp2_with fail
    go_ret
    exact ⟨_, rfl, Fresh.nil _ _ _, Below.refl _ _⟩
  · go_enter Try.func43, Try.ntmps43
    go_wp2_with fail
    refine wp_loop_rounds 1 ?_; rw [rounds_succ]
    go_wp2_with fail
    go_ret
    exact ⟨_, rfl, Fresh.nil _ _ _, Below.refl _ _⟩

theorem getL_drop (l : List UInt8) (k : Nat) (c : UInt8) (h : l[k]? = some c) : getL (l.drop (k + 1)) * 256 + c.toNat = getL (l.drop k) := by
  have hk : k < l.length := (List.getElem?_eq_some_iff.1 h).1
  have e : l[k] = c := (List.getElem?_eq_some_iff.1 h).2
  rw [List.drop_eq_getElem_cons hk, getL, e]
  omega
theorem getL_small (l : List UInt8) (h : l.length ≤ 8) : getL l < 18446744073709551616 := by
  have h1 := getL_lt l
  have h2 : 256 ^ l.length ≤ 256 ^ 8 := Nat.pow_le_pow_right (by omega) h
  omega

set_option maxHeartbeats 400000 in
theorem rget_short (A : Option Addr) (n c : Nat) (l : List UInt8) (w : World) (hr : Rd w A n l) (hn : n ≤ 8) :
    Calls Try.prog 50 #[.slice A n c] w fun e w' => e = .returned (.int .u64 (getL l : Int)) ∧ w = w' := by
  go_enter Try.func50, Try.ntmps50
  go_wp2_with fail
  go_loop [3, 4] (fun v i => ∃ k : Nat, k ≤ n ∧ i = .int .i64 ((k : Int) - 1) ∧ v = .int .u64 (getL (l.drop k) : Int)) (fun _ i => (intOf i + 1).toNat)
  case atStart => exact ⟨n, by omega, rfl, by rw [List.drop_of_length_le (by rw [hr.len]; omega)]; rfl⟩
  case round =>
    obtain ⟨k, hk, rfl, rfl⟩ := hrel
    by_cases hlt : 1 ≤ k
    · obtain ⟨j, rfl⟩ : ∃ j, k = j + 1 := ⟨k - 1, by omega⟩
      obtain ⟨b, off, x, rfl, hb, hx, hc⟩ := hr.at_ (show j < n by omega)
      have hd := getL_drop l j x hx
      have hs := getL_small (l.drop j) (by rw [List.length_drop, hr.len]; omega)
      have hD := Lib.hid hd
      have hx1 : (x.toNat : Int) ≤ 255 := by have := x.toNat_lt; omega
      have hs1 : (getL (l.drop (j + 1)) : Int) * 256 + x.toNat ≤ 18446744073709551615 := by omega
      clear hx hd
      rw [show (((j + 1 : Nat) : Int) - 1) = (j : Int) from by omega]
      go_wp2_with fail
      go_round
      case rel => exact ⟨j, by omega, rfl, int_eq (by rw [← hD.out]; omega)⟩
      case measure => simp [intOf] <;> omega
    · obtain rfl : k = 0 := by omega
      go_wp2_with fail
      go_ret
      exact ⟨rfl, rfl⟩

set_option maxHeartbeats 400000 in
theorem rget_any (A : Option Addr) (n c : Nat) (l : List UInt8) (w : World) (hr : Rd w A n l) (hn : n ≤ 140737488355328) (hc : n ≤ c) :
    Calls Try.prog 50 #[.slice A n c] w fun e w' => e = .returned (.int .u64 (getL (l.take 8) : Int)) ∧ w = w' := by
  by_cases h8 : 8 < n
  · have hr8 := hr.cut (k := 0) (m := 8) (cap := c) (by omega) (by omega) (by omega)
    rw [if_neg (by omega)] at hr8
    go_enter Try.func50, Try.ntmps50
    go_wp2_with fail
    go_loop [3, 4] (fun v i => ∃ k : Nat, k ≤ 8 ∧ i = .int .i64 ((k : Int) - 1) ∧ v = .int .u64 (getL ((l.take 8).drop k) : Int)) (fun _ i => (intOf i + 1).toNat)
    case atStart => exact ⟨8, by omega, rfl, by rw [List.drop_of_length_le (by rw [List.length_take]; omega)]; rfl⟩
    case round =>
      obtain ⟨k, hk, rfl, rfl⟩ := hrel
      by_cases hlt : 1 ≤ k
      · obtain ⟨j, rfl⟩ : ∃ j, k = j + 1 := ⟨k - 1, by omega⟩
        obtain ⟨b, off, x, rfl, hb, hx0, hcc⟩ := hr.at_ (show j < n by omega)
        have hx : (l.take 8)[j]? = some x := by rw [List.getElem?_take, if_pos (by omega)]; exact hx0
        have hd := getL_drop (l.take 8) j x hx
        have hs := getL_small ((l.take 8).drop j) (by rw [List.length_drop, List.length_take]; omega)
        have hD := Lib.hid hd
        have hx1 : (x.toNat : Int) ≤ 255 := by have := x.toNat_lt; omega
        have hs1 : (getL ((l.take 8).drop (j + 1)) : Int) * 256 + x.toNat ≤ 18446744073709551615 := by omega
        clear hx hd hx0
        generalize hg1 : getL ((l.take 8).drop (j + 1)) = g1 at *
        have HG := Lib.hid hg1
        clear hg1
        rw [show (((j + 1 : Nat) : Int) - 1) = (j : Int) from by omega]
        go_wp2_with fail
        go_round
        case rel => exact ⟨j, by omega, rfl, int_eq (by rw [← hD.out]; omega)⟩
        case measure => simp [intOf] <;> omega
      · obtain rfl : k = 0 := by omega
        go_wp2_with fail
        go_ret
        exact ⟨rfl, rfl⟩
  · have ht : l.take 8 = l := List.take_of_length_le (by rw [hr.len]; omega)
    rw [ht]
    exact rget_short A n c l w hr (by omega)

theorem getD_padL (l : List UInt8) (k : Nat) (h : l.length ≤ k) : l.getD k 0 = 0 := by simp [List.getD, List.getElem?_eq_none h]
theorem padL_step (n : Nat) (l : List UInt8) (k : Nat) (hk : k < n) : (padL n l).take (k + 1) = (padL n l).take k ++ [l.getD k 0] := take_step (padL_get n l k hk)

set_option maxHeartbeats 400000 in
theorem rpad_any (A : Option Addr) (m c : Nat) (l : List UInt8) (n : Nat) (w : World) (ha : Rd w A m l) (hm : m ≤ 140737488355328) (n1 : n ≤ 65536) :
    Calls Try.prog 44 #[.slice A m c, .int .i64 n] w (Gives 5 w (padL n l)) := by
  go_enter Try.func44, Try.ntmps44
  go_wp2_with fail
  go_loopw [5, 6] (fun b i wr => ∃ k : Nat, k ≤ n ∧ i = .int .i64 k ∧ Fresh 5 w.heap.size wr b ((padL n l).take k) ∧ Below w.heap.size w wr) (fun _ i _ => n - (intOf i).toNat)
  case atStart => exact ⟨0, by omega, rfl, Fresh.nil _ _ _, Below.refl _ _⟩
  case round =>
    obtain ⟨k, hk, rfl, hF, hbel⟩ := hrel
    have hbz := hbel.size
    by_cases hlt : k < n
    · have hP := Lib.hid (padL_step n l k hlt)
      have hlen : ((padL n l).take k).length ≤ 65536 := by rw [List.length_take]; omega
      by_cases hkm : k < m
      · obtain ⟨b, off, x, rfl, hb, hx, hcc⟩ := (ha.below hbel).at_ hkm
        have hX := Lib.hid (show l.getD k 0 = x by simp [List.getD, hx])
        clear hx
        go_wp2_with (at_builtin; refine wpList_append_bytes _ rfl (.tmp 23) (.tmp 25) _ rfl w.heap.size 5 Try.underlying57 info8 _ _ rfl (hF.alloc _) _ _ _ [x] rfl (Rd.byte _ _ _ _ rfl) (by omega) (by simp; omega) ?_; intro b' w1 hF1 hg1 hb1)
        go_roundw
        case rel => exact ⟨k + 1, by omega, by go_num, by rw [hP.out, hX.out]; exact hF1, (by (have q_hb1 := Below.size hb1; (try simp at q_hb1); have q_hbel := Below.size hbel; (try simp at q_hbel); repeat (first | exact Below.refl _ _ | (refine Below.trans ?_ (Below.mono hb1 (by first | omega | (simp; omega) | simp))) | (refine Below.trans ?_ (Below.mono hbel (by first | omega | (simp; omega) | simp))) | (refine Below.setCell ?_ (by first | omega | (simp; omega) | simp) _) | (refine Below.alloc ?_ (by first | omega | (simp; omega) | simp) _) | apply Below.drew | apply below_drewN)))⟩
        case measure => simp [intOf] <;> omega
      · have hX := Lib.hid (getD_padL l k (by rw [ha.len]; omega))
        go_wp2_with (at_builtin; refine wpList_append_bytes _ rfl (.tmp 23) (.tmp 25) _ rfl w.heap.size 5 Try.underlying57 info8 _ _ rfl (hF.alloc _) _ _ _ [0] rfl (Rd.byte _ _ _ _ rfl) (by omega) (by simp; omega) ?_; intro b' w1 hF1 hg1 hb1)
        go_roundw
        case rel => exact ⟨k + 1, by omega, by go_num, by rw [hP.out, hX.out]; exact hF1, (by (have q_hb1 := Below.size hb1; (try simp at q_hb1); have q_hbel := Below.size hbel; (try simp at q_hbel); repeat (first | exact Below.refl _ _ | (refine Below.trans ?_ (Below.mono hb1 (by first | omega | (simp; omega) | simp))) | (refine Below.trans ?_ (Below.mono hbel (by first | omega | (simp; omega) | simp))) | (refine Below.setCell ?_ (by first | omega | (simp; omega) | simp) _) | (refine Below.alloc ?_ (by first | omega | (simp; omega) | simp) _) | apply Below.drew | apply below_drewN)))⟩
        case measure => simp [intOf] <;> omega
    · obtain rfl : k = n := by omega
      have hT := Lib.hid (show (padL k l).take k = padL k l from List.take_of_length_le (by rw [padL_len]; omega))
      go_wp2_with fail
      go_ret
      exact ⟨_, rfl, by rw [← hT.out]; exact hF, hbel⟩

set_option maxHeartbeats 400000 in
theorem rpad_none (A : Option Addr) (m c : Nat) (n : Int) (w : World) (hn : n < 1 ∨ 65536 < n) :
    Calls Try.prog 44 #[.slice A m c, .int .i64 n] w (Gives 5 w []) := by
  rcases hn with hn | hn
  · go_enter Try.func44, Try.ntmps44
    go_wp2_with fail
    refine wp_loop_rounds 1 ?_; rw [rounds_succ]
    go_wp2_with fail
    go_ret
    exact ⟨_, rfl, Fresh.nil _ _ _, Below.refl _ _⟩
  · go_enter Try.func44, Try.ntmps44
    go_wp2
    go_ret
    exact ⟨_, rfl, Fresh.nil _ _ _, Below.refl _ _⟩
end Go.Proofs.Ytidlcplamgajpaa
