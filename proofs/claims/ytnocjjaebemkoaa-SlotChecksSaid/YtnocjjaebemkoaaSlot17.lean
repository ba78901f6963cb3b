/- Slots: the laws' helpers: any step. The walk of the statement SlotPlays. -/
import Derived.Test.YtnocjjaebemkoaaSlot12
import Derived.Test.YtnocjjaebemkoaaSlot13
import Derived.Test.YtnocjjaebemkoaaSlot14
import Derived.Test.YtnocjjaebemkoaaSlot15
import Derived.Test.YtnocjjaebemkoaaSlot16
import Derived.Test.YtnocjjaebemkoaaSlotV
namespace Go.Proofs.Ytnocjjaebemkoaa
open Go.RowKit

theorem and7 (n : Int) : bits .and .i64 n 7 = n % 8 := by
  have h7 : (BitVec.ofInt 64 7).toNat = 2 ^ 3 - 1 := by decide
  have key : (BitVec.ofInt 64 n &&& BitVec.ofInt 64 7).toNat = (n % ((2 ^ 64 : Nat) : Int)).toNat % 2 ^ 3 := by
    rw [BitVec.toNat_and, BitVec.toNat_ofInt, h7, Nat.and_two_pow_sub_one_eq_mod]
  show IntKind.i64.wrap ((BitVec.ofInt 64 n &&& BitVec.ofInt 64 7).toNat : Nat) = n % 8
  rw [key, IntKind.wrap_i64]
  omega
theorem and255 (n : Int) : bits .and .i64 n 255 = n % 256 := by
  have h7 : (BitVec.ofInt 64 255).toNat = 2 ^ 8 - 1 := by decide
  have key : (BitVec.ofInt 64 n &&& BitVec.ofInt 64 255).toNat = (n % ((2 ^ 64 : Nat) : Int)).toNat % 2 ^ 8 := by
    rw [BitVec.toNat_and, BitVec.toNat_ofInt, h7, Nat.and_two_pow_sub_one_eq_mod]
  show IntKind.i64.wrap ((BitVec.ofInt 64 n &&& BitVec.ofInt 64 255).toNat : Nat) = n % 256
  rw [key, IntKind.wrap_i64]
  omega
theorem class_mod (c : Int) : ∃ z N, ClassOK (c % 8) z N := by
  refine ClassOK.of _ ?_
  rcases (show c % 8 = 0 ∨ c % 8 = 1 ∨ c % 8 = 2 ∨ c % 8 = 3 ∨ c % 8 = 4 ∨ c % 8 = 5 ∨ c % 8 = 6 ∨ c % 8 = 7 by omega) with h | h | h | h | h | h | h | h <;> rw [h] <;> decide
set_option maxRecDepth 100000 in
set_option maxHeartbeats 4000000 in
theorem step_other {c : Int} {z N : Nat} (A : Option Addr) (cp : Nat) (p : List UInt8) (Al : Option Addr) (cl : Nat) (l : List Ob) (w : World) (hr : Rd w A 256 p) (hn : 256 ≤ cp) (hcp : cp ≤ maxLen) (hrl : RdR obK w.heap.size 5 w Al N l) (hP : PageOf z N p l)
    (kind K m a1 s : Int) (hk : kind < 0 ∨ 6 < kind) (Ab : Option Addr) (nb cb : Nat) (bs : List UInt8) (hb : Rd w Ab nb bs) (hnb : nb ≤ cb) :
    Calls Try.prog 22 #[.slice A 256 cp, .slice Al N cl, .int .i64 c, .agg #[.int .i64 kind, .int .i64 K, .int .i64 m, .int .i64 a1, .int .u64 s, .slice Ab nb cb]] w (Stepped 5 z N w) := by
  have k0 : (kind == 0) = false := by simp; omega
  have k1 : (kind == 1) = false := by simp; omega
  have k2 : (kind == 2) = false := by simp; omega
  have k3 : (kind == 3) = false := by simp; omega
  have k4 : (kind == 4) = false := by simp; omega
  have k5 : (kind == 5) = false := by simp; omega
  have k6 : (kind == 6) = false := by simp; omega
  clear hk
  go_enter Try.func22, Try.ntmps22
  go_upto_if 22 with fail
  go_cut [7] (fun a wx => a = .pointer (some ⟨w.heap.size, 0, none⟩) ∧ (∃ nb' bs', Blk wx w.heap.size 34 #[.int .i64 kind, .int .i64 K, .int .i64 m, .int .i64 a1, .int .u64 s, .slice Ab nb' cb] ∧ Rd wx Ab nb' bs' ∧ nb' ≤ 130 ∧ nb' ≤ cb) ∧ Below w.heap.size w wx)
  case first =>
    have B0 := Blk.new w 34 #[.int .i64 kind, .int .i64 K, .int .i64 m, .int .i64 a1, .int .u64 s, .slice Ab nb cb]
    have c0 := B0.cell
    have f0 := B0.frozen
    by_cases h130 : 130 < nb
    · go_wp2_with fail
      go_meet
      exact ⟨rfl, ⟨130, bs.take 130, Blk.new _ _ _, (hb.head 130 (by omega)).alloc _, by omega, by omega⟩, (by (repeat (first | exact Below.refl _ _ | (refine Below.setCell ?_ (by first | omega | (simp; omega) | simp) _) | (refine Below.alloc ?_ (by first | omega | (simp; omega) | simp) _) | apply Below.drew | apply below_drewN)))⟩
    · go_wp2_with fail
      go_meet
      exact ⟨rfl, ⟨nb, bs, B0, hb.alloc _, by omega, hnb⟩, (by (repeat (first | exact Below.refl _ _ | (refine Below.setCell ?_ (by first | omega | (simp; omega) | simp) _) | (refine Below.alloc ?_ (by first | omega | (simp; omega) | simp) _) | apply Below.drew | apply below_drewN)))⟩
  case rest =>
    obtain ⟨rfl, ⟨nb', bs', hB, hbR, h130, hnb'⟩, hbel⟩ := hcut
    have hzc := hbel.size
    have hrc := hr.below hbel
    have hrlc := hrl.below hbel
    have hcv := conv cp _ hrc
    have cB := hB.cell
    have hzB := hB.lt
    go_wp2_with fail
    go_ret3
    exact Stepped.same hr hn hcp hrl hP (by (have q_hbel := Below.size hbel; (try simp at q_hbel); repeat (first | exact Below.refl _ _ | (refine Below.trans ?_ (Below.mono hbel (by first | omega | (simp; omega) | simp))) | (refine Below.setCell ?_ (by first | omega | (simp; omega) | simp) _) | (refine Below.alloc ?_ (by first | omega | (simp; omega) | simp) _) | apply Below.drew | apply below_drewN)))
theorem step_any {c : Int} {z N : Nat} (hc : ClassOK c z N) (A : Option Addr) (cp : Nat) (p : List UInt8) (Al : Option Addr) (cl : Nat) (l : List Ob) (w : World) (hr : Rd w A 256 p) (hn : 256 ≤ cp) (hcp : cp ≤ maxLen) (hrl : RdR obK w.heap.size 5 w Al N l) (hP : PageOf z N p l)
    (kind K m a1 s : Int) (Ab : Option Addr) (nb cb : Nat) (bs : List UInt8) (hb : Rd w Ab nb bs) (hnb : nb ≤ cb) :
    Calls Try.prog 22 #[.slice A 256 cp, .slice Al N cl, .int .i64 c, .agg #[.int .i64 kind, .int .i64 K, .int .i64 m, .int .i64 a1, .int .u64 s, .slice Ab nb cb]] w (Stepped 5 z N w) := by
  rcases (show (kind < 0 ∨ 6 < kind) ∨ kind = 0 ∨ kind = 1 ∨ kind = 2 ∨ kind = 3 ∨ kind = 4 ∨ kind = 5 ∨ kind = 6 by omega) with h | rfl | rfl | rfl | rfl | rfl | rfl | rfl
  · exact step_other A cp p Al cl l w hr hn hcp hrl hP kind K m a1 s h Ab nb cb bs hb hnb
  · exact step_take0 hc A cp p Al cl l w hr hn hcp hrl hP K m a1 s Ab nb cb bs hb hnb
  · exact step_take1 hc A cp p Al cl l w hr hn hcp hrl hP K m a1 s Ab nb cb bs hb hnb
  · exact step_take2 hc A cp p Al cl l w hr hn hcp hrl hP K m a1 s Ab nb cb bs hb hnb
  · exact step_free hc A cp p Al cl l w hr hn hcp hrl hP K m a1 s Ab nb cb bs hb hnb
  · exact step_resize hc A cp p Al cl l w hr hn hcp hrl hP K m a1 s Ab nb cb bs hb hnb
  · exact step_write5 hc A cp p Al cl l w hr hn hcp hrl hP K m a1 s Ab nb cb bs hb hnb
  · exact step_write6 hc A cp p Al cl l w hr hn hcp hrl hP K m a1 s Ab nb cb bs hb hnb
end Go.Proofs.Ytnocjjaebemkoaa
