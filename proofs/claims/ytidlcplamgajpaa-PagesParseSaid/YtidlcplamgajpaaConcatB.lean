/- Lists of byte slices: what they read; slices.Concat and slices.Grow at bytes; bytes.Equal. -/
import Derived.Test.YtidlcplamgajpaaWord
import Derived.Lib.AppendZerosOnto
namespace Go.Proofs.Ytidlcplamgajpaa
open Go.RowKit

/-- The slice value of address A and length n holds n slices that read the bytes of ls. -/
def RdSS (w : World) (A : Option Addr) (n : Nat) (ls : List (List UInt8)) : Prop :=
  ls.length = n ∧ (0 < n → ∃ b off, A = some ⟨b, off, none⟩ ∧ b < w.heap.size ∧ ∀ (k : Nat) (l : List UInt8), ls[k]? = some l → ∃ Ai ci, w.cell? ⟨b, off + k, none⟩ = some (.slice Ai l.length ci) ∧ Rd w Ai l.length l ∧ l.length ≤ ci ∧ ci ≤ maxLen)
section
variable {w w' : World} {A : Option Addr} {n : Nat} {ls : List (List UInt8)}
theorem RdSS.len (h : RdSS w A n ls) : ls.length = n := h.1
theorem RdSS.on (h : RdSS w A n ls) {B : Nat} (hb : Below B w w') (hB : w.heap.size ≤ B) : RdSS w' A n ls :=
  ⟨h.1, fun hn => by
    obtain ⟨b, off, e, hlt, hc⟩ := h.2 hn
    refine ⟨b, off, e, Nat.lt_of_lt_of_le hlt hb.size, fun k l hk => ?_⟩
    obtain ⟨Ai, ci, h1, h2, h3⟩ := hc k l hk
    exact ⟨Ai, ci, (hb.cell (p := ⟨b, off + k, none⟩) (by show b < B; omega)).trans h1, h2.on hb hB, h3⟩⟩
theorem RdSS.below (h : RdSS w A n ls) (hb : Below w.heap.size w w') : RdSS w' A n ls := h.on hb (Nat.le_refl _)
theorem RdSS.alloc (h : RdSS w A n ls) (o : Obj) : RdSS (w.alloc o) A n ls := h.below ((Below.refl _ _).alloc (Nat.le_refl _) o)
theorem RdSS.drew (h : RdSS w A n ls) : RdSS w.drew A n ls := h
theorem RdSS.nil : RdSS w A 0 [] := ⟨rfl, fun h => absurd h (by omega)⟩
theorem RdSS.at_ (h : RdSS w A n ls) {k : Nat} (hk : k < n) : ∃ b off l Ai ci, A = some ⟨b, off, none⟩ ∧ b < w.heap.size ∧ ls[k]? = some l ∧ w.cell? ⟨b, off + k, none⟩ = some (.slice Ai l.length ci) ∧ Rd w Ai l.length l ∧ l.length ≤ ci ∧ ci ≤ maxLen := by
  obtain ⟨b, off, e, hb, hc⟩ := h.2 (by omega)
  have hl : k < ls.length := by have := h.1; omega
  obtain ⟨Ai, ci, h1, h2⟩ := hc k _ (List.getElem?_eq_getElem hl)
  exact ⟨b, off, ls[k], Ai, ci, e, hb, List.getElem?_eq_getElem hl, h1, h2⟩
end
theorem flat_step {α : Type} {ls : List (List α)} {k : Nat} {l : List α} (h : ls[k]? = some l) : (ls.take (k + 1)).flatten = (ls.take k).flatten ++ l := by
  rw [take_step h]; simp
theorem flat_take_le {α : Type} : ∀ (ls : List (List α)) (k : Nat), ((ls.take k).flatten).length ≤ ls.flatten.length
  | [], k => by simp
  | l :: ls, 0 => by simp
  | l :: ls, k + 1 => by
    have := flat_take_le ls k
    simp only [List.take_succ_cons, List.flatten_cons, List.length_append]
    omega

theorem zeroCells_map (n : Nat) : Builtin.zeroCells #[Value.int .u8 0] n = (List.replicate n (Value.int .u8 0)).toArray := by
  apply Array.toList_inj.1
  have := toList_madeCells_one (.int .u8 0) n
  simpa [Builtin.zeroCells, madeCells, Value.cells] using this

set_option maxRecDepth 100000 in
set_option maxHeartbeats 2000000 in
theorem grow_any (n : Nat) (w : World) (hn : n ≤ 140737488355328) :
    Calls Try.prog 64 #[.slice none 0 0, .int .i64 n] w (Gives 5 w []) := by
  rcases Nat.eq_zero_or_pos n with h0 | h0
  · subst h0
    go_enter Try.func64, Try.ntmps64
    go_wp2_with fail
    go_ret
    exact ⟨_, rfl, Fresh.nil _ _ _, (by (repeat (first | exact Below.refl _ _ | (refine Below.setCell ?_ (by first | omega | (simp; omega) | simp) _) | (refine Below.alloc ?_ (by first | omega | (simp; omega) | simp) _) | apply Below.drew | apply below_drewN)))⟩
  · obtain ⟨i, g1, g2, g3, g4⟩ := info_parts info8
    have hrz := fun ty => Lib.run_append_grow_zeros (P := Try.prog) w 57 3 ty 5 i (.int .u8 0) .i64 .i64 Try.underlying57 Try.underlying3 g1 g2 none 0 0 [] (by exact run_firstCells_none w.drew i.size 0 0 0) n h0 (by omega) (by omega) (by omega) (by rw [g4]; omega) (growslice_fits (by omega) (by rw [g4]; omega))
    rw [Nat.zero_add] at hrz
    have hGn := grownCap_ge w n 0 5
    have hGm := grownCap_le_maxLen w n 0 5 (by unfold maxLen; omega)
    obtain ⟨G, hG⟩ : ∃ G, G = grownCap w n 0 5 := ⟨_, rfl⟩
    rw [← hG] at hrz hGn hGm
    clear hG
    have hGm' := hGm
    unfold maxLen at hGm'
    go_enter Try.func64, Try.ntmps64
    go_wp2_with (at_builtin; refine Lib.wpList_append_run _ rfl _ _ _ _ rfl _ _ rfl rfl _ _ (hrz _) ?_)
    go_ret
    refine ⟨_, rfl, ⟨some ⟨w.heap.size, 0, none⟩, G, rfl, ⟨rfl, .inr ⟨w.heap.size, G, _, rfl, Nat.le_refl _, heap_alloc_new w.drew _, by simp, hGm, ?_, rfl⟩⟩⟩, (by (repeat (first | exact Below.refl _ _ | (refine Below.setCell ?_ (by first | omega | (simp; omega) | simp) _) | (refine Below.alloc ?_ (by first | omega | (simp; omega) | simp) _) | apply Below.drew | apply below_drewN)))⟩
    rw [zeroCells_map, zeroCells_map]
    simp
    omega

/-- How many bytes the first k slices have; the bytes. -/
def catN (ls : List (List UInt8)) (k : Nat) : Nat := (ls.take k).flatten.length
def catL (ls : List (List UInt8)) (k : Nat) : List UInt8 := (ls.take k).flatten
theorem catN_le (ls : List (List UInt8)) (k : Nat) : catN ls k ≤ ls.flatten.length := flat_take_le ls k
theorem catN_step {ls : List (List UInt8)} {k : Nat} {l : List UInt8} (h : ls[k]? = some l) : catN ls (k + 1) = catN ls k + l.length := by
  unfold catN; rw [flat_step h, List.length_append]
theorem catL_len (ls : List (List UInt8)) (k : Nat) : (catL ls k).length = catN ls k := rfl
theorem catL_step {ls : List (List UInt8)} {k : Nat} {l : List UInt8} (h : ls[k]? = some l) : catL ls (k + 1) = catL ls k ++ l := flat_step h
theorem catL_all (ls : List (List UInt8)) (k : Nat) (h : ls.length ≤ k) : catL ls k = ls.flatten := by unfold catL; rw [List.take_of_length_le h]

set_option maxRecDepth 100000 in
set_option maxHeartbeats 2000000 in
theorem concat_any (A : Option Addr) (n c : Nat) (ls : List (List UInt8)) (w : World) (hr : RdSS w A n ls) (hn : n ≤ 140737488355328) (hl : ls.flatten.length ≤ 140737488355328) :
    Calls Try.prog 60 #[.slice A n c] w (Gives 5 w ls.flatten) := by
  go_enter Try.func60, Try.ntmps60
  go_wp2_with fail
  go_loop [3, 11] (fun s i => ∃ k : Nat, k ≤ n ∧ i = .int .i64 k ∧ s = .int .i64 (catN ls k : Int)) (fun _ i => n - (intOf i).toNat)
  case atStart => exact ⟨0, by omega, rfl, rfl⟩
  case round =>
    obtain ⟨k, hk, rfl, rfl⟩ := hrel
    have hle := catN_le ls k
    by_cases hlt : k < n
    · obtain ⟨b, off, l, Ai, ci, rfl, hb, hx, hcell, hR, hlc, hcm⟩ := hr.at_ hlt
      have hst := Lib.hid (catN_step hx)
      have hle2 : (catN ls k : Int) + l.length ≤ 140737488355328 := by have := hst.out; have := catN_le ls (k + 1); omega
      clear hx
      go_wp2_with fail
      go_round
      case rel => exact ⟨k + 1, by omega, by go_num, int_eq (by rw [hst.out]; omega)⟩
      case measure => simp [intOf] <;> omega
    · obtain rfl : k = n := by omega
      have hT := Lib.hid (catL_all ls k (by rw [hr.len]; omega))
      have hle' : catN ls k ≤ 140737488355328 := by omega
      go_wp2_with fail
      refine (grow_any _ _ hle').mono ?_
      rintro e w1 ⟨v, rfl, hF1, hb1⟩
      go_wp2_with fail
      go_loopw [6, 27] (fun b i wr => ∃ j : Nat, j ≤ k ∧ i = .int .i64 j ∧ Fresh 5 w.heap.size wr b (catL ls j) ∧ Below w.heap.size w wr) (fun _ i _ => k - (intOf i).toNat)
      case atStart => exact ⟨0, by omega, rfl, hF1, hb1⟩
      case round =>
        obtain ⟨j, hj, rfl, hF, hbel⟩ := hrel
        have hle2 := catN_le ls j
        have hbz := hbel.size
        by_cases hlt : j < k
        · obtain ⟨b, off, l, Ai, ci, rfl, hb, hx, hcell, hR, hlc, hcm⟩ := (hr.below hbel).at_ hlt
          have hst := Lib.hid (catL_step hx)
          have hle3 : (catL ls j).length + l.length ≤ 140737488355328 := by
            have := catN_le ls (j + 1)
            rw [catN_step hx] at this
            rw [catL_len]; omega
          clear hx
          go_wp2_with (at_builtin; refine wpList_append_bytes _ rfl (.tmp 31) (.tmp 32) _ rfl w.heap.size 5 Try.underlying57 info8 _ _ rfl hF _ _ _ l rfl hR hle3 hbz ?_; intro b' w2 hF2 hg2 hb2)
          go_roundw
          case rel => exact ⟨j + 1, by omega, by go_num, by rw [hst.out]; exact hF2, (by (have q_hb2 := Below.size hb2; (try simp at q_hb2); have q_hbel := Below.size hbel; (try simp at q_hbel); repeat (first | exact Below.refl _ _ | (refine Below.trans ?_ (Below.mono hb2 (by first | omega | (simp; omega) | simp))) | (refine Below.trans ?_ (Below.mono hbel (by first | omega | (simp; omega) | simp))) | (refine Below.setCell ?_ (by first | omega | (simp; omega) | simp) _) | (refine Below.alloc ?_ (by first | omega | (simp; omega) | simp) _) | apply Below.drew | apply below_drewN)))⟩
          case measure => simp [intOf] <;> omega
        · obtain rfl : j = k := by omega
          go_wp2_with fail
          go_ret
          exact ⟨_, rfl, by rw [← hT.out]; exact hF, hbel⟩
end Go.Proofs.Ytidlcplamgajpaa
