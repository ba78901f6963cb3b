/- Rows: what is left, what was wrong; rows that are none; the document's rows. -/
import Derived.Test.YtdnjlhcmihmgdaaRow
namespace Go.Proofs.Ytdnjlhcmihmgdaa
open Go.RowKit

set_option maxHeartbeats 400000 in
theorem err_any (g : Nat) (gs : List Nat) (l : List UInt8) (er : Int) (w : World) (h : RowIs 87 w g gs l er) :
    Calls Try.prog 38 #[.pointer (some ⟨g, 0, none⟩)] w fun e w' => e = .returned (.int .i64 er) ∧ w = w' := by
  obtain ⟨hg, A, c, hB, hR, hlc, hcm⟩ := h
  have cc := hB.cell
  go_enter Try.func38, Try.ntmps38
  go_wp2_with fail
  go_ret
  exact ⟨rfl, rfl⟩
/-- How many bytes are told to be left. -/
def restI (l : List UInt8) (e : Int) : Int := if e = 0 then l.length else 0
set_option maxHeartbeats 400000 in
theorem rest_any (g : Nat) (gs : List Nat) (l : List UInt8) (er : Int) (w : World) (h : RowIs 87 w g gs l er) :
    Calls Try.prog 39 #[.pointer (some ⟨g, 0, none⟩)] w fun e w' => e = .returned (.int .i64 (restI l er)) ∧ w = w' := by
  obtain ⟨hg, A, c, hB, hR, hlc, hcm⟩ := h
  have cc := hB.cell
  by_cases he : er = 0
  · subst he
    have hT := Lib.hid (show restI l 0 = l.length by unfold restI; rw [if_pos rfl])
    go_enter Try.func39, Try.ntmps39
    go_wp2_with fail
    go_ret
    exact ⟨by rw [hT.out]; rfl, rfl⟩
  · have hT := Lib.hid (show restI l er = 0 by unfold restI; rw [if_neg he])
    have hq : (er == 0) = false := by simp [he]
    go_enter Try.func39, Try.ntmps39
    go_wp2_with fail
    go_ret
    exact ⟨by rw [hT.out]; rfl, rfl⟩

theorem err_nil (w : World) : Calls Try.prog 38 #[.pointer none] w fun e w' => e = .returned (.int .i64 2) ∧ w = w' := by
  go_enter Try.func38, Try.ntmps38
  go_wp2_with fail
  go_ret
  exact ⟨rfl, rfl⟩
theorem rest_nil (w : World) : Calls Try.prog 39 #[.pointer none] w fun e w' => e = .returned (.int .i64 0) ∧ w = w' := by
  go_enter Try.func39, Try.ntmps39
  go_wp2_with fail
  go_ret
  exact ⟨rfl, rfl⟩
theorem next_nil (n : Int) (w : World) : Calls Try.prog 52 #[.pointer none, .int .i64 n] w fun e w' => e = .returned (.slice none 0 0) ∧ w = w' := by
  go_enter Try.func52, Try.ntmps52
  go_wp2_with fail
  go_ret
  exact ⟨rfl, rfl⟩
theorem num_nil (w : World) : Calls Try.prog 35 #[.pointer none, .int .i64 3] w fun e w' => e = .returned (.int .u64 0) ∧ w = w' := by
  go_enter Try.func35, Try.ntmps35
  go_wp2_with fail
  refine (next_nil _ _).mono ?_
  rintro e w1 ⟨rfl, rfl⟩
  go_wp2_with fail
  refine (get_any none 0 0 [] _ Rd.nil (by omega)).mono ?_
  rintro e w1 ⟨rfl, rfl⟩
  go_wp2_with fail
  go_ret
  exact ⟨rfl, rfl⟩
theorem rbytes_nil (w : World) : Calls Try.prog 37 #[.pointer none, .int .i64 2] w (Gives 5 w []) := by
  go_enter Try.func37, Try.ntmps37
  go_wp2_with fail
  refine (next_nil _ _).mono ?_
  rintro e w1 ⟨rfl, rfl⟩
  go_wp2_with fail
  refine (clone_any none 0 0 [] _ Rd.nil (by omega)).mono ?_
  rintro e w2 ⟨v, rfl, hF, hb⟩
  go_wp2_with fail
  go_ret
  exact ⟨v, rfl, hF, hb⟩

/-- Which number of bytes is asked for, if it may be asked for or not. -/
def okN (ok : Bool) (n : Int) : Int := if ok = true then n else -1

theorem took_yes2 {T : TypeId} {w : World} {g : Nat} {gs : List Nat} {l : List UInt8} {A A2 : Option Addr} {c c2 k : Nat} {x : Ending} {w' : World} (hg : g ∈ gs) (hB : Blk w g T #[.slice A l.length c, .int .i64 0]) (hR : RdN w gs A l.length l) (hlc : l.length ≤ c) (hcm : c ≤ maxLen) (hk : k ≤ l.length)
    (hc2 : c2 = c - k) (hA2 : RdN w gs A2 (l.length - k) (l.drop k)) (hx : x = .returned (.slice A k c)) (hw : w' = w.setCell ⟨g, 0, none⟩ (.slice A2 (l.length - k) c2)) : Took T w g gs l 0 k x w' := by
  obtain ⟨A', c', _, h2, h3, h4, h5, h6⟩ := took_yes (x := .returned (.slice A k k)) hg hB hR hlc hcm hk hc2 hA2 rfl hw
  obtain ⟨t1, t2, t3⟩ := take_yes hk
  have hlen : (l.take k).length = k := by simp; omega
  subst hw
  have hcut := hR.cut (k := 0) (m := k) (cap := k + 1) (by omega) hk (by omega)
  rw [if_neg (by omega)] at hcut
  have hcut' : RdN w gs A k (l.take k) := by cases A <;> simpa [Addr.add] using hcut
  refine ⟨A, c, by rw [t1, hlen]; exact hx, by rw [t1, hlen]; omega, hcm, ?_, h5, h6⟩
  rw [t1, hlen]
  exact hcut'.kept h6 (by simpa using hg)

set_option maxHeartbeats 1000000 in
theorem rtake_any (g : Nat) (gs : List Nat) (l : List UInt8) (er n : Int) (ok : Bool) (w : World) (h : RowIs 55 w g gs l er) (hn : n ≤ 9223372036854775807) :
    Calls Try.prog 36 #[.pointer (some ⟨g, 0, none⟩), .int .i64 n, .bool ok] w (Took 55 w g gs l er (okN ok n)) := by
  obtain ⟨hg, A, c, hB, hR, hlc, hcm⟩ := h
  have hcm' := hcm
  unfold maxLen at hcm
  have hz := hB.lt
  have cc := hB.cell
  have ff := hB.frozen
  by_cases he : er = 0
  · subst he
    have bad : okN ok n < 0 → ∀ x w', x = .returned (.slice none 0 0) → w' = w.setCell ⟨g, 1, none⟩ (.int .i64 1) → Took 55 w g gs l 0 (okN ok n) x w' := by
      rintro h0 x w' hx rfl
      obtain ⟨t1, t2, t3⟩ := take_neg (l := l) h0
      have S1 := hB.set_ 1 (.int .i64 1)
      refine ⟨none, 0, by rw [t1]; exact hx, by rw [t1]; simp, by unfold maxLen; omega, by rw [t1]; exact RdN.nil, ?_, Kept.setCell (.refl _ _) (by simp) _⟩
      rw [t2, t3]
      exact ⟨hg, A, c, S1, hR.kept (Kept.setCell (.refl [g] _) (by simp) _) (by simpa using hg), hlc, hcm'⟩
    cases ok
    · have hbad := bad (by simp [okN])
      clear bad
      go_enter Try.func36, Try.ntmps36
      go_wp2_with fail
      go_ret
      exact hbad _ _ rfl rfl
    · rw [show okN true n = n from rfl] at bad ⊢
      rcases Int.lt_or_le n 0 with h0 | h0
      · have hbad := bad h0
        clear bad
        go_enter Try.func36, Try.ntmps36
        go_wp2_with fail
        go_ret
        exact hbad _ _ rfl rfl
      · clear bad
        obtain ⟨k, rfl⟩ := Int.eq_ofNat_of_zero_le h0
        rcases Nat.lt_or_ge l.length k with h1 | h1
        · have hT := Lib.hid (take_far (l := l) (n := k) h0 (by omega))
          go_enter Try.func36, Try.ntmps36
          go_wp2_with fail
          go_ret
          obtain ⟨t1, t2, t3⟩ := hT.out
          have S1 := hB.set_ 1 (.int .i64 3)
          refine ⟨none, 0, by rw [t1]; rfl, by rw [t1]; simp, by unfold maxLen; omega, by rw [t1]; exact RdN.nil, ?_, Kept.setCell (.refl _ _) (by simp) _⟩
          rw [t2, t3]
          exact ⟨hg, A, c, S1, hR.kept (Kept.setCell (.refl [g] _) (by simp) _) (by simpa using hg), hlc, hcm'⟩
        · have q1 : k ≤ c := by omega
          go_enter Try.func36, Try.ntmps36
          go_wp2_with fail
          · go_ret
            have hck : c = k := by assumption
            exact took_yes2 hg hB hR hlc hcm' h1 (by omega) (show RdN w gs A (l.length - k) (l.drop k) by rw [show l.length - k = 0 from by omega, List.drop_of_length_le (by omega)]; exact RdN.nil) (by rw [hck]; rfl) rfl
          · go_ret
            have hck : ¬ c = k := by assumption
            have hcut := hR.cut (k := k) (m := l.length) (cap := c) h1 (Nat.le_refl _) hlc
            rw [if_neg hck, List.take_of_length_le (Nat.le_refl _), Nat.mul_one] at hcut
            exact took_yes2 hg hB hR hlc hcm' h1 rfl hcut rfl rfl
  · have hT := Lib.hid (take_bad (l := l) (n := okN ok n) he)
    go_enter Try.func36, Try.ntmps36
    go_wp2_with fail
    go_ret
    obtain ⟨t1, t2, t3⟩ := hT.out
    refine ⟨none, 0, by rw [t1]; rfl, by rw [t1]; simp, by unfold maxLen; omega, by rw [t1]; exact RdN.nil, ?_, .refl _ _⟩
    rw [t2, t3]
    exact ⟨hg, A, c, hB, hR, hlc, hcm'⟩
end Go.Proofs.Ytdnjlhcmihmgdaa
