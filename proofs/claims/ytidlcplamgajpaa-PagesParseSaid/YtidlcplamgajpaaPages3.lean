/- Pages: a list of one's own; runs of free ones. -/
import Derived.Test.YtidlcplamgajpaaPages2

namespace Go.Proofs.Ytidlcplamgajpaa
open Go.RowKit

theorem infoPg : (Try.prog.info? 65).map (fun i => (i.zero, i.size, i.bytes)) = some (some (.agg #[.int .i64 0, .int .i64 0, .int .i64 0, .int .i64 0, .int .u64 0]), 5, 40) := by kernel_rfl
theorem infoRun : (Try.prog.info? 30).map (fun i => (i.zero, i.size, i.bytes)) = some (some (.agg #[.int .i64 0, .int .i64 0]), 2, 16) := by kernel_rfl

section
variable {α : Type} {E : Enc α} {T : TypeId} {B : Nat} {w : World} {l : List α} {A : Option Addr} {n c : Nat}
/-- The block of a row that is not empty. -/
theorem FreshG.open_ (h : FreshG E T B w (.slice A n c) l) (hn : l.length = n) (hpos : 0 < n) : ∃ g cur, A = some ⟨g, 0, none⟩ ∧ B ≤ g ∧ Blk w g T cur ∧ n * E.sz ≤ cur.size ∧ cur.toList.take (n * E.sz) = l.flatMap E.f ∧ n ≤ c := by
  obtain ⟨A', c', hv, hown⟩ := h
  injection hv with h1 h2 h3
  subst h1 h3
  rcases hown.2 with ⟨h0, _⟩ | ⟨g, cap, cur, hv, hg, hh, hnc, hcm, hsz, hx⟩
  · injection h0 with _ h0 _; omega
  · injection hv with h1 _ h3
    subst h3
    refine ⟨g, cur, h1, hg, hh, ?_, ?_, by omega⟩
    · rw [hsz, ← hn]; exact Nat.mul_le_mul_right _ hnc
    · rw [← hn]; exact hx
theorem FreshG.cells (h : FreshG E T B w (.slice A n c) l) (hn : l.length = n) {g : Nat} {cur : Array Value} (hA : A = some ⟨g, 0, none⟩) (hB : Blk w g T cur) {k j : Nat} {a : α} {u : Value} (hk : l[k]? = some a) (hu : (E.f a)[j]? = some u) : cur[k * E.sz + j]? = some u := by
  have hkl := (List.getElem?_eq_some_iff.1 hk).1
  obtain ⟨g', cur', hA', _, hB', _, hx, _⟩ := h.open_ hn (by omega)
  rw [hA] at hA'
  injection hA' with hA'
  injection hA' with hA'
  subst hA'
  have e : cur = cur' := by unfold Blk at hB hB'; rw [hB] at hB'; injection hB' with hB'; injection hB'
  subst e
  have h1 := flat_get E l k j a u hk hu
  have hlt : k * E.sz + j < (l.flatMap E.f).length := (List.getElem?_eq_some_iff.1 h1).1
  rw [← hx, List.getElem?_take] at h1
  split at h1
  · rw [← Array.getElem?_toList]; exact h1
  · cases h1
/-- The row behind a change of its block: some cells were stored, so that it reads l'. -/
theorem FreshG.turn (h : FreshG E T B w (.slice A n c) l) (hn : l.length = n) (hpos : 0 < n) {g : Nat} {cur : Array Value} (hA : A = some ⟨g, 0, none⟩) (hB : Blk w g T cur) {w' : World} {cur' : Array Value} (hB' : Blk w' g T cur') (hs : cur'.size = cur.size) {l' : List α} (hl' : l'.length = n)
    (hc : ∀ (k j : Nat) (a : α) (u : Value), l'[k]? = some a → (E.f a)[j]? = some u → cur'[k * E.sz + j]? = some u) : FreshG E T B w' (.slice A n c) l' := by
  obtain ⟨A', c', hv, hown⟩ := h
  injection hv with h1 h2 h3
  subst h1 h3
  rcases hown.2 with ⟨h0, _⟩ | ⟨g', cap, cur0, hv, hg, hh, hnc, hcm, hsz, hx⟩
  · injection h0 with _ h0 _; omega
  · injection hv with h1 _ h3
    subst h3
    rw [hA] at h1
    injection h1 with h1
    injection h1 with h1
    subst h1
    have e : cur = cur0 := by unfold Blk at hB; rw [hB] at hh; injection hh with hh; injection hh
    subst e
    refine ⟨A, c, by rw [hl'], ⟨by rw [flat_len, hl'], .inr ⟨g, c, cur', by rw [hl', hA], hg, hB', by omega, hcm, by rw [hs, hsz], ?_⟩⟩⟩
    apply List.ext_getElem?
    intro i
    rw [List.getElem?_take]
    by_cases hi : i < l'.length * E.sz
    · rw [if_pos hi]
      have hi2 : i < (l'.flatMap E.f).length := by rw [flat_len]; exact hi
      obtain ⟨u, hu⟩ : ∃ u, (l'.flatMap E.f)[i]? = some u := ⟨_, List.getElem?_eq_getElem hi2⟩
      obtain ⟨k, j, a, e1, hk, hj⟩ := flat_at E l' i u hu
      rw [hu, Array.getElem?_toList, e1]
      exact hc k j a _ hk hj
    · rw [if_neg hi, List.getElem?_eq_none (by rw [flat_len]; omega)]
end

set_option maxRecDepth 100000 in
theorem cloneP_any (A : Option Addr) (n c : Nat) (l : List Pg) (w : World) (hr : RdG pgE w A n l) (hn : n ≤ 3000000000) :
    Calls Try.prog 39 #[.slice A n c] w (GivesG pgE 65 w l) := by
  by_cases h0 : A = none
  · subst h0
    obtain rfl : l = [] := by
      rcases Nat.eq_zero_or_pos n with h | h
      · exact List.eq_nil_of_length_eq_zero (by rw [hr.len, h])
      · obtain ⟨_, _, h, _⟩ := hr.2 h; cases h
    have hq := fun W : World => Lib.run_eql_slice_nil (P := Try.prog) W 24 65 none n c 0 0 Try.underlying24
    go_enter Try.func39, Try.ntmps39
    go_wp2_with fail
    go_ret
    exact ⟨_, rfl, FreshG.nil _ _ _, (by (repeat (first | exact Below.refl _ _ | (refine Below.setCell ?_ (by first | omega | (simp; omega) | simp) _) | (refine Below.alloc ?_ (by first | omega | (simp; omega) | simp) _) | apply Below.drew | apply below_drewN)))⟩
  · obtain ⟨a, rfl⟩ : ∃ a, A = some a := by cases A with | none => exact absurd rfl h0 | some a => exact ⟨a, rfl⟩
    clear h0
    have hq := fun W : World => Lib.run_eql_slice_nil (P := Try.prog) W 24 65 (some a) n c 0 0 Try.underlying24
    go_enter Try.func39, Try.ntmps39
    go_wp2_with (at_builtin; refine wpList_append_G (E := pgE) _ rfl (.tmp 5) (.tmp 6) _ rfl w.heap.size 65 Try.underlying24 infoPg rfl _ [] rfl (FreshG.of_blk (Blk.new w _ _) (Nat.le_refl _) (by unfold maxLen; omega) rfl rfl) _ _ _ l rfl (hr.alloc _) (by simp; omega) (by simp; omega) (by simp) ?_; intro b' w1 hF1 hg1 hb1)
    go_ret
    exact ⟨_, rfl, hF1, (by (have q_hb1 := Below.size hb1; (try simp at q_hb1); repeat (first | exact Below.refl _ _ | (refine Below.trans ?_ (Below.mono hb1 (by first | omega | (simp; omega) | simp))) | (refine Below.setCell ?_ (by first | omega | (simp; omega) | simp) _) | (refine Below.alloc ?_ (by first | omega | (simp; omega) | simp) _) | apply Below.drew | apply below_drewN)))⟩

/-- Runs: where, how many. -/
def runE : Enc (Nat × Nat) where
  sz := 2
  f r := [.int .i64 (r.1 : Int), .int .i64 (r.2 : Int)]
  len _ := rfl
  pos := by decide
  one r u hu := by simp at hu; rcases hu with rfl | rfl <;> rfl
/-- The runs of the first k pages, the last one open or not. -/
def runsTo (l : List Pg) : Nat → List (Nat × Nat) × Bool
  | 0 => ([], false)
  | k + 1 =>
    let (rs, op) := runsTo l k
    match l[k]? with
    | some p => if freeB p = true then (if op = true then (match rs.getLast? with | some r => rs.dropLast ++ [(r.1, r.2 + 1)] | none => rs) else rs ++ [(k, 1)], true) else (rs, false)
    | none => (rs, op)
def runsR (l : List Pg) (k : Nat) : List (Nat × Nat) := (runsTo l k).1
def runsO (l : List Pg) (k : Nat) : Bool := (runsTo l k).2
/-- What holds of them. -/
structure RunsOK (l : List Pg) (k : Nat) (rs : List (Nat × Nat)) (op : Bool) : Prop where
  pos : ∀ r ∈ rs, 1 ≤ r.2 ∧ r.1 + r.2 ≤ k
  gap : ∀ (i : Nat) (r q : Nat × Nat), rs[i]? = some r → rs[i + 1]? = some q → r.1 + r.2 < q.1
  free : ∀ (j : Nat) (p : Pg), j < k → l[j]? = some p → (freeB p = true ↔ ∃ r ∈ rs, r.1 ≤ j ∧ j < r.1 + r.2)
  opn : op = true → ∃ r, rs.getLast? = some r ∧ r.1 + r.2 = k
  shut : op = false → ∀ r ∈ rs, r.1 + r.2 < k
theorem runs_bound (l : List Pg) : ∀ k, (runsR l k).length ≤ k
  | 0 => by simp [runsR, runsTo]
  | k + 1 => by
    have ih := runs_bound l k
    unfold runsR at ih ⊢
    unfold runsTo
    simp only []
    cases h : l[k]? with
    | none => simp only []; omega
    | some p =>
      simp only []
      split
      · split
        · cases h2 : (runsTo l k).1.getLast? with
          | none => simp only []; omega
          | some r =>
            simp only []
            have : (runsTo l k).1 ≠ [] := by intro e; rw [e] at h2; simp at h2
            have := List.length_pos_iff.2 this
            simp
            omega
        · simp; omega
      · show (runsTo l k).1.length ≤ k + 1; omega
theorem runs_step {l : List Pg} {k : Nat} {p : Pg} (h : l[k]? = some p) :
    (freeB p = false → runsR l (k + 1) = runsR l k ∧ runsO l (k + 1) = false) ∧
    (freeB p = true → runsO l k = false → runsR l (k + 1) = runsR l k ++ [(k, 1)] ∧ runsO l (k + 1) = true) ∧
    (∀ ys r, freeB p = true → runsO l k = true → runsR l k = ys ++ [r] → runsR l (k + 1) = ys ++ [(r.1, r.2 + 1)] ∧ runsO l (k + 1) = true) := by
  unfold runsR runsO
  refine ⟨fun hf => ?_, fun hf ho => ?_, fun ys r hf ho hr => ?_⟩
  · rw [runsTo]; simp [h, hf]
  · rw [runsTo]; simp [h, hf, ho]
  · rw [runsTo]; simp [h, hf, ho, hr]
theorem runs_ok (l : List Pg) : ∀ k, k ≤ l.length → RunsOK l k (runsR l k) (runsO l k)
  | 0, _ => ⟨by simp [runsR, runsTo], by simp [runsR, runsTo], (fun j p hj => by omega), by simp [runsO, runsTo], by simp [runsR, runsTo]⟩
  | k + 1, hk => by
    have ih := runs_ok l k (by omega)
    have hp : l[k]? = some l[k] := List.getElem?_eq_getElem (by omega)
    obtain ⟨s1, s2, s3⟩ := runs_step hp
    cases hf : freeB l[k]
    · obtain ⟨e1, e2⟩ := s1 hf
      rw [e1, e2]
      refine ⟨fun r hr => ⟨(ih.pos r hr).1, by have := (ih.pos r hr).2; omega⟩, ih.gap, fun j p hj hjp => ?_, (fun h => by cases h), fun _ r hr => by have := (ih.pos r hr).2; omega⟩
      rcases Nat.lt_succ_iff_lt_or_eq.1 hj with hj | rfl
      · exact ih.free j p hj hjp
      · rw [hp] at hjp
        injection hjp with hjp
        subst hjp
        rw [hf]
        constructor
        · intro h; cases h
        · rintro ⟨r, hr, h1, h2⟩
          have := (ih.pos r hr).2
          omega
    · cases ho : runsO l k
      · obtain ⟨e1, e2⟩ := s2 hf ho
        rw [e1, e2]
        have hsh := ih.shut ho
        refine ⟨fun r hr => ?_, fun i r q hi hq => ?_, fun j p hj hjp => ?_, fun _ => ⟨(k, 1), by simp, rfl⟩, fun h => by cases h⟩
        · rcases List.mem_append.1 hr with hr | hr
          · exact ⟨(ih.pos r hr).1, by have := (ih.pos r hr).2; omega⟩
          · simp at hr; subst hr; exact ⟨by simp, by simp⟩
        · rcases Nat.lt_or_ge (i + 1) (runsR l k).length with h | h
          · rw [List.getElem?_append_left (by omega)] at hi hq
            exact ih.gap i r q hi hq
          · have hil : i + 1 = (runsR l k).length := by
              have := (List.getElem?_eq_some_iff.1 hq).1
              simp at this
              omega
            rw [List.getElem?_append_right (by omega), hil, Nat.sub_self] at hq
            simp at hq
            subst hq
            rw [List.getElem?_append_left (by omega)] at hi
            exact hsh r (List.mem_of_getElem? hi)
        · rcases Nat.lt_succ_iff_lt_or_eq.1 hj with hj | rfl
          · rw [ih.free j p hj hjp]
            constructor
            · rintro ⟨r, hr, h1⟩; exact ⟨r, List.mem_append_left _ hr, h1⟩
            · rintro ⟨r, hr, h1, h2⟩
              rcases List.mem_append.1 hr with hr | hr
              · exact ⟨r, hr, h1, h2⟩
              · simp at hr; subst hr; simp at h1; omega
          · rw [hp] at hjp
            injection hjp with hjp
            subst hjp
            exact ⟨fun _ => ⟨(j, 1), by simp, by simp⟩, fun _ => hf⟩
      · obtain ⟨r0, hr0, he0⟩ := ih.opn ho
        obtain ⟨ys, hys⟩ := List.getLast?_eq_some_iff.1 hr0
        obtain ⟨e1, e2⟩ := s3 ys r0 hf ho hys
        rw [e1, e2]
        have hmem : r0 ∈ runsR l k := by rw [hys]; simp
        refine ⟨fun r hr => ?_, fun i r q hi hq => ?_, fun j p hj hjp => ?_, fun _ => ⟨(r0.1, r0.2 + 1), by simp, by simp; omega⟩, fun h => by cases h⟩
        · rcases List.mem_append.1 hr with hr | hr
          · have hm : r ∈ runsR l k := by rw [hys]; exact List.mem_append_left _ hr
            exact ⟨(ih.pos r hm).1, by have := (ih.pos r hm).2; omega⟩
          · simp at hr; subst hr; exact ⟨by simp, by simp; omega⟩
        · rcases Nat.lt_or_ge (i + 1) ys.length with h | h
          · rw [List.getElem?_append_left (by omega)] at hi hq
            refine ih.gap i r q ?_ ?_
            · rw [hys, List.getElem?_append_left (by omega)]; exact hi
            · rw [hys, List.getElem?_append_left (by omega)]; exact hq
          · have hil : i + 1 = ys.length := by
              have := (List.getElem?_eq_some_iff.1 hq).1
              simp at this
              omega
            rw [List.getElem?_append_right (by omega), hil, Nat.sub_self] at hq
            simp at hq
            subst hq
            rw [List.getElem?_append_left (by omega)] at hi
            refine ih.gap i r r0 ?_ ?_
            · rw [hys, List.getElem?_append_left (by omega)]; exact hi
            · rw [hys, List.getElem?_append_right (by omega), hil, Nat.sub_self]; rfl
        · rcases Nat.lt_succ_iff_lt_or_eq.1 hj with hj | rfl
          · rw [ih.free j p hj hjp, hys]
            constructor
            · rintro ⟨r, hr, h1, h2⟩
              rcases List.mem_append.1 hr with hr | hr
              · exact ⟨r, List.mem_append_left _ hr, h1, h2⟩
              · simp at hr; subst hr; exact ⟨(r.1, r.2 + 1), by simp, h1, by simp; omega⟩
            · rintro ⟨r, hr, h1, h2⟩
              rcases List.mem_append.1 hr with hr | hr
              · exact ⟨r, List.mem_append_left _ hr, h1, h2⟩
              · simp at hr; subst hr; simp at h1 h2; exact ⟨r0, by simp, h1, by omega⟩
          · rw [hp] at hjp
            injection hjp with hjp
            subst hjp
            refine ⟨fun _ => ⟨(r0.1, r0.2 + 1), by simp, ?_, ?_⟩, fun _ => hf⟩
            · simp; omega
            · simp; omega
end Go.Proofs.Ytidlcplamgajpaa
