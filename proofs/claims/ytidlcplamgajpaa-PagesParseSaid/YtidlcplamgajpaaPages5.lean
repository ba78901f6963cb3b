/- Pages: the law's own words (few, Ours, Plain, same); the document's Free and First. -/
import Derived.Test.YtidlcplamgajpaaPages4

namespace Go.Proofs.Ytidlcplamgajpaa
open Go.RowKit

theorem infoRP : (Try.prog.info? 33).map (fun i => (i.zero, i.size, i.bytes)) = some (some (.agg #[.int .i64 0, .int .i64 0, .int .i64 0, .int .i64 0, .int .u64 0]), 5, 40) := by kernel_rfl
theorem run_eql_rp (a1 a2 a3 a4 a5 b1 b2 b3 b4 b5 : Int) : ∀ w : World, (binOp .eql 33 (.agg #[.int .i64 a1, .int .i64 a2, .int .i64 a3, .int .i64 a4, .int .u64 a5]) (.agg #[.int .i64 b1, .int .i64 b2, .int .i64 b3, .int .i64 b4, .int .u64 b5])).run Try.prog w =
    .ok (.bool (eqPg (a1, a2, a3, a4, a5) (b1, b2, b3, b4, b5))) w := by
  intro w
  unfold eqPg
  have u3 := Try.underlying3
  have u4 := Try.underlying31
  have ag3 := Try.isAgg3
  have z3 := Try.sizeOf3
  have ag4 := Try.isAgg31
  have z4 := Try.sizeOf31
  have hS : Try.prog.underlying 33 = some (.struct (Try.prog.fieldsOf 33)) := by kernel_rfl
  have hp : Try.prog.stoodInHeld 33 = false := by kernel_rfl
  rw [run_eql_struct, show (10000 : Nat) = 9999 + 1 from rfl, run_equalIn_agg w 9999 33 _ _ hS hp]
  simp only [Program.fieldsOf, Try.underlying33]
  go_simp
  by_cases h1 : a1 = b1 <;> by_cases h2 : a2 = b2 <;> by_cases h3 : a3 = b3 <;> by_cases h4 : a4 = b4 <;> by_cases h5 : a5 = b5 <;> simp_all
theorem run_neq_rp (a1 a2 a3 a4 a5 b1 b2 b3 b4 b5 : Int) : ∀ w : World, (binOp .neq 33 (.agg #[.int .i64 a1, .int .i64 a2, .int .i64 a3, .int .i64 a4, .int .u64 a5]) (.agg #[.int .i64 b1, .int .i64 b2, .int .i64 b3, .int .i64 b4, .int .u64 b5])).run Try.prog w =
    .ok (.bool (!eqPg (a1, a2, a3, a4, a5) (b1, b2, b3, b4, b5))) w := by
  intro w
  have h := run_eql_rp a1 a2 a3 a4 a5 b1 b2 b3 b4 b5 w
  rw [run_eql_struct] at h
  rw [run_neq_struct]
  generalize (Op.equalIn 10000 33 (.agg #[.int .i64 a1, .int .i64 a2, .int .i64 a3, .int .i64 a4, .int .u64 a5]) (.agg #[.int .i64 b1, .int .i64 b2, .int .i64 b3, .int .i64 b4, .int .u64 b5])).run Try.prog w = r at h ⊢
  cases r with
  | ok b w1 =>
    simp only [Result.andThen_ok] at h ⊢
    injection h with h1 h2
    injection h1 with h1
    rw [h1, h2]
  | halt x w1 => simp [Result.andThen] at h

theorem few_any (A : Option Addr) (n c : Nat) (w : World) (hc : n ≤ c) (hm : c ≤ maxLen) :
    Calls Try.prog 10 #[.slice A n c] w fun e w' => e = .returned (.slice A (min n 70) c) ∧ w = w' := by
  unfold maxLen at hm
  by_cases h : 70 < n
  · have e := Lib.hid (show min n 70 = 70 by omega)
    go_enter Try.func10, Try.ntmps10
    go_wp2_with fail
    go_ret
    exact ⟨by rw [e.out]; rfl, rfl⟩
  · have e := Lib.hid (show min n 70 = n by omega)
    go_enter Try.func10, Try.ntmps10
    go_wp2_with fail
    go_ret
    exact ⟨by rw [e.out]; rfl, rfl⟩
theorem RdG.cutTo {α : Type} {E : Enc α} {w : World} {A : Option Addr} {n : Nat} {l : List α} (h : RdG E w A n l) (m : Nat) (hm : m ≤ n) : RdG E w A m (l.take m) := by
  have hl := h.1
  refine ⟨by simp; omega, fun hp => ?_⟩
  obtain ⟨b, off, hA, hlt, hc⟩ := h.2 (by omega)
  refine ⟨b, off, hA, hlt, fun k a hk j u hu => ?_⟩
  rw [List.getElem?_take] at hk
  split at hk
  · exact hc k a hk j u hu
  · cases hk

theorem RdG.boxed2 {α : Type} {E : Enc α} (w : World) (o : Obj) (T : TypeId) (a : α) (cs : Array Value) (h : cs.toList = E.f a) : RdG E ((w.alloc o).alloc (.cells cs T)) (some ⟨w.heap.size + 1, 0, none⟩) 1 [a] := by
  have := RdG.boxed (E := E) (w.alloc o) T a cs h
  simpa using this
set_option maxRecDepth 100000 in
set_option maxHeartbeats 2000000 in
theorem ours_any (A : Option Addr) (n c : Nat) (l : List Pg) (w : World) (hr : RdG pgE w A n l) (hn : n ≤ 1000000) :
    Calls Try.prog 11 #[.slice A n c] w (GivesG pgE 65 w l) := by
  go_enter Try.func11, Try.ntmps11
  go_wp2_with fail
  go_loopw [3, 8] (fun v i wr => ∃ k : Nat, k ≤ n ∧ i = .int .i64 k ∧ FreshG pgE 65 w.heap.size wr v (l.take k) ∧ Below w.heap.size w wr) (fun _ i _ => n - (intOf i).toNat)
  case atStart => exact ⟨0, by omega, rfl, FreshG.nil _ _ _, Below.refl _ _⟩
  case round =>
    obtain ⟨k, hk, rfl, hF, hbel⟩ := hrel
    have hbz := hbel.size
    by_cases hlt : k < n
    · obtain ⟨b, off, x, rfl, hb, hx, hcell⟩ := (hr.below hbel).at_ hlt
      have c0 := hcell 0 _ rfl
      have c1 := hcell 1 _ rfl
      have c2 := hcell 2 _ rfl
      have c3 := hcell 3 _ rfl
      have c4 := hcell 4 _ rfl
      simp only [show pgE.sz = 5 from rfl, Nat.add_zero] at c0 c1 c2 c3 c4
      have hst := Lib.hid (take_step hx)
      have hkl : (l.take k).length ≤ 1000000 := by simp; omega
      clear hcell hx
      go_wp2_with (at_builtin; refine wpList_append_G (E := pgE) _ rfl (.tmp 12) (.tmp 24) _ rfl w.heap.size 65 Try.underlying24 infoPg rfl _ _ rfl ((hF.alloc _).alloc _) _ _ _ [x] rfl (RdG.boxed2 _ _ _ x _ rfl) (by omega) (by omega) (by simp; omega) ?_; intro b' w3 hF3 hg3 hb3)
      go_roundw
      case rel => exact ⟨k + 1, by omega, by go_num, by rw [hst.out]; exact hF3, (by (have q_hb3 := Below.size hb3; (try simp at q_hb3); have q_hbel := Below.size hbel; (try simp at q_hbel); repeat (first | exact Below.refl _ _ | (refine Below.trans ?_ (Below.mono hb3 (by first | omega | (simp; omega) | simp))) | (refine Below.trans ?_ (Below.mono hbel (by first | omega | (simp; omega) | simp))) | (refine Below.setCell ?_ (by first | omega | (simp; omega) | simp) _) | (refine Below.alloc ?_ (by first | omega | (simp; omega) | simp) _) | apply Below.drew | apply below_drewN)))⟩
      case measure => simp [intOf] <;> omega
    · obtain rfl : k = n := by omega
      have hT := Lib.hid (show l.take k = l from List.take_of_length_le (by rw [hr.len]; omega))
      go_wp2_with fail
      go_ret
      exact ⟨_, rfl, by rw [← hT.out]; exact hF, hbel⟩
set_option maxRecDepth 100000 in
set_option maxHeartbeats 2000000 in
theorem plainL_any (A : Option Addr) (n c : Nat) (l : List Pg) (w : World) (hr : RdG pgE w A n l) (hn : n ≤ 1000000) :
    Calls Try.prog 22 #[.slice A n c] w (GivesG pgE 33 w l) := by
  go_enter Try.func22, Try.ntmps22
  go_wp2_with fail
  go_loopw [3, 8] (fun v i wr => ∃ k : Nat, k ≤ n ∧ i = .int .i64 k ∧ FreshG pgE 33 w.heap.size wr v (l.take k) ∧ Below w.heap.size w wr) (fun _ i _ => n - (intOf i).toNat)
  case atStart => exact ⟨0, by omega, rfl, FreshG.nil _ _ _, Below.refl _ _⟩
  case round =>
    obtain ⟨k, hk, rfl, hF, hbel⟩ := hrel
    have hbz := hbel.size
    by_cases hlt : k < n
    · obtain ⟨b, off, x, rfl, hb, hx, hcell⟩ := (hr.below hbel).at_ hlt
      have c0 := hcell 0 _ rfl
      have c1 := hcell 1 _ rfl
      have c2 := hcell 2 _ rfl
      have c3 := hcell 3 _ rfl
      have c4 := hcell 4 _ rfl
      simp only [show pgE.sz = 5 from rfl, Nat.add_zero] at c0 c1 c2 c3 c4
      have hst := Lib.hid (take_step hx)
      have hkl : (l.take k).length ≤ 1000000 := by simp; omega
      clear hcell hx
      go_wp2_with (at_builtin; refine wpList_append_G (E := pgE) _ rfl (.tmp 12) (.tmp 24) _ rfl w.heap.size 33 Try.underlying22 infoRP rfl _ _ rfl ((hF.alloc _).alloc _) _ _ _ [x] rfl (RdG.boxed2 _ _ _ x _ rfl) (by omega) (by omega) (by simp; omega) ?_; intro b' w3 hF3 hg3 hb3)
      go_roundw
      case rel => exact ⟨k + 1, by omega, by go_num, by rw [hst.out]; exact hF3, (by (have q_hb3 := Below.size hb3; (try simp at q_hb3); have q_hbel := Below.size hbel; (try simp at q_hbel); repeat (first | exact Below.refl _ _ | (refine Below.trans ?_ (Below.mono hb3 (by first | omega | (simp; omega) | simp))) | (refine Below.trans ?_ (Below.mono hbel (by first | omega | (simp; omega) | simp))) | (refine Below.setCell ?_ (by first | omega | (simp; omega) | simp) _) | (refine Below.alloc ?_ (by first | omega | (simp; omega) | simp) _) | apply Below.drew | apply below_drewN)))⟩
      case measure => simp [intOf] <;> omega
    · obtain rfl : k = n := by omega
      have hT := Lib.hid (show l.take k = l from List.take_of_length_le (by rw [hr.len]; omega))
      go_wp2_with fail
      go_ret
      exact ⟨_, rfl, by rw [← hT.out]; exact hF, hbel⟩

/-- Are the n pages from place at on free? -/
def freeN (l : List Pg) (at_ n : Nat) : Bool := decide (at_ + n ≤ l.length) && ((l.drop at_).take n).all freeB
set_option maxRecDepth 100000 in
set_option maxHeartbeats 4000000 in
theorem rfree_any (A : Option Addr) (n c : Nat) (l : List Pg) (p m : Nat) (w : World) (hr : RdG pgE w A n l) (hn : n ≤ 1000000) (hp : p ≤ 1000000) (hm : m ≤ 1000000000000000000) (hm1 : 1 ≤ m) :
    Calls Try.prog 29 #[.slice A n c, .int .i64 p, .int .i64 m] w fun e w' => e = .returned (.bool (freeN l p m)) ∧ w = w' := by
  go_enter Try.func29, Try.ntmps29
  go_wp2_with fail
  go_loop [7] (fun i => ∃ j : Nat, j ≤ m ∧ i = .int .i64 ((p : Int) + j) ∧ (j = 0 ∨ p + j ≤ n) ∧ ((l.drop p).take j).all freeB = true) (fun i => p + m - (intOf i).toNat)
  case atStart => exact ⟨0, by omega, by simp, .inl rfl, rfl⟩
  case round =>
    obtain ⟨j, hj, rfl, hjn, hall⟩ := hrel
    have HA := Lib.hid hall
    clear hall
    by_cases hlt : j < m
    · by_cases hpn : p + j < n
      · obtain ⟨b, off, x, rfl, hb, hx, hcell⟩ := hr.at_ hpn
        have c0 := hcell 0 _ rfl
        have c1 := hcell 1 _ rfl
        have c2 := hcell 2 _ rfl
        have c3 := hcell 3 _ rfl
        have c4 := hcell 4 _ rfl
        simp only [show pgE.sz = 5 from rfl, Nat.add_zero] at c0 c1 c2 c3 c4
        have hx' : (l.drop p)[j]? = some x := by rw [List.getElem?_drop]; exact hx
        have hst := Lib.hid (take_step hx')
        have hq := run_neq_rp x.1 x.2.1 x.2.2.1 x.2.2.2.1 x.2.2.2.2 0 0 0 0 0
        have q1 : (0 : Int) ≤ (p : Int) + j := by omega
        have q2 : ((p : Int) + j).toNat = p + j := by omega
        have q3 : (p : Int) + j < n := by omega
        clear hcell hx hx'
        cases hf : eqPg (x.1, x.2.1, x.2.2.1, x.2.2.2.1, x.2.2.2.2) (0, 0, 0, 0, 0)
        · have hno := Lib.hid (show freeN l p m = false by
            unfold freeN
            rw [Bool.and_eq_false_iff]
            right
            rw [List.all_eq_false]
            refine ⟨x, ?_, by have : freeB x = false := hf; simp [this]⟩
            refine List.mem_of_getElem? (i := j) ?_
            rw [List.getElem?_take, if_pos hlt]
            have := hst.out
            have h2 : ((l.drop p).take (j + 1))[j]? = some x := by
              have hl2 : ((l.drop p).take j).length = j := by have := hr.len; simp; omega
              rw [hst.out, List.getElem?_append_right (by omega), hl2, Nat.sub_self]; rfl
            rw [List.getElem?_take, if_pos (by omega)] at h2
            exact h2)
          go_wp2_with fail
          go_ret
          exact ⟨by rw [hno.out]; rfl, rfl⟩
        · have hfx : freeB x = true := hf
          have HF := Lib.hid hfx
          clear hfx
          go_wp2_with fail
          go_round
          case rel => exact ⟨j + 1, by omega, int_eq (by omega), .inr (by omega), by rw [hst.out, List.all_append, HA.out]; simp [HF.out]⟩
          case measure => simp [intOf]; omega
      · have hno := Lib.hid (show freeN l p m = false by unfold freeN; rw [decide_eq_false (by rw [hr.len]; omega)]; rfl)
        have q1 : (0 : Int) ≤ (p : Int) + j := by omega
        have q3 : ¬ ((p : Int) + j < n) := by omega
        go_wp2_with fail
        go_ret
        exact ⟨by rw [hno.out]; rfl, rfl⟩
    · obtain rfl : j = m := by omega
      have hyes := Lib.hid (show freeN l p j = true by unfold freeN; rw [HA.out, decide_eq_true (by rw [hr.len]; omega)]; rfl)
      go_wp2_with fail
      go_ret
      exact ⟨by rw [hyes.out]; rfl, rfl⟩

/-- Where the first m free ones begin; -1: nowhere. -/
def firstF (l : List Pg) (m : Nat) : Int := match (List.range l.length).find? (fun k => freeN l k m) with | some k => k | none => -1
theorem firstF_hit {l : List Pg} {m k : Nat} (hk : k < l.length) (hf : freeN l k m = true) (hn : ∀ j, j < k → freeN l j m = false) : firstF l m = k := by
  have h1 : (List.range l.length).find? (fun k => freeN l k m) = some k := by
    rw [List.find?_eq_some_iff_getElem]
    refine ⟨hf, k, by simpa using hk, by simp, fun j hj => ?_⟩
    simp [hn j hj]
  unfold firstF
  rw [h1]
theorem firstF_none {l : List Pg} {m : Nat} (hn : ∀ j, j < l.length → freeN l j m = false) : firstF l m = -1 := by
  have h1 : (List.range l.length).find? (fun k => freeN l k m) = none := by
    rw [List.find?_eq_none]
    intro x hx
    simp [hn x (List.mem_range.1 hx)]
  unfold firstF
  rw [h1]
def firstFI (l : List Pg) (m : Int) : Int := if m ≤ 0 then -1 else firstF l m.toNat
set_option maxRecDepth 100000 in
set_option maxHeartbeats 2000000 in
theorem rfirst_any (A : Option Addr) (n c : Nat) (l : List Pg) (m : Int) (w : World) (hr : RdG pgE w A n l) (hn : n ≤ 1000000) (hm : m ≤ 1000000000000000000) :
    Calls Try.prog 15 #[.slice A n c, .int .i64 m] w fun e w' => e = .returned (.int .i64 (firstFI l m)) ∧ w = w' := by
  by_cases h0 : m ≤ 0
  · have hs := Lib.hid (show firstFI l m = -1 by unfold firstFI; rw [if_pos h0])
    go_enter Try.func15, Try.ntmps15
    go_wp2_with fail
    go_loop [8] (fun i => ∃ k : Nat, k ≤ n ∧ i = .int .i64 k) (fun i => n - (intOf i).toNat)
    case atStart => exact ⟨0, by omega, rfl⟩
    case round =>
      obtain ⟨k, hk, rfl⟩ := hrel
      by_cases hlt : k < n
      · go_wp2_with fail
        go_round
        case rel => exact ⟨k + 1, by omega, by go_num⟩
        case measure => simp [intOf] <;> omega
      · go_wp2_with fail
        go_ret
        exact ⟨by rw [hs.out]; rfl, rfl⟩
  · obtain ⟨q, rfl⟩ := Int.eq_ofNat_of_zero_le (show 0 ≤ m by omega)
    have hq1 : 1 ≤ q := by omega
    have hq2 : (0 : Int) < q := by omega
    have HI := Lib.hid (show firstFI l q = firstF l q by unfold firstFI; rw [if_neg h0]; rfl)
    clear h0
    go_enter Try.func15, Try.ntmps15
    go_wp2_with fail
    go_loop [8] (fun i => ∃ k : Nat, k ≤ n ∧ i = .int .i64 k ∧ ∀ j, j < k → freeN l j q = false) (fun i => n - (intOf i).toNat)
    case atStart => exact ⟨0, by omega, rfl, fun j hj => by omega⟩
    case round =>
      obtain ⟨k, hk, rfl, hno⟩ := hrel
      have HNO := Lib.hid hno
      clear hno
      by_cases hlt : k < n
      · go_wp2_with fail
        refine (rfree_any A n c l k q _ hr hn (by omega) (by omega) hq1).mono ?_
        rintro e w1 ⟨rfl, rfl⟩
        cases hf : freeN l k q
        · go_wp2_with fail
          go_round
          case rel =>
            refine ⟨k + 1, by omega, by go_num, fun j hj => ?_⟩
            rcases Nat.lt_succ_iff_lt_or_eq.1 hj with hj | rfl
            · exact HNO.out j hj
            · exact hf
          case measure => simp [intOf] <;> omega
        · have hs := Lib.hid (firstF_hit (by rw [hr.len]; exact hlt) hf HNO.out)
          go_wp2_with fail
          go_ret
          exact ⟨by rw [HI.out, hs.out]; rfl, rfl⟩
      · obtain rfl : k = n := by omega
        have hs := Lib.hid (firstF_none (l := l) (m := q) (fun j hj => HNO.out j (by rw [hr.len] at hj; exact hj)))
        go_wp2_with fail
        go_ret
        exact ⟨by rw [HI.out, hs.out]; rfl, rfl⟩

theorem runs_sorted {l : List Pg} {k : Nat} {rs : List (Nat × Nat)} {op : Bool} (h : RunsOK l k rs op) : ∀ (i d : Nat) (r q : Nat × Nat), rs[i]? = some r → rs[i + d + 1]? = some q → r.1 + r.2 < q.1
  | i, 0, r, q, h1, h2 => h.gap i r q h1 h2
  | i, d + 1, r, q, h1, h2 => by
    obtain ⟨x, hx⟩ : ∃ x, rs[i + d + 1]? = some x := ⟨_, List.getElem?_eq_getElem (by have := (List.getElem?_eq_some_iff.1 h2).1; omega)⟩
    have e1 := runs_sorted h i d r x h1 hx
    have e2 := h.gap (i + d + 1) x q hx h2
    omega
/-- Free pages that lie side by side lie in one run. -/
theorem free_in {l : List Pg} {rs : List (Nat × Nat)} {op : Bool} (h : RunsOK l l.length rs op) {j m i : Nat} {q : Nat × Nat} (_hm : 1 ≤ m) (hf : freeN l j m = true) (hq : rs[i]? = some q) (h1 : q.1 ≤ j) (h2 : j < q.1 + q.2) : j + m ≤ q.1 + q.2 := by
  unfold freeN at hf
  simp only [Bool.and_eq_true, decide_eq_true_eq] at hf
  obtain ⟨f1, f2⟩ := hf
  rcases Nat.lt_or_ge (q.1 + q.2) (j + m) with hlt | hge
  · exfalso
    have he : q.1 + q.2 < l.length := by omega
    have hfe : freeB l[q.1 + q.2] = true := by
      rw [List.all_eq_true] at f2
      refine f2 _ (List.mem_of_getElem? (i := q.1 + q.2 - j) ?_)
      rw [List.getElem?_take, if_pos (by omega), List.getElem?_drop, show j + (q.1 + q.2 - j) = q.1 + q.2 from by omega, List.getElem?_eq_getElem he]
    obtain ⟨r, hr, g1, g2⟩ := (h.free (q.1 + q.2) l[q.1 + q.2] he (List.getElem?_eq_getElem he)).1 hfe
    obtain ⟨i', hi'⟩ := List.mem_iff_getElem?.1 hr
    rcases Nat.lt_trichotomy i i' with hi | rfl | hi
    · have := runs_sorted h i (i' - i - 1) q r hq (by rw [show i + (i' - i - 1) + 1 = i' from by omega]; exact hi')
      omega
    · rw [hq] at hi'
      injection hi' with hi'
      subst hi'
      omega
    · have := runs_sorted h i' (i - i' - 1) r q hi' (by rw [show i' + (i - i' - 1) + 1 = i from by omega]; exact hq)
      have := (h.pos r hr).1
      omega
  · exact hge
/-- The two ways to look for the first free pages agree. -/
theorem first_same (l : List Pg) (m : Nat) (hm : 1 ≤ m) : ∃ b : Bool, firstR (runsR l l.length) m = (if b = true then firstF l m else 0, b) ∧ (b = false → firstF l m = -1) ∧ (b = true → 0 ≤ firstF l m) := by
  have h := runs_ok l l.length (Nat.le_refl _)
  cases hfi : (runsR l l.length).find? (fitB m) with
  | none =>
    refine ⟨false, by unfold firstR; rw [hfi]; rfl, fun _ => firstF_none fun j hj => ?_, fun hx => by cases hx⟩
    rw [List.find?_eq_none] at hfi
    cases hf : freeN l j m
    · rfl
    · exfalso
      have hfj : freeB l[j] = true := by
        have hf2 := hf
        unfold freeN at hf2
        simp only [Bool.and_eq_true, decide_eq_true_eq] at hf2
        have f2 := hf2.2
        rw [List.all_eq_true] at f2
        refine f2 _ (List.mem_of_getElem? (i := 0) ?_)
        rw [List.getElem?_take, if_pos (by omega), List.getElem?_drop, Nat.add_zero, List.getElem?_eq_getElem hj]
      obtain ⟨q, hq, g1, g2⟩ := (h.free j l[j] hj (List.getElem?_eq_getElem hj)).1 hfj
      obtain ⟨i, hi⟩ := List.mem_iff_getElem?.1 hq
      have := free_in h hm hf hi g1 g2
      have hfit := hfi q hq
      simp [fitB] at hfit
      omega
  | some r =>
    have hr : fitB m r = true := List.find?_some hfi
    have hr2 : m ≤ r.2 := by simp [fitB] at hr; omega
    obtain ⟨_, i, hi, hir, hbefore⟩ := List.find?_eq_some_iff_getElem.1 hfi
    have hmem : r ∈ runsR l l.length := by rw [← hir]; exact List.getElem_mem hi
    obtain ⟨p1, p2⟩ := h.pos r hmem
    have hfree : freeN l r.1 m = true := by
      unfold freeN
      rw [Bool.and_eq_true, decide_eq_true_eq]
      refine ⟨by omega, ?_⟩
      rw [List.all_eq_true]
      intro x hx
      obtain ⟨j, hj⟩ := List.mem_iff_getElem?.1 hx
      rw [List.getElem?_take] at hj
      split at hj
      · rw [List.getElem?_drop] at hj
        exact (h.free (r.1 + j) x (by omega) hj).2 ⟨r, hmem, by omega, by omega⟩
      · cases hj
    have hhit := firstF_hit (l := l) (m := m) (k := r.1) (by omega) hfree (fun j hj => by
      cases hf : freeN l j m
      · rfl
      · exfalso
        have hjl : j < l.length := by omega
        have hfj : freeB l[j] = true := by
          have hf2 := hf
          unfold freeN at hf2
          simp only [Bool.and_eq_true, decide_eq_true_eq] at hf2
          have f2 := hf2.2
          rw [List.all_eq_true] at f2
          refine f2 _ (List.mem_of_getElem? (i := 0) ?_)
          rw [List.getElem?_take, if_pos (by omega), List.getElem?_drop, Nat.add_zero, List.getElem?_eq_getElem hjl]
        obtain ⟨q, hq, g1, g2⟩ := (h.free j l[j] hjl (List.getElem?_eq_getElem hjl)).1 hfj
        obtain ⟨i', hi'⟩ := List.mem_iff_getElem?.1 hq
        have hin := free_in h hm hf hi' g1 g2
        have hri : (runsR l l.length)[i]? = some r := by rw [List.getElem?_eq_getElem hi, hir]
        rcases Nat.lt_trichotomy i i' with hii | rfl | hii
        · have := runs_sorted h i (i' - i - 1) r q hri (by rw [show i + (i' - i - 1) + 1 = i' from by omega]; exact hi')
          omega
        · rw [hri] at hi'
          injection hi' with hi'
          subst hi'
          omega
        · have hil : i' < (runsR l l.length).length := (List.getElem?_eq_some_iff.1 hi').1
          have := hbefore i' hii
          rw [List.getElem?_eq_getElem hil] at hi'
          injection hi' with hi'
          rw [hi'] at this
          simp [fitB] at this
          omega)
    refine ⟨true, ?_, (fun hx => by cases hx), (fun _ => by rw [hhit]; omega)⟩
    unfold firstR
    rw [hfi, hhit]
    rfl
end Go.Proofs.Ytidlcplamgajpaa
