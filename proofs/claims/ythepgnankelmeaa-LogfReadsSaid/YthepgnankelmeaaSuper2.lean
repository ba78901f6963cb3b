/- Contracts of the functions on supers: the document's Bytes; Parse. -/
import Derived.Test.YthepgnankelmeaaSuper
import Derived.Test.YthepgnankelmeaaWord4
import Derived.ArgAppend
import Derived.Lib.SlBytesConst
namespace Go.Proofs.Ythepgnankelmeaa
open Go.RowKit

/-- append to bytes that came in, without room. -/
theorem wpList_append_full {P : Program} (w : World) {ops : Array Oper} {rest : List Oper} {o : Oper} {a : Act} {Q : Exit → Act → World → Prop} (hgd : o.guard = none) (s x : Operand) (t : TypeId)
    (ho : o.op = .call { callee := .builtin .append, args := #[s, x], argTypes := #[t, t] })
    (e : TypeId) (ht : P.underlying t = some (.slice e)) (hi : (P.info? e).map (fun i => (i.zero, i.size, i.bytes)) = some (some (.int .u8 0), 1, 1))
    (ao : Option Addr) (n cap : Nat) (l : List UInt8) (hs : a.eval s = .slice ao n cap) (hA : Rd w ao n l) (ad : Addr) (m c : Nat) (l2 : List UInt8) (hx : a.eval x = .slice (some ad) m c) (hr : Rd w (some ad) m l2)
    (hnone : ao = none → n = 0 ∧ cap = 0) (hfull : cap < n + m) (hlen : n + m ≤ 140737488355328)
    (h : ∀ v' w', Fresh e w.heap.size w' v' (l ++ l2) → Below w.heap.size w w' → wpList P ops Q rest (a.put o.dst v') w') : wpList P ops Q (o :: rest) a w := by
  obtain ⟨i, h1, h2, h3, h4⟩ := info_parts hi
  have cellsOf : ∀ (A : Option Addr) (k : Nat) (q : List UInt8), Rd w A k q → ∀ b, A = some b → ∀ (j : Nat) (u : Value), (q.map bv)[j]? = some u → w.cell? (b.add j) = some u := by
    intro A k q hq b hb j u hu
    rw [List.getElem?_map] at hu
    obtain ⟨y, hy, rfl⟩ := Option.map_eq_some_iff.1 hu
    have hj : j < q.length := (List.getElem?_eq_some_iff.1 hy).1
    obtain ⟨bb, off, hA', _, hc⟩ := hq.2 (by rw [← hq.1]; omega)
    rw [hb] at hA'
    injection hA' with hA'
    subst hA'
    have h2 : (⟨bb, off, none⟩ : Addr).add j = ⟨bb, off + j, none⟩ := by unfold Addr.add; split <;> simp_all
    rw [h2]
    exact hc j y hy
  refine wpList_append_grows w hgd s x t ho e i (.int .u8 0) 1 1 ht h1 h2 h3 h4 rfl (by omega) ao n cap (l.map bv) hs hnone (by simpa using hA.1) (cellsOf _ _ _ hA) ad m c (l2.map bv) hx (by simpa using hr.1) (cellsOf _ _ _ hr ad rfl) (bv_one _) hfull (by unfold maxLen; omega) (by omega) ?_
  intro v' w' hown hg
  have hl : (l ++ l2).length = n + m := by rw [List.length_append, hA.1, hr.1]
  have hown' : w'.ownsRow w.heap.size e 1 v' (l ++ l2).length ((l ++ l2).map bv) := by rw [hl, List.map_append]; exact hown
  refine h v' w' ?_ ((Below.refl _ _).grown hg (Nat.le_refl _) (fun k hk => by cases hk))
  rcases hown.2 with ⟨rfl, h0⟩ | ⟨g, cp, cur, rfl, _⟩
  · rw [h0] at hfull; omega
  · exact ⟨some ⟨g, 0, none⟩, cp, by rw [hl], hown'⟩

theorem putL2 (v : Int) (h0 : 0 ≤ v) (h1 : v < 256) : putL 2 v = [byteI v 0, 0] := by
  have e : byteI v 1 = 0 := by
    unfold byteI
    rw [show v / 256 ^ 1 = 0 from by rw [Int.pow_succ]; omega]
    rfl
  show [byteI v 0, byteI v 1] = _
  rw [e]
def rparts (p t : Int) : List UInt8 := [1, 0, byteI p 0, 0, byteI t 0, 0]
theorem rparts_eq {p t : Int} (h : gmay p t = true) : markS ++ rparts p t = (superParts p t).flatten := by
  obtain ⟨h1, h2, h3, h4⟩ := gmay_true h
  unfold superParts rparts
  rw [putL2 p (by omega) (by omega), putL2 t (by omega) (by omega)]
  rfl
theorem rd_nums {w : World} {g : Nat} {T : TypeId} {l : List UInt8} (cs : Array Value) (h : Blk w g T cs) (hc : cs = (l.map bv).toArray) (n : Nat) (hn : l.length = n) : Rd w (some ⟨g, 0, none⟩) n l := by
  subst hc
  exact rd_of_cells h h.lt hn

set_option maxRecDepth 100000 in
set_option maxHeartbeats 4000000 in
theorem srbytes_any (p t : Int) (w : World) (h : gmay p t = true) :
    Calls Try.prog 35 #[.agg #[.int .i64 p, .int .i64 t]] w (Gives 5 w (superL p t)) := by
  obtain ⟨h1, h2, h3, h4⟩ := gmay_true h
  have HE := Lib.hid (rparts_eq h)
  have e1 : IntKind.u8.wrap p = ((byteI p 0).toNat : Int) := by rw [byteI_val]; simp [IntKind.wrap, IntKind.signed, IntKind.bits]
  have e2 : IntKind.u8.wrap t = ((byteI t 0).toNat : Int) := by rw [byteI_val]; simp [IntKind.wrap, IntKind.signed, IntKind.bits]
  have E1 := Lib.hid e1
  have E2 := Lib.hid e2
  clear e1 e2
  have kc : ∀ (C : Array Value) (n c : Nat), (convert 39 39 (.slice (some ⟨w.heap.size + 1, 0, none⟩) n c)).run Try.prog ((w.alloc (.cells #[.int .i64 p, .int .i64 t] 23)).alloc (.cells C 5)) =
      .ok (.slice (some ⟨w.heap.size + 1, 0, none⟩) n c) ((w.alloc (.cells #[.int .i64 p, .int .i64 t] 23)).alloc (.cells C 5 (C.size, C.size + 1))) := fun C n c => by
    have := Lib.run_convert_bytes_const (P := Try.prog) (w.alloc (.cells #[.int .i64 p, .int .i64 t] 23)) 39 5 C n c Try.underlying39 Try.underlying5
    simpa using this
  have hA : Rd ((((w.alloc (.cells #[.int .i64 p, .int .i64 t] 23)).alloc (.cells (markS.map bv).toArray 5 (8, 9)))).alloc (.cells ((rparts p t).map bv).toArray 5)) (some ⟨w.heap.size + 1, 0, none⟩) 8 markS :=
    Rd.alloc (by simpa using rd_of_cells (heap_alloc_new (w.alloc (.cells #[.int .i64 p, .int .i64 t] 23)) (.cells (markS.map bv).toArray 5 (8, 9))) (by simp) (n := 8) rfl) _
  have hB : Rd ((((w.alloc (.cells #[.int .i64 p, .int .i64 t] 23)).alloc (.cells (markS.map bv).toArray 5 (8, 9)))).alloc (.cells ((rparts p t).map bv).toArray 5)) (some ⟨w.heap.size + 1 + 1, 0, none⟩) 6 (rparts p t) := by
    simpa using rd_of_cells (heap_alloc_new ((w.alloc (.cells #[.int .i64 p, .int .i64 t] 23)).alloc (.cells (markS.map bv).toArray 5 (8, 9))) (.cells ((rparts p t).map bv).toArray 5)) (by simp) (n := 6) rfl
  have hmm : (markS.map bv).toArray = #[.int .u8 71, .int .u8 65, .int .u8 82, .int .u8 68, .int .u8 82, .int .u8 79, .int .u8 66, .int .u8 69] := rfl
  have hpp : ((rparts p t).map bv).toArray = #[.int .u8 1, .int .u8 0, .int .u8 p, .int .u8 0, .int .u8 t, .int .u8 0] := by
    have f1 : bv (byteI p 0) = .int .u8 p := by unfold bv; rw [byteI_val]; congr 1; simp; omega
    have f2 : bv (byteI t 0) = .int .u8 t := by unfold bv; rw [byteI_val]; congr 1; simp; omega
    unfold rparts
    simp only [List.map_cons, List.map_nil, f1, f2]
    rfl
  rw [hmm, hpp] at hA hB
  clear hmm hpp E1 E2
  go_enter Try.func35, Try.ntmps35
  go_wp2_with (at_builtin; refine wpList_append_full _ rfl (.tmp 6) (.tmp 13) _ rfl 5 Try.underlying39 info8 (some ⟨w.heap.size + 1, 0, none⟩) 8 8 markS rfl hA ⟨w.heap.size + 1 + 1, 0, none⟩ 6 6 (rparts p t) rfl hB (fun h => by cases h) (by omega) (by omega) ?_; intro v1 w1 hF1 hb1)
  obtain ⟨A1, c1, rfl, hR1, _, hc1, hc2⟩ := hF1.rdn 14 rfl
  go_wp2_with fail
  refine (rpad_any _ _ _ _ 256 _ hR1 (by omega) (by omega)).mono ?_
  rintro e w2 ⟨v, rfl, hF2, hb2⟩
  go_wp2_with fail
  go_ret
  have hz := hb1.size
  simp at hz
  exact ⟨v, rfl, by rw [superL, ← HE.out]; exact hF2.from_ (by omega), (by (have q_hb2 := Below.size hb2; (try simp at q_hb2); have q_hb1 := Below.size hb1; (try simp at q_hb1); repeat (first | exact Below.refl _ _ | (refine Below.trans ?_ (Below.mono hb2 (by first | omega | (simp; omega) | simp))) | (refine Below.trans ?_ (Below.mono hb1 (by first | omega | (simp; omega) | simp))) | (refine Below.setCell ?_ (by first | omega | (simp; omega) | simp) _) | (refine Below.alloc ?_ (by first | omega | (simp; omega) | simp) _) | apply Below.drew | apply below_drewN)))⟩

/-- What is taken in a row: so many bytes each time. -/
def stepR (s : List UInt8 × Int) (n : Int) : List UInt8 × Int := (takeL s.1 s.2 n, takeE s.1 s.2 n)
/-- The geometry that a super's bytes tell. -/
def sGeo (b : List UInt8) : Int × Int :=
  let s := stepR (stepR (b, 0) 8) 2
  ((getL (takeO s.1 s.2 2) : Int), (getL (takeO (stepR s 2).1 (stepR s 2).2 2) : Int))
def sOK (b : List UInt8) : Bool := gmay (sGeo b).1 (sGeo b).2 && decide (b = superL (sGeo b).1 (sGeo b).2)
theorem num2_lt (l : List UInt8) (e : Int) : (getL (takeO l e 2) : Int) < 65536 := by
  have h1 := getL_lt (takeO l e 2)
  have h2 : (takeO l e 2).length ≤ 2 := by unfold takeO; split <;> simp <;> omega
  have h3 : 256 ^ (takeO l e 2).length ≤ 256 ^ 2 := Nat.pow_le_pow_right (by omega) h2
  omega
/-- Parse's end. -/
def ParseS (w : World) (b : List UInt8) (e : Ending) (w' : World) : Prop :=
  e = .returned (.tuple (if sOK b = true then #[.agg #[.int .i64 (sGeo b).1, .int .i64 (sGeo b).2], .int .i64 0] else #[.agg #[.int .i64 0, .int .i64 0], .int .i64 4])) ∧ Below w.heap.size w w'

set_option maxRecDepth 100000 in
set_option maxHeartbeats 4000000 in
theorem sparse_any (A : Option Addr) (n c : Nat) (b : List UInt8) (w : World) (hr : Rd w A n b) (hn : n ≤ 140737488355328) :
    Calls Try.prog 34 #[.slice A n c] w (ParseS w b) := by
  obtain ⟨s1, hs1⟩ : ∃ s1, s1 = stepR (b, 0) 8 := ⟨_, rfl⟩
  obtain ⟨s2, hs2⟩ : ∃ s2, s2 = stepR s1 2 := ⟨_, rfl⟩
  obtain ⟨s3, hs3⟩ : ∃ s3, s3 = stepR s2 2 := ⟨_, rfl⟩
  obtain ⟨p, hp⟩ : ∃ p : Int, p = (getL (takeO s2.1 s2.2 2) : Int) := ⟨_, rfl⟩
  obtain ⟨t, ht⟩ : ∃ t : Int, t = (getL (takeO s3.1 s3.2 2) : Int) := ⟨_, rfl⟩
  have hp1 : 0 ≤ p ∧ p < 65536 := by rw [hp]; exact ⟨by omega, num2_lt _ _⟩
  have ht1 : 0 ≤ t ∧ t < 65536 := by rw [ht]; exact ⟨by omega, num2_lt _ _⟩
  have hgeo : sGeo b = (p, t) := by unfold sGeo; simp only []; rw [← hs1, ← hs2, ← hs3, ← hp, ← ht]
  have HG := Lib.hid hgeo
  have T1 := Lib.hid (show takeL b 0 8 = s1.1 ∧ takeE b 0 8 = s1.2 by rw [hs1]; exact ⟨rfl, rfl⟩)
  have T2 := Lib.hid (show takeL s1.1 s1.2 (numN 2) = s2.1 ∧ takeE s1.1 s1.2 (numN 2) = s2.2 by rw [hs2]; exact ⟨rfl, rfl⟩)
  have T3 := Lib.hid (show takeL s2.1 s2.2 (numN 2) = s3.1 ∧ takeE s2.1 s2.2 (numN 2) = s3.2 by rw [hs3]; exact ⟨rfl, rfl⟩)
  have P1 := Lib.hid (show (getL (takeO s2.1 s2.2 (numN 2)) : Int) = p by rw [hp]; rfl)
  have P2 := Lib.hid (show (getL (takeO s3.1 s3.2 (numN 2)) : Int) = t by rw [ht]; rfl)
  clear hs1 hs2 hs3 hp ht hgeo
  obtain ⟨hp0, hp9⟩ := hp1
  obtain ⟨ht0, ht9⟩ := ht1
  go_enter Try.func34, Try.ntmps34
  go_wp2_with fail
  refine (of_any A n c b _ (hr.alloc _) hn).mono ?_
  rintro e w1 ⟨g, rfl, hg, hR1, hb1⟩
  have hz1 := hR1.lt
  have hl := hr.len
  go_wp2_with fail
  refine (rbytes_any g [g] b 0 8 _ hR1 (by omega) (by omega)).mono ?_
  rintro e w2 ⟨v2, rfl, _, hR2, hK2⟩
  rw [T1.out.1, T1.out.2] at hR2
  go_wp2_with fail
  refine (num_any g [g] s1.1 s1.2 2 _ hR2 (by omega)).mono ?_
  rintro e w3 ⟨rfl, hR3, hK3⟩
  rw [T2.out.1, T2.out.2] at hR3
  go_wp2_with fail
  refine (num_any g [g] s2.1 s2.2 2 _ hR3 (by omega)).mono ?_
  rintro e w4 ⟨rfl, hR4, hK4⟩
  rw [T3.out.1, T3.out.2] at hR4
  rw [P1.out]
  go_wp2_with fail
  refine (num_any g [g] s3.1 s3.2 2 _ hR4 (by omega)).mono ?_
  rintro e w5 ⟨rfl, hR5, hK5⟩
  rw [P2.out]
  have R0 : Blk (w.alloc (.cells #[.int .i64 0, .int .i64 0] 23)) w.heap.size 23 #[.int .i64 0, .int .i64 0] := Blk.new _ _ _
  have hgne : w.heap.size ∉ [g] := by simp at hg ⊢; omega
  have R5 := ((((R0.on hb1).kept hK2 hgne).kept hK3 hgne).kept hK4 hgne).kept hK5 hgne
  have hb5 : Below w.heap.size w w5 := (((hK2.trans hK3).trans hK4).trans hK5).below (by simp at hg; omega) (by simp at hg ⊢; omega) |> (show Below w.heap.size w w1 from (by (have q_hb1 := Below.size hb1; (try simp at q_hb1); repeat (first | exact Below.refl _ _ | (refine Below.trans ?_ (Below.mono hb1 (by first | omega | (simp; omega) | simp))) | (refine Below.setCell ?_ (by first | omega | (simp; omega) | simp) _) | (refine Below.alloc ?_ (by first | omega | (simp; omega) | simp) _) | apply Below.drew | apply below_drewN)))).trans
  have hr5 := hr.below hb5
  have hz5 := R5.lt
  clear hR1 hR2 hR3 hR4 hR5 hK2 hK3 hK4 hK5 T1 T2 T3 P1 P2 R0 hb1 hg hz1
  go_wp2_with fail
  have Bq : Blk (w5.alloc (.cells #[.int .i64 p, .int .i64 t] 23)) w5.heap.size 23 #[.int .i64 p, .int .i64 t] := Blk.new _ _ _
  have R6 := R5.alloc (.cells #[.int .i64 p, .int .i64 t] 23)
  cases hm : gmay p t
  · have hno := Lib.hid (show sOK b = false by unfold sOK; rw [HG.out]; simp [hm])
    refine (sbytes_no p t _ hm).mono ?_
    rintro e w6 ⟨v6, rfl, hF6, hb6⟩
    have R7 := R6.on hb6
    have Bq7 := Bq.on hb6
    have c7 := R7.cell
    have f7 := R7.frozen
    go_wp2_with fail
    have e0 := (R7.set_ 0 (.int .i64 0)).cell 0
    have e1 := ((R7.set_ 0 (.int .i64 0)).set_ 1 (.int .i64 0)).cell 1
    refine bodyPost_ret (v := .tuple #[.agg #[.int .i64 0, .int .i64 0], .int .i64 4]) (by simp [results, Try.results34, go_sem, e0, e1]) rfl ⟨by rw [hno.out, if_neg (by decide)], ?_⟩
    have hx : Below w.heap.size w w6 := (by (have q_hb6 := Below.size hb6; (try simp at q_hb6); have q_hb5 := Below.size hb5; (try simp at q_hb5); repeat (first | exact Below.refl _ _ | (refine Below.trans ?_ (Below.mono hb6 (by first | omega | (simp; omega) | simp))) | (refine Below.trans ?_ (Below.mono hb5 (by first | omega | (simp; omega) | simp))) | (refine Below.setCell ?_ (by first | omega | (simp; omega) | simp) _) | (refine Below.alloc ?_ (by first | omega | (simp; omega) | simp) _) | apply Below.drew | apply below_drewN)))
    exact (by (have q_hx := Below.size hx; (try simp at q_hx); repeat (first | exact Below.refl _ _ | (refine Below.trans ?_ (Below.mono hx (by first | omega | (simp; omega) | simp))) | (refine Below.setCell ?_ (by first | omega | (simp; omega) | simp) _) | (refine Below.alloc ?_ (by first | omega | (simp; omega) | simp) _) | apply Below.drew | apply below_drewN)))
  · refine (sbytes_yes p t _ hm).mono ?_
    rintro e w6 ⟨v6, rfl, hF6, hb6⟩
    obtain ⟨A6, c6, rfl, hR6, _, _, _⟩ := hF6.rdn 256 (superL_len p t)
    have R7 := R6.on hb6
    have Bq7 := Bq.on hb6
    have c7 := R7.cell
    have f7 := R7.frozen
    have c8 := Bq7.cell
    have hr6 := (hr5.alloc (.cells #[.int .i64 p, .int .i64 t] 23)).below hb6
    by_cases hq : b = superL p t
    · have hyes := Lib.hid (show sOK b = true by unfold sOK; rw [HG.out]; simp [hm, hq])
      have hd : decide (b = superL p t) = true := by simp [hq]
      clear hq
      go_wp2_with fail
      refine (equal_any _ _ _ _ _ _ b (superL p t) _ hr6 hR6).mono ?_
      rintro e w7 ⟨rfl, rfl⟩
      go_wp2_with fail
      have e0 := (R7.set_ 0 (.int .i64 p)).cell 0
      have e1 := ((R7.set_ 0 (.int .i64 p)).set_ 1 (.int .i64 t)).cell 1
      refine bodyPost_ret (v := .tuple #[.agg #[.int .i64 p, .int .i64 t], .int .i64 0]) (by simp [results, Try.results34, go_sem, e0, e1]) rfl ⟨by rw [hyes.out, if_pos rfl, HG.out], ?_⟩
      have hx : Below w.heap.size w w6 := (by (have q_hb6 := Below.size hb6; (try simp at q_hb6); have q_hb5 := Below.size hb5; (try simp at q_hb5); repeat (first | exact Below.refl _ _ | (refine Below.trans ?_ (Below.mono hb6 (by first | omega | (simp; omega) | simp))) | (refine Below.trans ?_ (Below.mono hb5 (by first | omega | (simp; omega) | simp))) | (refine Below.setCell ?_ (by first | omega | (simp; omega) | simp) _) | (refine Below.alloc ?_ (by first | omega | (simp; omega) | simp) _) | apply Below.drew | apply below_drewN)))
      exact (by (have q_hx := Below.size hx; (try simp at q_hx); repeat (first | exact Below.refl _ _ | (refine Below.trans ?_ (Below.mono hx (by first | omega | (simp; omega) | simp))) | (refine Below.setCell ?_ (by first | omega | (simp; omega) | simp) _) | (refine Below.alloc ?_ (by first | omega | (simp; omega) | simp) _) | apply Below.drew | apply below_drewN)))
    · have hno := Lib.hid (show sOK b = false by unfold sOK; rw [HG.out]; simp [hq])
      have hd : decide (b = superL p t) = false := by simp [hq]
      clear hq
      go_wp2_with fail
      refine (equal_any _ _ _ _ _ _ b (superL p t) _ hr6 hR6).mono ?_
      rintro e w7 ⟨rfl, rfl⟩
      go_wp2_with fail
      have e0 := (R7.set_ 0 (.int .i64 0)).cell 0
      have e1 := ((R7.set_ 0 (.int .i64 0)).set_ 1 (.int .i64 0)).cell 1
      refine bodyPost_ret (v := .tuple #[.agg #[.int .i64 0, .int .i64 0], .int .i64 4]) (by simp [results, Try.results34, go_sem, e0, e1]) rfl ⟨by rw [hno.out, if_neg (by decide)], ?_⟩
      have hx : Below w.heap.size w w6 := (by (have q_hb6 := Below.size hb6; (try simp at q_hb6); have q_hb5 := Below.size hb5; (try simp at q_hb5); repeat (first | exact Below.refl _ _ | (refine Below.trans ?_ (Below.mono hb6 (by first | omega | (simp; omega) | simp))) | (refine Below.trans ?_ (Below.mono hb5 (by first | omega | (simp; omega) | simp))) | (refine Below.setCell ?_ (by first | omega | (simp; omega) | simp) _) | (refine Below.alloc ?_ (by first | omega | (simp; omega) | simp) _) | apply Below.drew | apply below_drewN)))
      exact (by (have q_hx := Below.size hx; (try simp at q_hx); repeat (first | exact Below.refl _ _ | (refine Below.trans ?_ (Below.mono hx (by first | omega | (simp; omega) | simp))) | (refine Below.setCell ?_ (by first | omega | (simp; omega) | simp) _) | (refine Below.alloc ?_ (by first | omega | (simp; omega) | simp) _) | apply Below.drew | apply below_drewN)))
end Go.Proofs.Ythepgnankelmeaa
