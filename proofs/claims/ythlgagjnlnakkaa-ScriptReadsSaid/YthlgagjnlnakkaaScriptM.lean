/- Scripts: an act read from bytes: the plain law. -/
import Derived.Test.YthlgagjnlnakkaaScript8
import Derived.Test.YthlgagjnlnakkaaRow
namespace Go.Proofs.Ythlgagjnlnakkaa
open Go.RowKit

/-- What is taken in a row: so many bytes each time. -/
def stepR (s : List UInt8 × Int) (n : Int) : List UInt8 × Int := (takeL s.1 s.2 n, takeE s.1 s.2 n)
theorem stepR_ok {s : List UInt8 × Int} {n : Int} (h : (stepR s n).2 = 0) : s.2 = 0 ∧ 0 ≤ n ∧ n ≤ s.1.length ∧ (stepR s n).1 = s.1.drop n.toNat ∧ takeO s.1 s.2 n = s.1.take n.toNat := by
  obtain ⟨l, e⟩ := s
  unfold stepR takeE at h
  simp only at h
  by_cases he : e = 0
  · subst he
    rw [if_pos rfl] at h
    by_cases h0 : n < 0
    · rw [if_pos h0] at h; omega
    · rw [if_neg h0] at h
      by_cases h1 : n > l.length
      · rw [if_pos h1] at h; omega
      · refine ⟨rfl, by omega, by simp only; omega, ?_, ?_⟩
        · unfold stepR takeL; simp only; rw [if_pos ⟨trivial, by omega, by omega⟩]
        · unfold takeO; simp only; rw [if_pos ⟨trivial, by omega, by omega⟩]
  · rw [if_neg he] at h; exact absurd h he
theorem stepR_app {a r : List UInt8} {n : Int} (h : (a.length : Int) = n) : stepR (a ++ r, 0) n = (r, 0) ∧ takeO (a ++ r) 0 n = a := by
  have h1 : n.toNat = a.length := by omega
  refine ⟨?_, ?_⟩
  · unfold stepR takeL takeE
    simp only
    rw [if_pos ⟨trivial, by omega, by simp; omega⟩, if_pos trivial, if_neg (by omega), if_neg (by simp; omega), h1]
    simp
  · unfold takeO
    rw [if_pos ⟨rfl, by omega, by simp; omega⟩, h1]
    simp

/-- The states of a row of which an act is read, and what is taken at each step. -/
def rs0 (b : List UInt8) : List UInt8 × Int := (b, 0)
def rs1 (b : List UInt8) : List UInt8 × Int := stepR (rs0 b) 1
def rs2 (b : List UInt8) : List UInt8 × Int := stepR (rs1 b) 1
def rs3 (b : List UInt8) : List UInt8 × Int := stepR (rs2 b) 2
def rs4 (b : List UInt8) : List UInt8 × Int := stepR (rs3 b) 2
def rs5 (b : List UInt8) : List UInt8 × Int := stepR (rs4 b) 2
def rs6 (b : List UInt8) : List UInt8 × Int := stepR (rs5 b) 2
def rs7 (b : List UInt8) : List UInt8 × Int := stepR (rs6 b) 2
def ro0 (b : List UInt8) : List UInt8 := takeO (rs0 b).1 (rs0 b).2 1
def ro1 (b : List UInt8) : List UInt8 := takeO (rs1 b).1 (rs1 b).2 1
def ro2 (b : List UInt8) : List UInt8 := takeO (rs2 b).1 (rs2 b).2 2
def ro3 (b : List UInt8) : List UInt8 := takeO (rs3 b).1 (rs3 b).2 2
def ro4 (b : List UInt8) : List UInt8 := takeO (rs4 b).1 (rs4 b).2 2
def ro5 (b : List UInt8) : List UInt8 := takeO (rs5 b).1 (rs5 b).2 2
def ro6 (b : List UInt8) : List UInt8 := takeO (rs6 b).1 (rs6 b).2 2
def rlen (b : List UInt8) : Nat := getL (ro6 b)
def rlast (b : List UInt8) : List UInt8 × Int := stepR (rs7 b) (rlen b : Int)
def rbs (b : List UInt8) : List UInt8 := takeO (rs7 b).1 (rs7 b).2 (rlen b : Int)
def readA (b : List UInt8) : ActD := (((getL (ro0 b) : Int), decide (getL (ro1 b) ≠ 0), (getL (ro2 b) : Int), (getL (ro3 b) : Int), (getL (ro4 b) : Int), (getL (ro5 b) : Int)), rbs b)
def stepOK (b : List UInt8) : Bool := decide ((rlast b).2 = 0) && mayA (readA b) && decide (getL (ro1 b) ≤ 1)

theorem rs_all {b : List UInt8} (h : (rlast b).2 = 0) : b = ro0 b ++ (ro1 b ++ (ro2 b ++ (ro3 b ++ (ro4 b ++ (ro5 b ++ (ro6 b ++ (rbs b ++ (rlast b).1))))))) ∧ (ro0 b).length = 1 ∧ (ro1 b).length = 1 ∧ (ro2 b).length = 2 ∧ (ro3 b).length = 2 ∧ (ro4 b).length = 2 ∧ (ro5 b).length = 2 ∧ (ro6 b).length = 2 ∧ (rbs b).length = rlen b := by
  have cut : ∀ (s : List UInt8 × Int) (n : Nat), (stepR s n).2 = 0 → s.1 = takeO s.1 s.2 n ++ (stepR s n).1 ∧ (takeO s.1 s.2 n).length = n ∧ s.2 = 0 := by
    intro s n h
    obtain ⟨h1, h2, h3, h4, h5⟩ := stepR_ok h
    rw [h4, h5]
    simp
    exact ⟨by omega, h1⟩
  obtain ⟨c7, l7, e7⟩ : (rs7 b).1 = rbs b ++ (rlast b).1 ∧ (rbs b).length = rlen b ∧ (rs7 b).2 = 0 := cut (rs7 b) (rlen b) h
  obtain ⟨c6, l6, e6⟩ : (rs6 b).1 = ro6 b ++ (rs7 b).1 ∧ (ro6 b).length = 2 ∧ (rs6 b).2 = 0 := cut (rs6 b) 2 e7
  obtain ⟨c5, l5, e5⟩ : (rs5 b).1 = ro5 b ++ (rs6 b).1 ∧ (ro5 b).length = 2 ∧ (rs5 b).2 = 0 := cut (rs5 b) 2 e6
  obtain ⟨c4, l4, e4⟩ : (rs4 b).1 = ro4 b ++ (rs5 b).1 ∧ (ro4 b).length = 2 ∧ (rs4 b).2 = 0 := cut (rs4 b) 2 e5
  obtain ⟨c3, l3, e3⟩ : (rs3 b).1 = ro3 b ++ (rs4 b).1 ∧ (ro3 b).length = 2 ∧ (rs3 b).2 = 0 := cut (rs3 b) 2 e4
  obtain ⟨c2, l2, e2⟩ : (rs2 b).1 = ro2 b ++ (rs3 b).1 ∧ (ro2 b).length = 2 ∧ (rs2 b).2 = 0 := cut (rs2 b) 2 e3
  obtain ⟨c1, l1, e1⟩ : (rs1 b).1 = ro1 b ++ (rs2 b).1 ∧ (ro1 b).length = 1 ∧ (rs1 b).2 = 0 := cut (rs1 b) 1 e2
  obtain ⟨c0, l0, e0⟩ : (rs0 b).1 = ro0 b ++ (rs1 b).1 ∧ (ro0 b).length = 1 ∧ (rs0 b).2 = 0 := cut (rs0 b) 1 e1
  refine ⟨?_, l0, l1, l2, l3, l4, l5, l6, l7⟩
  have c9 : (rs0 b).1 = b := rfl
  rw [c7] at c6
  rw [c6] at c5
  rw [c5] at c4
  rw [c4] at c3
  rw [c3] at c2
  rw [c2] at c1
  rw [c1] at c0
  exact c9.symm.trans c0
theorem byteI_get1 {l : List UInt8} (h : l.length = 1) : [byteI (getL l : Int) 0] = l := by
  match l, h with
  | [x], _ =>
    congr 1
    unfold byteI getL
    have := x.toNat_lt
    apply UInt8.toNat_inj.1
    rw [UInt8.toNat_ofNat']
    simp [getL]
    omega
theorem putL_get2 {l : List UInt8} (h : l.length = 2) : putL 2 (getL l : Int) = l := by
  match l, h with
  | [x, y], _ =>
    have hx := x.toNat_lt
    have hy := y.toNat_lt
    have e0 : byteI (getL [x, y] : Int) 0 = x := by
      unfold byteI
      apply UInt8.toNat_inj.1
      rw [UInt8.toNat_ofNat']
      simp [getL]
      omega
    have e1 : byteI (getL [x, y] : Int) 1 = y := by
      unfold byteI
      apply UInt8.toNat_inj.1
      rw [UInt8.toNat_ofNat']
      simp [getL]
      omega
    simp [putL, List.range_succ, e0, e1]
theorem getL_put2' (v : Int) (h0 : 0 ≤ v) (h1 : v < 65536) : (getL (putL 2 v) : Int) = v := by
  have a0 := byteI_val v 0
  have a1 := byteI_val v 1
  simp [putL, List.range_succ, getL] at a0 a1 ⊢
  omega
theorem getL_put1 (v : Int) (h0 : 0 ≤ v) (h1 : v < 256) : (getL [byteI v 0] : Int) = v := by
  have a0 := byteI_val v 0
  simp [getL] at a0 ⊢
  omega

/-- The bytes that the program writes of what it read. -/
theorem encA_read {b : List UInt8} (h : (rlast b).2 = 0) : encA (readA b) = ro0 b ++ ([yesB (decide (getL (ro1 b) ≠ 0))] ++ (ro2 b ++ (ro3 b ++ (ro4 b ++ (ro5 b ++ (ro6 b ++ rbs b)))))) := by
  obtain ⟨_, l0, l1, l2, l3, l4, l5, l6, l7⟩ := rs_all h
  have e0 := byteI_get1 l0
  have e2 := putL_get2 l2
  have e3 := putL_get2 l3
  have e4 := putL_get2 l4
  have e5 := putL_get2 l5
  have e6 := putL_get2 l6
  have e7 : putL 2 ((rbs b).length : Int) = ro6 b := by rw [l7]; exact e6
  unfold encA bodyA headA numsA readA
  simp only [List.take_succ_cons, List.take_zero, List.map_cons, List.map_nil, List.flatten_cons, List.flatten_nil, e2, e3, e4, e5, e7]
  simp only [List.append_assoc, List.append_nil, List.cons_append, List.nil_append]
  rw [← List.singleton_append, e0]
theorem yesB_is {l : List UInt8} (h : l.length = 1) : ([yesB (decide (getL l ≠ 0))] = l) ↔ getL l ≤ 1 := by
  match l, h with
  | [x], _ =>
    have hx := x.toNat_lt
    simp only [getL, Nat.mul_zero, Nat.add_zero, List.cons.injEq, and_true]
    by_cases h0 : x.toNat = 0
    · have : x = 0 := UInt8.toNat_inj.1 h0
      subst this
      simp [yesB]
    · have hd : decide (x.toNat ≠ 0) = true := by simpa using h0
      have e1 : yesB (decide (¬ x.toNat = 0)) = 1 := by have : decide (¬ x.toNat = 0) = true := hd; rw [this]; rfl
      show yesB (decide (¬ x.toNat = 0)) = x ↔ _
      rw [e1]
      constructor
      · rintro rfl; decide
      · intro h; apply UInt8.toNat_inj.1; show 1 = x.toNat; omega
theorem stepOK_enc {b : List UInt8} (h : stepOK b = true) : mayA (readA b) = true ∧ b = encA (readA b) ++ (rlast b).1 := by
  simp only [stepOK, Bool.and_eq_true, decide_eq_true_eq] at h
  obtain ⟨⟨h1, h2⟩, h3⟩ := h
  refine ⟨h2, ?_⟩
  obtain ⟨hb, l0, l1, _⟩ := rs_all h1
  rw [encA_read h1, (yesB_is l1).2 h3]
  conv => lhs; rw [hb]
  simp only [List.append_assoc]
/-- Does what was read, written again, stand ahead? -/
theorem prefix_iff {b : List UInt8} (h : (rlast b).2 = 0) : (encA (readA b) <+: b) ↔ getL (ro1 b) ≤ 1 := by
  obtain ⟨hb, l0, l1, _⟩ := rs_all h
  rw [← yesB_is l1, encA_read h]
  constructor
  · rintro ⟨t, ht⟩
    have h2 := ht.trans hb
    simp only [List.append_assoc] at h2
    obtain ⟨_, h3⟩ := List.append_inj h2 rfl
    exact (List.append_inj h3 (by simp [l1])).1
  · intro h2
    refine ⟨(rlast b).1, ?_⟩
    rw [h2]
    conv => rhs; rw [hb]
    simp only [List.append_assoc]
theorem yes_get (b : Bool) : getL [yesB b] ≤ 1 ∧ decide (getL [yesB b] ≠ 0) = b := by cases b <;> decide
/-- An act's bytes are read as the act. -/
theorem read_enc {e : ActD} {r : List UInt8} (hm : mayA e = true) : readA (encA e ++ r) = e ∧ stepOK (encA e ++ r) = true ∧ (rlast (encA e ++ r)).1 = r := by
  obtain ⟨⟨f1, f2, f3, f4, f5, f6⟩, L⟩ := e
  obtain ⟨⟨h10, h11⟩, hL, ⟨h30, h31⟩, ⟨h40, h41⟩, ⟨h50, h51⟩, ⟨h60, h61⟩⟩ := mayA_range hm
  have hb : encA ((f1, f2, f3, f4, f5, f6), L) ++ r = [byteI f1 0] ++ ([yesB f2] ++ (putL 2 f3 ++ (putL 2 f4 ++ (putL 2 f5 ++ (putL 2 f6 ++ (putL 2 (L.length : Int) ++ (L ++ r))))))) := by
    unfold encA bodyA headA numsA
    simp
  obtain ⟨b, hbb⟩ : ∃ b, b = encA ((f1, f2, f3, f4, f5, f6), L) ++ r := ⟨_, rfl⟩
  rw [← hbb] at hb ⊢
  have s0 : rs0 b = _ := congrArg (fun x => (x, (0 : Int))) hb
  obtain ⟨a1, o0⟩ := stepR_app (a := [byteI f1 0]) (r := ([yesB f2] ++ (putL 2 f3 ++ (putL 2 f4 ++ (putL 2 f5 ++ (putL 2 f6 ++ (putL 2 (L.length : Int) ++ (L ++ r)))))))) (n := 1) rfl
  have s1 : rs1 b = _ := (congrArg (fun s => stepR s 1) s0).trans a1
  obtain ⟨a2, o1⟩ := stepR_app (a := [yesB f2]) (r := (putL 2 f3 ++ (putL 2 f4 ++ (putL 2 f5 ++ (putL 2 f6 ++ (putL 2 (L.length : Int) ++ (L ++ r))))))) (n := 1) rfl
  have s2 : rs2 b = _ := (congrArg (fun s => stepR s 1) s1).trans a2
  obtain ⟨a3, o2⟩ := stepR_app (a := putL 2 f3) (r := (putL 2 f4 ++ (putL 2 f5 ++ (putL 2 f6 ++ (putL 2 (L.length : Int) ++ (L ++ r)))))) (n := 2) (by rw [putL_len]; rfl)
  have s3 : rs3 b = _ := (congrArg (fun s => stepR s 2) s2).trans a3
  obtain ⟨a4, o3⟩ := stepR_app (a := putL 2 f4) (r := (putL 2 f5 ++ (putL 2 f6 ++ (putL 2 (L.length : Int) ++ (L ++ r))))) (n := 2) (by rw [putL_len]; rfl)
  have s4 : rs4 b = _ := (congrArg (fun s => stepR s 2) s3).trans a4
  obtain ⟨a5, o4⟩ := stepR_app (a := putL 2 f5) (r := (putL 2 f6 ++ (putL 2 (L.length : Int) ++ (L ++ r)))) (n := 2) (by rw [putL_len]; rfl)
  have s5 : rs5 b = _ := (congrArg (fun s => stepR s 2) s4).trans a5
  obtain ⟨a6, o5⟩ := stepR_app (a := putL 2 f6) (r := (putL 2 (L.length : Int) ++ (L ++ r))) (n := 2) (by rw [putL_len]; rfl)
  have s6 : rs6 b = _ := (congrArg (fun s => stepR s 2) s5).trans a6
  obtain ⟨a7, o6⟩ := stepR_app (a := putL 2 (L.length : Int)) (r := (L ++ r)) (n := 2) (by rw [putL_len]; rfl)
  have s7 : rs7 b = _ := (congrArg (fun s => stepR s 2) s6).trans a7
  have r0 : ro0 b = [byteI f1 0] := by show takeO (rs0 b).1 (rs0 b).2 1 = _; rw [s0]; exact o0
  have r1 : ro1 b = [yesB f2] := by show takeO (rs1 b).1 (rs1 b).2 1 = _; rw [s1]; exact o1
  have r2 : ro2 b = putL 2 f3 := by show takeO (rs2 b).1 (rs2 b).2 2 = _; rw [s2]; exact o2
  have r3 : ro3 b = putL 2 f4 := by show takeO (rs3 b).1 (rs3 b).2 2 = _; rw [s3]; exact o3
  have r4 : ro4 b = putL 2 f5 := by show takeO (rs4 b).1 (rs4 b).2 2 = _; rw [s4]; exact o4
  have r5 : ro5 b = putL 2 f6 := by show takeO (rs5 b).1 (rs5 b).2 2 = _; rw [s5]; exact o5
  have r6 : ro6 b = putL 2 (L.length : Int) := by show takeO (rs6 b).1 (rs6 b).2 2 = _; rw [s6]; exact o6
  have hlen : (rlen b : Int) = (L.length : Int) := by unfold rlen; rw [r6]; exact getL_put2' _ (by omega) (by omega)
  obtain ⟨a8, o7⟩ := stepR_app (a := L) (r := r) (n := (rlen b : Int)) hlen.symm
  have s8 : rlast b = (r, 0) := by unfold rlast; rw [s7]; exact a8
  have r7 : rbs b = L := by unfold rbs; rw [s7]; exact o7
  have hread : readA b = ((f1, f2, f3, f4, f5, f6), L) := by
    unfold readA
    rw [r0, r1, r2, r3, r4, r5, r7, getL_put1 _ h10 (by omega), (yes_get f2).2, getL_put2' _ h30 (by omega), getL_put2' _ h40 (by omega), getL_put2' _ h50 (by omega), getL_put2' _ h60 (by omega)]
  refine ⟨hread, ?_, by rw [s8]⟩
  unfold stepOK
  rw [hread, hm, s8, r1]
  simp [(yes_get f2).1]

/-- Acts that may be, their bytes, what is left. -/
def PA (b : List UInt8) (es : List ActD) (r : List UInt8) : Prop := es.all mayA = true ∧ b = (es.map encA).flatten ++ r
theorem PA.nil (b : List UInt8) : PA b [] b := ⟨rfl, rfl⟩
theorem PA.more {b r : List UInt8} {es : List ActD} (h : PA b es r) (hr : stepOK r = true) : PA b (es ++ [readA r]) (rlast r).1 := by
  obtain ⟨h1, h2⟩ := stepOK_enc hr
  refine ⟨by rw [List.all_append, h.1]; simp [h1], ?_⟩
  rw [h.2]
  conv => lhs; rw [h2]
  simp
theorem encA_ne {e : ActD} : encA e ≠ [] := by
  intro h
  have := encA_len (e := e)
  rw [h] at this
  simp at this
  omega
/-- Whatever is read of acts' bytes are the acts. -/
theorem PA.uniq : ∀ {es fs : List ActD} {b r : List UInt8}, PA b es [] → PA b fs r → (r = [] ∨ stepOK r = false) → r = [] ∧ fs = es
  | [], [], b, r, h1, h2, _ => by
    have := h1.2.symm.trans h2.2
    simp at this
    exact ⟨this, rfl⟩
  | [], f :: fs, b, r, h1, h2, _ => by
    have := h1.2.symm.trans h2.2
    simp at this
    exact absurd this.1 encA_ne
  | e :: es, [], b, r, h1, h2, h3 => by
    have h4 := h1.2.symm.trans h2.2
    have hm : mayA e = true := by have := h1.1; simp at this; exact this.1
    obtain ⟨_, hok, _⟩ := read_enc (r := (es.map encA).flatten ++ []) hm
    simp at h4 hok
    rcases h3 with rfl | h3
    · simp at h4; exact absurd h4.1 encA_ne
    · rw [← h4, hok] at h3; cases h3
  | e :: es, f :: fs, b, r, h1, h2, h3 => by
    have hm : mayA e = true := by have := h1.1; simp at this; exact this.1
    have hmf : mayA f = true := by have := h2.1; simp at this; exact this.1
    have h4 : encA e ++ ((es.map encA).flatten ++ []) = encA f ++ ((fs.map encA).flatten ++ r) := by
      have := h1.2.symm.trans h2.2
      simpa using this
    obtain ⟨a1, _, a3⟩ := read_enc (r := (es.map encA).flatten ++ []) hm
    obtain ⟨b1, _, b3⟩ := read_enc (r := (fs.map encA).flatten ++ r) hmf
    rw [h4] at a1 a3
    have hef : f = e := b1.symm.trans a1
    have hr : (es.map encA).flatten ++ [] = (fs.map encA).flatten ++ r := a3.symm.trans b3
    have p1 : PA ((es.map encA).flatten ++ []) es [] := ⟨by have := h1.1; simp at this ⊢; exact this.2, rfl⟩
    have p2 : PA ((es.map encA).flatten ++ []) fs r := ⟨by have := h2.1; simp at this ⊢; exact this.2, hr⟩
    obtain ⟨q1, q2⟩ := PA.uniq p1 p2 h3
    exact ⟨q1, by rw [hef, q2]⟩
end Go.Proofs.Ythlgagjnlnakkaa
