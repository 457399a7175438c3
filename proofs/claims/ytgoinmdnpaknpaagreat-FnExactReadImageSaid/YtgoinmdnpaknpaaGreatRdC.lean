/- Codes read back from their bytes: plain law. -/
import Derived.Test.YtgoinmdnpaknpaaGreatRdLeb
import Derived.Test.YtgoinmdnpaknpaaGreatCdBi
set_option linter.unusedVariables false
set_option linter.unusedSimpArgs false
namespace Go.Proofs.YtgoinmdnpaknpaaGreat
open Go.RowKit
/-- At place x the text goes on with l, up to place e. -/
def Tg (s : ByteArray) (x : Int) (l : List UInt8) (e : Nat) : Prop := ∃ t : Nat, x = (t : Int) ∧ s.size ≤ 2000 ∧ Stt s t l ∧ t + l.length = e
theorem Tg.step {s : ByteArray} {x : Int} {a l : List UInt8} {e : Nat} (h : Tg s x (a ++ l) e) : ∃ t : Nat, x = (t : Int) ∧ s.size ≤ 2000 ∧ Stt s t a ∧ Tg s ((t : Int) + (a.length : Int)) l e := by
  obtain ⟨t, rfl, h1, h2, h3⟩ := h
  exact ⟨t, rfl, h1, h2.left, t + a.length, by omega, h1, h2.right, by rw [← h3, List.length_append]; omega⟩
/-- What the reader's number tells. -/
def NumP (s : ByteArray) (x : Int) (ok : Bool) (most n x' : Int) (ok' : Bool) : Prop :=
  (ok' = true → ok = true ∧ 0 ≤ x ∧ x < x' ∧ x' ≤ (s.size : Int) ∧ s.size ≤ 2000 ∧ SndI s x n x') ∧ ∀ (m : Nat) (l : List UInt8) (e : Nat), (m : Int) ≤ most → Tg s x (uB m ++ l) e → ok = true → n = (m : Int) ∧ ok' = true ∧ Tg s x' l e
def SgP (s : ByteArray) (x : Int) (ok : Bool) (n x' : Int) (ok' : Bool) : Prop :=
  (ok' = true → ok = true ∧ 0 ≤ x ∧ x < x' ∧ x' ≤ (s.size : Int) ∧ s.size ≤ 2000) ∧ ∀ (m : Int) (l : List UInt8) (e : Nat), I64 m → Tg s x (sB m ++ l) e → ok = true → n = m ∧ ok' = true ∧ Tg s x' l e
/-- What has been read so far of whatever code stands at a0: M holds of it, and rem is to come. -/
def Fol (s : ByteArray) (a0 x : Int) (ok : Bool) (M : Code → Prop) (rem : Code → List UInt8) : Prop :=
  (ok = true → 0 ≤ a0 ∧ a0 < x ∧ x ≤ (s.size : Int) ∧ s.size ≤ 2000) ∧ ∀ (c : Code) (e : Nat), cbB c = true → Tg s a0 (cbL c) e → ok = true ∧ M c ∧ Tg s x (rem c) e
theorem Fol.num {s : ByteArray} {a0 x n x' most : Int} {ok ok' : Bool} {M M' : Code → Prop} {rem rem' : Code → List UInt8} (h : Fol s a0 x ok M rem) (hn : NumP s x ok most n x' ok') (f : Code → Nat)
    (hf : ∀ c, cbB c = true → M c → rem c = uB (f c) ++ rem' c ∧ (f c : Int) ≤ most ∧ (n = (f c : Int) → M' c)) : Fol s a0 x' ok' M' rem' := by
  refine ⟨fun h1 => ?_, fun c e hc ht => ?_⟩
  · obtain ⟨h2, h3, h4, h5⟩ := hn.1 h1
    have := h.1 h2
    omega
  · obtain ⟨h1, h2, h3⟩ := h.2 c e hc ht
    obtain ⟨h4, h5, h6⟩ := hf c hc h2
    rw [h4] at h3
    obtain ⟨h7, h8, h9⟩ := hn.2 _ _ _ h5 h3 h1
    exact ⟨h8, h6 h7, h9⟩
theorem Fol.sg {s : ByteArray} {a0 x n x' : Int} {ok ok' : Bool} {M M' : Code → Prop} {rem rem' : Code → List UInt8} (h : Fol s a0 x ok M rem) (hn : SgP s x ok n x' ok') (f : Code → Int)
    (hf : ∀ c, cbB c = true → M c → rem c = sB (f c) ++ rem' c ∧ I64 (f c) ∧ (n = f c → M' c)) : Fol s a0 x' ok' M' rem' := by
  refine ⟨fun h1 => ?_, fun c e hc ht => ?_⟩
  · obtain ⟨h2, h3, h4, h5⟩ := hn.1 h1
    have := h.1 h2
    omega
  · obtain ⟨h1, h2, h3⟩ := h.2 c e hc ht
    obtain ⟨h4, h5, h6⟩ := hf c hc h2
    rw [h4] at h3
    obtain ⟨h7, h8, h9⟩ := hn.2 _ _ _ h5 h3 h1
    exact ⟨h8, h6 h7, h9⟩
theorem Fol.mono {s : ByteArray} {a0 x : Int} {ok : Bool} {M M' : Code → Prop} {rem rem' : Code → List UInt8} (h : Fol s a0 x ok M rem) (hf : ∀ c, cbB c = true → ok = true → M c → M' c ∧ rem c = rem' c) : Fol s a0 x ok M' rem' := by
  refine ⟨h.1, fun c e hc ht => ?_⟩
  obtain ⟨h1, h2, h3⟩ := h.2 c e hc ht
  obtain ⟨h4, h5⟩ := hf c hc h1 h2
  exact ⟨h1, h4, h5 ▸ h3⟩
/-! ### the parts of a code's bytes -/
def cp7 (c : Code) : List UInt8 := rwsB c.2.2.2.2
def cp6 (c : Code) (k : Nat) : List UInt8 := inssBy (c.2.2.2.1.drop k) ++ cp7 c
def cp5 (c : Code) : List UInt8 := uB c.2.2.2.1.length ++ cp6 c 0
def cp4 (c : Code) (k : Nat) : List UInt8 := sitesBy (c.2.2.1.drop k) ++ cp5 c
def cp3 (c : Code) : List UInt8 := uB c.2.2.1.length ++ cp4 c 0
def cp2 (c : Code) : List UInt8 := uB c.2.1.toNat ++ cp3 c
theorem cbL_cp (c : Code) : cbL c = uB c.1.toNat ++ cp2 c := by
  unfold cbL cdB cp2 cp3 cp4 cp5 cp6 cp7; simp
theorem cp4_end {c : Code} {k : Nat} (h : c.2.2.1.length ≤ k) : cp4 c k = cp5 c := by unfold cp4; rw [List.drop_of_length_le h]; rfl
theorem cp6_end {c : Code} {k : Nat} (h : c.2.2.2.1.length ≤ k) : cp6 c k = cp7 c := by unfold cp6; rw [List.drop_of_length_le h]; rfl
theorem cp4_at {c : Code} {k : Nat} (h : k < c.2.2.1.length) : cp4 c k = uB (c.2.2.1[k]).toNat ++ cp4 c (k + 1) := by
  unfold cp4 sitesBy; rw [List.drop_eq_getElem_cons h, List.map_cons, List.flatten_cons, List.append_assoc]
/-- The rest of an instruction's bytes. -/
def cpI (c : Code) (k : Nat) : List UInt8 := (if hasNB (c.2.2.2.1.getD k (0, 0)).1 = true then sB (c.2.2.2.1.getD k (0, 0)).2 else []) ++ cp6 c (k + 1)
theorem cp6_at {c : Code} {k : Nat} (h : k < c.2.2.2.1.length) : cp6 c k = uB (c.2.2.2.1.getD k (0, 0)).1.toNat ++ cpI c k := by
  unfold cp6 cpI inssBy; rw [List.drop_eq_getElem_cons h, List.map_cons, List.flatten_cons]
  unfold insBy
  rw [show c.2.2.2.1.getD k (0, 0) = c.2.2.2.1[k] by rw [List.getD_eq_getElem?_getD, List.getElem?_eq_getElem h]; rfl]
  simp only [cp6, inssBy, List.append_assoc]
  rfl
theorem Fol.first {s : ByteArray} {a0 n x' most : Int} {ok' : Bool} (hn : NumP s a0 true most n x' ok') (h2 : 2 ≤ most) : Fol s a0 x' ok' (fun c => n = c.1) cp2 := by
  refine ⟨fun h1 => ?_, fun c e hc ht => ?_⟩
  · obtain ⟨h2, h3, h4, h5⟩ := hn.1 h1
    omega
  · rw [cbL_cp] at ht
    obtain ⟨x0, x1, ss, is, rs⟩ := c
    obtain ⟨q0, _⟩ := cbB_parts hc
    obtain ⟨h7, h8, h9⟩ := hn.2 _ _ _ (by simp only; omega) ht rfl
    exact ⟨h8, by simp only at h7 ⊢; omega, h9⟩
theorem Fol.vars {s : ByteArray} {a0 x n n0 x' most : Int} {ok ok' : Bool} (h : Fol s a0 x ok (fun c => n0 = c.1) cp2) (hn : NumP s x ok most n x' ok') (h2 : 6 ≤ most) : Fol s a0 x' ok' (fun c => n0 = c.1 ∧ n = c.2.1) cp3 := by
  refine h.num hn (fun c => c.2.1.toNat) fun c hc hm => ?_
  obtain ⟨x0, x1, ss, is, rs⟩ := c
  obtain ⟨q0, q1, _⟩ := cbB_parts hc
  exact ⟨rfl, by simp only; omega, fun h => ⟨hm, by simp only at h ⊢; omega⟩⟩
/-- So many sites have been read, and so many are to come. -/
def MS (n0 n1 : Int) (ss : List Int) (cnt : Int) (c : Code) : Prop := n0 = c.1 ∧ n1 = c.2.1 ∧ ss = c.2.2.1.take ss.length ∧ (ss.length : Int) + cnt = c.2.2.1.length
theorem Fol.many {s : ByteArray} {a0 x n n0 n1 x' most : Int} {ok ok' : Bool} (h : Fol s a0 x ok (fun c => n0 = c.1 ∧ n1 = c.2.1) cp3) (hn : NumP s x ok most n x' ok') (h2 : 4 ≤ most) : Fol s a0 x' ok' (MS n0 n1 [] n) (fun c => cp4 c ([] : List Int).length) := by
  refine h.num hn (fun c => c.2.2.1.length) fun c hc hm => ?_
  obtain ⟨x0, x1, ss, is, rs⟩ := c
  obtain ⟨q0, q1, q2, _⟩ := cbB_parts hc
  exact ⟨rfl, by simp only; omega, fun h => ⟨hm.1, hm.2, by simp, by simp only [List.length_nil] at h ⊢; omega⟩⟩
theorem Fol.site {s : ByteArray} {a0 x n n0 n1 cnt x' most : Int} {ok ok' : Bool} {l : List Int} (h : Fol s a0 x ok (MS n0 n1 l cnt) (fun c => cp4 c l.length)) (hc0 : 0 < cnt) (hn : NumP s x ok most n x' ok') (h2 : 1000000 ≤ most) :
    Fol s a0 x' ok' (MS n0 n1 (l ++ [n]) (cnt - 1)) (fun c => cp4 c (l ++ [n]).length) := by
  refine h.num hn (fun c => (c.2.2.1.getD l.length 0).toNat) fun c hc hm => ?_
  obtain ⟨x0, x1, ss, is, rs⟩ := c
  obtain ⟨q0, q1, q2, _, _, _, _, q7⟩ := cbB_parts hc
  obtain ⟨m0, m1, m2, m3⟩ := hm
  simp only at m2 m3 ⊢
  have hl : l.length < ss.length := by omega
  have e : ss.getD l.length 0 = ss[l.length] := by rw [List.getD_eq_getElem?_getD, List.getElem?_eq_getElem hl]; rfl
  have h5 := inB_iff.1 (List.all_eq_true.1 q7 _ (List.getElem_mem hl))
  refine ⟨?_, by rw [e]; omega, fun h => ⟨m0, m1, ?_, ?_⟩⟩
  · rw [e, List.length_append]; exact cp4_at (c := (x0, x1, ss, is, rs)) hl
  · simp only [List.length_append, List.length_singleton]
    rw [List.take_succ_eq_append_getElem hl, ← m2, show n = ss[l.length] by rw [h, e]; omega]
  · simp only [List.length_append, List.length_singleton]; omega
theorem Fol.sitesEnd {s : ByteArray} {a0 x n0 n1 cnt : Int} {ok : Bool} {l : List Int} (h : Fol s a0 x ok (MS n0 n1 l cnt) (fun c => cp4 c l.length)) (hc0 : ok = true → cnt ≤ 0) : Fol s a0 x ok (fun c => n0 = c.1 ∧ n1 = c.2.1 ∧ l = c.2.2.1) cp5 := by
  refine h.mono fun c hc ho hm => ?_
  obtain ⟨m0, m1, m2, m3⟩ := hm
  have h1 := hc0 ho
  have h2 := congrArg List.length m2
  rw [List.length_take] at h2
  have h3 : c.2.2.1.length ≤ l.length := by omega
  exact ⟨⟨m0, m1, by rw [List.take_of_length_le h3] at m2; exact m2⟩, cp4_end h3⟩
def MI (n0 n1 : Int) (ss : List Int) (l : List Ins) (cnt : Int) (c : Code) : Prop := n0 = c.1 ∧ n1 = c.2.1 ∧ ss = c.2.2.1 ∧ l = c.2.2.2.1.take l.length ∧ (l.length : Int) + cnt = c.2.2.2.1.length
theorem Fol.manyI {s : ByteArray} {a0 x n n0 n1 x' most : Int} {ok ok' : Bool} {ss : List Int} (h : Fol s a0 x ok (fun c => n0 = c.1 ∧ n1 = c.2.1 ∧ ss = c.2.2.1) cp5) (hn : NumP s x ok most n x' ok') (h2 : 300 ≤ most) : Fol s a0 x' ok' (MI n0 n1 ss [] n) (fun c => cp6 c ([] : List Ins).length) := by
  refine h.num hn (fun c => c.2.2.2.1.length) fun c hc hm => ?_
  obtain ⟨x0, x1, ss, is, rs⟩ := c
  obtain ⟨q0, q1, q2, q3, _⟩ := cbB_parts hc
  exact ⟨rfl, by simp only; omega, fun h => ⟨hm.1, hm.2.1, hm.2.2, by simp, by simp only [List.length_nil] at h ⊢; omega⟩⟩
def MJ (n0 n1 : Int) (ss : List Int) (l : List Ins) (cnt op : Int) (c : Code) : Prop := MI n0 n1 ss l cnt c ∧ (c.2.2.2.1.getD l.length (0, 0)).1 = op
theorem rdIns_at {is : List Ins} {k : Nat} (h : k < is.length) (ha : is.all insB = true) : is.getD k (0, 0) = is[k] ∧ insB is[k] = true := by
  refine ⟨by rw [List.getD_eq_getElem?_getD, List.getElem?_eq_getElem h]; rfl, List.all_eq_true.1 ha _ (List.getElem_mem h)⟩
theorem Fol.op {s : ByteArray} {a0 x n n0 n1 cnt x' most : Int} {ok ok' : Bool} {ss : List Int} {l : List Ins} (h : Fol s a0 x ok (MI n0 n1 ss l cnt) (fun c => cp6 c l.length)) (hc0 : 0 < cnt) (hn : NumP s x ok most n x' ok') (h2 : 18 ≤ most) :
    Fol s a0 x' ok' (MJ n0 n1 ss l cnt n) (fun c => cpI c l.length) := by
  refine h.num hn (fun c => (c.2.2.2.1.getD l.length (0, 0)).1.toNat) fun c hc hm => ?_
  obtain ⟨x0, x1, ss, is, rs⟩ := c
  obtain ⟨q0, q1, q2, q3, _, q5, _⟩ := cbB_parts hc
  have hm' := hm
  obtain ⟨m0, m1, m2, m3, m4⟩ := hm
  simp only at m3 m4 ⊢
  have hl : l.length < is.length := by omega
  obtain ⟨e1, e2⟩ := rdIns_at hl q5
  have h5 := ins_num e2
  refine ⟨cp6_at (c := (x0, x1, ss, is, rs)) hl, by rw [e1]; omega, fun h => ⟨hm', ?_⟩⟩
  simp only; rw [e1] at h ⊢; omega
theorem mi_snoc {n0 n1 cnt op n : Int} {ss : List Int} {l : List Ins} {c : Code} (hc : cbB c = true) (hc0 : 0 < cnt) (hm : MJ n0 n1 ss l cnt op c) (hn : n = (c.2.2.2.1.getD l.length (0, 0)).2) : MI n0 n1 ss (l ++ [(op, n)]) (cnt - 1) c := by
  obtain ⟨⟨m0, m1, m2, m3, m4⟩, m5⟩ := hm
  have hl : l.length < c.2.2.2.1.length := by omega
  refine ⟨m0, m1, m2, ?_, by simp only [List.length_append, List.length_singleton]; omega⟩
  simp only [List.length_append, List.length_singleton]
  rw [List.take_succ_eq_append_getElem hl, ← m3, hn, ← m5, show c.2.2.2.1.getD l.length (0, 0) = c.2.2.2.1[l.length] by rw [List.getD_eq_getElem?_getD, List.getElem?_eq_getElem hl]; rfl]
theorem Fol.insN {s : ByteArray} {a0 x n n0 n1 cnt op x' : Int} {ok ok' : Bool} {ss : List Int} {l : List Ins} (h : Fol s a0 x ok (MJ n0 n1 ss l cnt op) (fun c => cpI c l.length)) (hc0 : 0 < cnt) (ho : hasNB op = true) (hn : SgP s x ok n x' ok') :
    Fol s a0 x' ok' (MI n0 n1 ss (l ++ [(op, n)]) (cnt - 1)) (fun c => cp6 c (l ++ [(op, n)]).length) := by
  refine h.sg hn (fun c => (c.2.2.2.1.getD l.length (0, 0)).2) fun c hc hm => ?_
  refine ⟨?_, ?_, fun h => mi_snoc hc hc0 hm h⟩
  · unfold cpI; rw [hm.2, if_pos ho, List.length_append]; rfl
  · obtain ⟨x0, x1, ss, is, rs⟩ := c
    obtain ⟨q0, q1, q2, q3, _, q5, _⟩ := cbB_parts hc
    obtain ⟨⟨m0, m1, m2, m3, m4⟩, m5⟩ := hm
    simp only at m3 m4 ⊢
    have hl : l.length < is.length := by omega
    obtain ⟨e1, e2⟩ := rdIns_at hl q5
    have h5 := ins_num e2
    rw [e1]; unfold I64; omega
theorem Fol.insO {s : ByteArray} {a0 x n0 n1 cnt op : Int} {ok : Bool} {ss : List Int} {l : List Ins} (h : Fol s a0 x ok (MJ n0 n1 ss l cnt op) (fun c => cpI c l.length)) (hc0 : 0 < cnt) (ho : ok = true → hasNB op = false) :
    Fol s a0 x ok (MI n0 n1 ss (l ++ [(op, 0)]) (cnt - 1)) (fun c => cp6 c (l ++ [(op, 0)]).length) := by
  refine h.mono fun c hc hok hm => ⟨mi_snoc hc hc0 hm ?_, ?_⟩
  · have ho := ho hok
    obtain ⟨x0, x1, ss, is, rs⟩ := c
    obtain ⟨q0, q1, q2, q3, _, q5, _⟩ := cbB_parts hc
    obtain ⟨⟨m0, m1, m2, m3, m4⟩, m5⟩ := hm
    simp only at m3 m4 m5 ⊢
    have hl : l.length < is.length := by omega
    obtain ⟨e1, e2⟩ := rdIns_at hl q5
    rw [e1] at m5 ⊢
    unfold insB at e2
    rw [m5] at e2
    unfold hasNB at ho
    by_cases h1 : op = 1
    · rw [h1] at ho; simp at ho
    by_cases h4 : op = 4
    · rw [h4] at ho; simp at ho
    rw [if_neg h1, if_neg h4, if_neg (by unfold hasNB; rw [ho]; simp)] at e2
    simp only [Bool.and_eq_true, beq_iff_eq] at e2
    exact e2.2.symm
  · unfold cpI; rw [hm.2, if_neg (by rw [ho hok]; simp), List.length_append]; rfl
theorem Fol.inssEnd {s : ByteArray} {a0 x n0 n1 cnt : Int} {ok : Bool} {ss : List Int} {l : List Ins} (h : Fol s a0 x ok (MI n0 n1 ss l cnt) (fun c => cp6 c l.length)) (hc0 : ok = true → cnt ≤ 0) : Fol s a0 x ok (fun c => n0 = c.1 ∧ n1 = c.2.1 ∧ ss = c.2.2.1 ∧ l = c.2.2.2.1) cp7 := by
  refine h.mono fun c hc ho hm => ?_
  obtain ⟨m0, m1, m2, m3, m4⟩ := hm
  have h1 := hc0 ho
  have h2 := congrArg List.length m3
  rw [List.length_take] at h2
  have h3 : c.2.2.2.1.length ≤ l.length := by omega
  exact ⟨⟨m0, m1, m2, by rw [List.take_of_length_le h3] at m3; exact m3⟩, cp6_end h3⟩
/-- What reading rows tells, where there are many instructions. -/
def RowsP (s : ByteArray) (x : Int) (ok : Bool) (many : Int) (rs : List Row) (x' : Int) (ok' : Bool) : Prop :=
  (ok' = true → ok = true ∧ 0 ≤ x ∧ x < x' ∧ x' ≤ (s.size : Int) ∧ s.size ≤ 2000) ∧ ∀ (r : List Row) (l : List UInt8) (e : Nat), r.length ≤ 300 → many ≤ 300 → rowsB r many = true → Tg s x (rwsB r ++ l) e → ok = true → rs = r ∧ ok' = true ∧ Tg s x' l e
/-- Which code stands at a place, and the place behind it. -/
def isAt (s : ByteArray) (x : Int) (c : Code) (e : Nat) : Prop := cbB c = true ∧ Tg s x (cbL c) e
open Classical in
noncomputable def rcR (s : ByteArray) (x : Int) : Code × Int × Bool := if h : ∃ ce : Code × Nat, isAt s x ce.1 ce.2 then ((Classical.choose h).1, ((Classical.choose h).2 : Int), true) else ((0, 0, [], [], []), 0, false)
theorem rcR_no {s : ByteArray} {x : Int} (h : ∀ c e, ¬ isAt s x c e) : rcR s x = ((0, 0, [], [], []), 0, false) := by
  unfold rcR; rw [dif_neg (fun ⟨ce, hc⟩ => h _ _ hc)]
theorem rcR_yes {s : ByteArray} {x : Int} {c : Code} {e : Nat} (h : isAt s x c e) (hu : ∀ c' e', isAt s x c' e' → c' = c ∧ e' = e) : rcR s x = (c, (e : Int), true) := by
  have hx : ∃ ce : Code × Nat, isAt s x ce.1 ce.2 := ⟨(c, e), h⟩
  unfold rcR; rw [dif_pos hx]
  obtain ⟨h1, h2⟩ := hu _ _ (Classical.choose_spec hx)
  rw [h1, h2]
/-- All has been read: what is left is to compare with the code's own bytes. -/
theorem Fol.rows {s : ByteArray} {a0 x n0 n1 x' many : Int} {ok ok' : Bool} {ss : List Int} {is : List Ins} {rs : List Row} (h : Fol s a0 x ok (fun c => n0 = c.1 ∧ n1 = c.2.1 ∧ ss = c.2.2.1 ∧ is = c.2.2.2.1) cp7) (hn : RowsP s x ok many rs x' ok') (hM : ok = true → many = is.length) :
    Fol s a0 x' ok' (fun c => (n0, n1, ss, is, rs) = c) (fun _ => []) := by
  refine ⟨fun h1 => ?_, fun c e hc ht => ?_⟩
  · obtain ⟨h2, h3, h4, h5⟩ := hn.1 h1
    have := h.1 h2
    omega
  · obtain ⟨h1, ⟨m0, m1, m2, m3⟩, h3⟩ := h.2 c e hc ht
    have hM := hM h1
    obtain ⟨x0, x1, ss', is', rs'⟩ := c
    simp only at m0 m1 m2 m3
    subst m0 m1 m2 m3
    obtain ⟨q0, q1, q2, q3, q4, q5, q6, q7⟩ := cbB_parts hc
    unfold cp7 at h3
    simp only at h3
    rw [← List.append_nil (rwsB rs')] at h3
    rw [← hM] at q6
    obtain ⟨h7, h8, h9⟩ := hn.2 _ _ _ q4 (by omega) q6 h3 h1
    subst h7
    exact ⟨h8, rfl, h9⟩
theorem Fol.dead {s : ByteArray} {a0 x : Int} {M : Code → Prop} {rem : Code → List UInt8} (h : Fol s a0 x false M rem) : rcR s a0 = ((0, 0, [], [], []), 0, false) :=
  rcR_no fun c e hc => by have := (h.2 c e hc.1 hc.2).1; simp at this
theorem Fol.wrong {s : ByteArray} {a0 x : Int} {ok : Bool} {c : Code} (h : Fol s a0 x ok (fun d => c = d) (fun _ => [])) (hw : cbB c = true → ∀ (a : Nat), a0 = (a : Int) → (s.data.toList.drop a).take (x.toNat - a) = cbL c → False) : rcR s a0 = ((0, 0, [], [], []), 0, false) :=
  rcR_no fun d e hd => by
    obtain ⟨h1, rfl, t, ht, hz, h2, h3⟩ := h.2 d e hd.1 hd.2
    obtain ⟨a, ha, _, h5, h6⟩ := hd.2
    simp only [List.length_nil, Nat.add_zero] at h3
    refine hw hd.1 a ha ?_
    have h7 := stt_eq h5
    rw [ht, Int.toNat_natCast, show t - a = (cbL c).length by omega]
    exact h7
theorem Fol.right {s : ByteArray} {a0 x : Int} {c : Code} {a t : Nat} (h : Fol s a0 x true (fun d => c = d) (fun _ => [])) (hc : cbB c = true) (hz : s.size ≤ 2000) (ha : a0 = (a : Int)) (ht : x = (t : Int)) (hat : a ≤ t) (hts : t ≤ s.size) (hl : (s.data.toList.drop a).take (t - a) = cbL c) : rcR s a0 = (c, x, true) := by
  rw [ht]
  have h1 := stt_take (s := s) (a := a) (k := t - a) (by omega)
  refine rcR_yes ⟨hc, a, ha, hz, ?_, ?_⟩ fun d e hd => ?_
  · rw [← hl]; exact h1.1
  · rw [← hl, h1.2]; omega
  · obtain ⟨_, h2, t', h3, _, _, h5⟩ := h.2 d e hd.1 hd.2
    simp only [List.length_nil, Nat.add_zero] at h5
    exact ⟨h2.symm, by omega⟩
end Go.Proofs.YtgoinmdnpaknpaaGreat
