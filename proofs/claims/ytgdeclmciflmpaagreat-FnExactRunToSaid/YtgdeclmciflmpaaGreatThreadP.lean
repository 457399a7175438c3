/- Letting what leads to a jump lead where that leads: plain law. -/
import Derived.Test.YtgdeclmciflmpaaGreatCheckP
set_option linter.unusedVariables false
set_option linter.unusedSimpArgs false
namespace Go.Proofs.YtgdeclmciflmpaaGreat
open Go.RowKit
def insAt (I : List Ins) (n : Int) : Ins := I.getD n.toNat (0, 0)
def thrN (I : List Ins) : Nat → Int → Int
  | 0, n => n
  | k + 1, n => if (insAt I n).1 = 10 then thrN I k (insAt I n).2 else n
def isJ (op : Int) : Bool := op == 10 || op == 11
def thrI (I : List Ins) (i : Ins) : Ins := if isJ i.1 = true then (i.1, thrN I 300 i.2) else i
def threadF (c : Code) : Code := (c.1, c.2.1, c.2.2.1, c.2.2.2.1.map (thrI c.2.2.2.1), c.2.2.2.2)
def thrB (c : Code) : Bool := codeSz c && goesB c.2.2.2.1
def noCode : Code := (0, 0, [], [], [])
noncomputable def threadR (c : Code) : Code := if thrB c = true then threadF c else noCode
section
variable {I : List Ins}
theorem insAt_eq {k : Nat} (hk : k < I.length) : insAt I (k : Int) = I[k] := by unfold insAt; simp [List.getD, hk]
theorem jump_in (hg : goesB I = true) {k : Nat} (hk : k < I.length) (hj : isJ I[k].1 = true) : 0 ≤ I[k].2 ∧ I[k].2 < (I.length : Int) := by
  unfold goesB at hg
  have h := List.all_eq_true.1 hg k (List.mem_range.2 hk)
  unfold goesI at h
  rw [show I.getD k (0, 0) = I[k] by simp [List.getD, hk]] at h
  have hm : I[k].2 ∈ nextF I[k] (k : Int) := by
    unfold isJ at hj
    unfold nextF
    simp at hj
    rcases hj with hj | hj
    · rw [if_pos hj]; simp
    · rw [if_neg (by omega), if_pos hj]
      split
      · simp
      · split
        · simp; omega
        · simp
  have := inB_iff.1 (List.all_eq_true.1 h _ hm)
  omega
theorem thrN_stop {k : Nat} {n : Int} (h : ¬ (insAt I n).1 = 10) : thrN I k n = n := by
  cases k with
  | zero => rfl
  | succ k => unfold thrN; rw [if_neg h]
theorem thrN_step {k : Nat} {n : Int} (h : (insAt I n).1 = 10) : thrN I (k + 1) n = thrN I k (insAt I n).2 := by
  conv => lhs; unfold thrN
  rw [if_pos h]
theorem thrN_in (hg : goesB I = true) (k : Nat) : ∀ n : Int, 0 ≤ n ∧ n < (I.length : Int) → 0 ≤ thrN I k n ∧ thrN I k n < (I.length : Int) := by
  induction k with
  | zero => intro n hn; exact hn
  | succ k ih =>
    intro n hn
    unfold thrN
    split
    · rename_i h
      apply ih
      obtain ⟨m, rfl⟩ : ∃ m : Nat, n = (m : Int) := ⟨n.toNat, by omega⟩
      have hm : m < I.length := by omega
      rw [insAt_eq hm] at h ⊢
      exact jump_in hg hm (by unfold isJ; simp [h])
    · exact hn
/-- What the outer loop has made after k rounds. -/
def thrK (I : List Ins) (k : Nat) : List Ins := (I.take k).map (thrI I) ++ I.drop k
theorem thrK_len (k : Nat) (hk : k ≤ I.length) : (thrK I k).length = I.length := by unfold thrK; simp; omega
theorem thrK_0 : thrK I 0 = I := by simp [thrK]
theorem thrK_all : thrK I I.length = I.map (thrI I) := by simp [thrK]
theorem thrK_at {k : Nat} (hk : k < I.length) : (thrK I k)[k]'(by rw [thrK_len k (by omega)]; exact hk) = I[k] := by
  unfold thrK
  rw [List.getElem_append_right (by simp; omega)]
  simp [Nat.min_eq_left (Nat.le_of_lt hk)]
theorem thrK_set {k : Nat} (hk : k < I.length) {i : Ins} (hi : i = thrI I I[k]) : (thrK I k).set k i = thrK I (k + 1) := by
  subst hi
  unfold thrK
  rw [List.set_append_right _ _ (by simp; omega)]
  simp only [List.length_map, List.length_take, Nat.min_eq_left (Nat.le_of_lt hk), Nat.sub_self]
  rw [List.drop_eq_getElem_cons hk, List.set_cons_zero, List.take_succ_eq_append_getElem hk, List.map_append]
  simp
theorem thrK_skip {k : Nat} (hk : k < I.length) (h : isJ I[k].1 = false) : thrK I (k + 1) = thrK I k := by
  rw [← thrK_set hk (i := I[k]) (by unfold thrI; rw [if_neg (by simp [h])])]
  have e := List.set_getElem_self (show k < (thrK I k).length by rw [thrK_len k (by omega)]; exact hk)
  rw [thrK_at hk] at e
  exact e
theorem thrI_ok (hg : goesB I = true) (hl : I.length ≤ 1048576) {i : Ins} (hm : i ∈ I) (hi : I64 i.1 ∧ I64 i.2) : I64 (thrI I i).1 ∧ I64 (thrI I i).2 := by
  unfold thrI
  split
  · rename_i h
    obtain ⟨k, hk, rfl⟩ := List.getElem_of_mem hm
    have := thrN_in hg 300 _ (jump_in hg hk h)
    exact ⟨hi.1, by unfold I64; simp only; omega⟩
  · exact hi
theorem codeSz_len {c : Code} (h : codeSz c = true) : c.2.2.1.length ≤ 4 ∧ (1 ≤ c.2.2.2.1.length ∧ c.2.2.2.1.length ≤ 300) ∧ c.2.2.2.2.length ≤ 300 ∧ c.2.2.2.1.all insB = true := by
  unfold codeSz at h
  simp only [Bool.and_eq_true, decide_eq_true_eq] at h
  obtain ⟨⟨⟨⟨⟨h1, h2⟩, h3⟩, h4⟩, h5⟩, h6⟩ := h
  have := inB_iff.1 h4
  exact ⟨h3, by omega, h5, h6⟩
theorem threadR_yes {c : Code} (h : thrB c = true) : threadR c = threadF c := by unfold threadR; rw [if_pos h]
theorem threadR_no {c : Code} (h : thrB c = false) : threadR c = noCode := by unfold threadR; rw [if_neg (by simp [h])]
theorem thr_sz (c : Code) : (threadR c).2.2.1.length + (threadR c).2.2.2.1.length + (threadR c).2.2.2.2.length ≤ 1000 := by
  cases h : thrB c
  · rw [threadR_no h]; simp [noCode]
  · rw [threadR_yes h]
    unfold thrB at h
    rw [Bool.and_eq_true] at h
    have := codeSz_len h.1
    unfold threadF
    simp only [List.length_map]
    omega
end
end Go.Proofs.YtgdeclmciflmpaaGreat
