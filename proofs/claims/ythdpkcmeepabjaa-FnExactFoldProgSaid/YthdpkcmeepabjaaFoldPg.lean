/- A program with folded expressions: plain law. -/
import Derived.Test.YthdpkcmeepabjaaFoldE
import Derived.Test.YthdpkcmeepabjaaLowA
set_option linter.unusedVariables false
set_option linter.unusedSimpArgs false
namespace Go.Proofs.Ythdpkcmeepabjaa
open Go.RowKit
def foldSt (s : Stmt) : Stmt := (s.1, s.2.1, foldF s.2.2.1, s.2.2.2.1, s.2.2.2.2)
def foldFu (f : Func) : Func := (f.1, f.2.1, f.2.2.1, f.2.2.2.map foldSt)
def foldPg (fs : List Func) : List Func := if goodP fs = true then fs.map foldFu else []
theorem foldPg_yes {fs : List Func} (h : goodP fs = true) : foldPg fs = fs.map foldFu := if_pos h
theorem foldPg_no {fs : List Func} (h : goodP fs = false) : foldPg fs = [] := if_neg (by simp [h])
theorem sum_map_le {α : Type} {f g : α → Nat} : ∀ (l : List α), (∀ x, x ∈ l → f x ≤ g x) → (l.map f).sum ≤ (l.map g).sum
  | [], _ => by simp
  | x :: l, h => by
    have h1 := sum_map_le l (fun y hy => h y (List.mem_cons_of_mem _ hy))
    have h2 := h x (List.mem_cons_self ..)
    simp only [List.map_cons, List.sum_cons]; omega
theorem foldSt_sz (s : Stmt) : mszStmt (foldSt s) ≤ mszStmt s := by
  have := foldF_len s.2.2.1
  unfold mszStmt foldSt
  simp only; omega
theorem foldFu_sz (f : Func) : mszFunc (foldFu f) ≤ mszFunc f := by
  have h := sum_map_le (f := fun s => mszStmt (foldSt s)) (g := mszStmt) f.2.2.2 (fun s _ => foldSt_sz s)
  unfold mszFunc foldFu mszLStmt
  simp only [List.length_map, List.map_map]
  have e : (mszStmt ∘ foldSt) = fun s => mszStmt (foldSt s) := rfl
  rw [e]; omega
theorem foldPg_sz (fs : List Func) : mszLFunc (foldPg fs) ≤ mszLFunc fs := by
  unfold foldPg
  split
  · have h := sum_map_le (f := fun s => mszFunc (foldFu s)) (g := mszFunc) fs (fun s _ => foldFu_sz s)
    unfold mszLFunc
    simp only [List.length_map, List.map_map]
    have e : (mszFunc ∘ foldFu) = fun s => mszFunc (foldFu s) := rfl
    rw [e]; omega
  · simp [mszLFunc]
theorem good_ex {fs : List Func} (h : goodP fs = true) {f : Func} (hf : f ∈ fs) {s : Stmt} (hs : s ∈ f.2.2.2) (hi : ∀ t, t ∈ s.2.2.1 → okIns t) : smT s.2.2.1 ∧ s.2.2.1.length ≤ 12 := by
  refine ⟨?_, ?_⟩
  · unfold goodP at h
    simp only [Bool.and_eq_true] at h
    have h4 := List.all_eq_true.1 h.2 f hf
    unfold funcOkI at h4
    simp only [Bool.and_eq_true] at h4
    have h5 := List.all_eq_true.1 h4.2 s hs
    unfold stmtOkI at h5
    simp only [Bool.and_eq_true] at h5
    have h6 := h5.2
    have hnil : (s.2.2.1.length == 0) = true → smT s.2.2.1 := by
      intro he
      have : s.2.2.1 = [] := List.eq_nil_of_length_eq_zero (by simpa using he)
      rw [this]; intro t ht; cases ht
    unfold stmtI at h6
    split at h6
    · cases h6
    · split at h6
      · simp only [Bool.and_eq_true] at h6; exact hnil h6.1
      · split at h6
        · simp only [Bool.and_eq_true] at h6; exact hnil h6.1
        · split at h6
          · simp only [Bool.and_eq_true, decide_eq_true_eq] at h6; exact high_sm h6.2 hi
          · simp only [Bool.and_eq_true, decide_eq_true_eq] at h6; exact high_sm h6.2 hi
  · exact ((goodP_low h).2 f hf).ok s hs |>.2.2.1
theorem take_mapg_succ {α β : Type} (g : α → β) {l : List α} {k : Nat} {x : α} (hk : k < l.length) (h : l[k] = x) : (l.take (k + 1)).map g = (l.take k).map g ++ [g x] := by rw [List.take_succ_eq_append_getElem hk, List.map_append, h]; rfl
/-- What a loop that puts g of each element in its place has made after k rounds. -/
def mapK {α : Type} (g : α → α) (l : List α) (k : Nat) : List α := (l.take k).map g ++ l.drop k
section
variable {α : Type} {g : α → α} {l : List α}
theorem mapK_len (k : Nat) (hk : k ≤ l.length) : (mapK g l k).length = l.length := by unfold mapK; simp; omega
theorem mapK_0 : mapK g l 0 = l := by simp [mapK]
theorem mapK_all {n : Nat} (hn : l.length ≤ n) : mapK g l n = l.map g := by simp [mapK, List.take_of_length_le hn, List.drop_of_length_le hn]
theorem mapK_at {k : Nat} (hk : k < l.length) : (mapK g l k)[k]'(by rw [mapK_len k (by omega)]; exact hk) = l[k] := by
  unfold mapK
  rw [List.getElem_append_right (by simp; omega)]
  simp [Nat.min_eq_left (Nat.le_of_lt hk)]
theorem mapK_set {k : Nat} (hk : k < l.length) {i : α} (hi : i = g l[k]) : (mapK g l k).set k i = mapK g l (k + 1) := by
  subst hi
  unfold mapK
  rw [List.set_append_right _ _ (by simp; omega)]
  simp only [List.length_map, List.length_take, Nat.min_eq_left (Nat.le_of_lt hk), Nat.sub_self]
  rw [List.drop_eq_getElem_cons hk, List.set_cons_zero, List.take_succ_eq_append_getElem hk, List.map_append]
  simp
end
end Go.Proofs.Ythdpkcmeepabjaa
