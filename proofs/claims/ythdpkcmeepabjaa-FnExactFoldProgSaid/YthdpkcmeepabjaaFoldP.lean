/- Folding an expression: plain law. -/
import Derived.Test.YthdpkcmeepabjaaReck
import Derived.Test.YthdpkcmeepabjaaTyPg
import Derived.Test.YthdpkcmeepabjaaLowA
set_option linter.unusedVariables false
set_option linter.unusedSimpArgs false
namespace Go.Proofs.Ythdpkcmeepabjaa
open Go.RowKit
def canF (a b c : Tok) : Bool := a.1 == 1 && b.1 == 1 && inB c.1 3 8 && recB c.1 b.2
def fold3 (a b c : Tok) : Tok := (1, recN c.1 a.2 b.2)
def foldOnce : List Tok → Option (List Tok)
  | a :: b :: c :: r => if canF a b c = true then some (fold3 a b c :: r) else (foldOnce (b :: c :: r)).map (a :: ·)
  | [] => none
  | [_] => none
  | [_, _] => none
theorem foldOnce_len : ∀ {l l' : List Tok}, foldOnce l = some l' → l'.length + 2 = l.length
  | a :: b :: c :: r, l', h => by
    unfold foldOnce at h
    split at h
    · injection h with h; subst h; simp
    · cases e : foldOnce (b :: c :: r) with
      | none => rw [e] at h; simp at h
      | some x =>
        rw [e] at h
        simp at h
        subst h
        have := foldOnce_len e
        simp at this ⊢
        omega
  | [], _, h => by simp [foldOnce] at h
  | [_], _, h => by simp [foldOnce] at h
  | [_, _], _, h => by simp [foldOnce] at h
def foldAll : Nat → List Tok → List Tok
  | 0, l => l
  | f + 1, l => match foldOnce l with | none => l | some l' => foldAll f l'
theorem foldAll_more : ∀ (f f' : Nat) (l : List Tok), l.length ≤ f → l.length ≤ f' → foldAll f l = foldAll f' l
  | 0, f', l, h, _ => by
    obtain rfl : l = [] := List.eq_nil_of_length_eq_zero (by omega)
    cases f' <;> simp [foldAll, foldOnce]
  | f + 1, 0, l, _, h => by
    obtain rfl : l = [] := List.eq_nil_of_length_eq_zero (by omega)
    simp [foldAll, foldOnce]
  | f + 1, f' + 1, l, h1, h2 => by
    unfold foldAll
    cases e : foldOnce l with
    | none => rfl
    | some l' =>
      have := foldOnce_len e
      exact foldAll_more f f' l' (by omega) (by omega)
def foldF (l : List Tok) : List Tok := foldAll l.length l
theorem foldF_step {l l' : List Tok} (h : foldOnce l = some l') : foldF l = foldF l' := by
  have := foldOnce_len h
  unfold foldF
  obtain ⟨n, hn⟩ : ∃ n, l.length = n + 1 := ⟨l.length - 1, by omega⟩
  rw [hn]
  show (match foldOnce l with | none => l | some l' => foldAll n l') = _
  rw [h]
  exact foldAll_more n _ l' (by omega) (Nat.le_refl _)
theorem foldF_stop {l : List Tok} (h : foldOnce l = none) : foldF l = l := by
  unfold foldF
  cases hn : l.length with
  | zero => rfl
  | succ n =>
    show (match foldOnce l with | none => l | some l' => foldAll n l') = _
    rw [h]
def canAt (l : List Tok) (k : Nat) : Bool := decide (k + 2 < l.length) && canF (l.getD k (0, 0)) (l.getD (k + 1) (0, 0)) (l.getD (k + 2) (0, 0))
theorem canAt_of {l : List Tok} {k : Nat} (h : k + 2 < l.length) : canAt l k = canF (l[k]'(by omega)) (l[k + 1]'(by omega)) (l[k + 2]'h) := by
  unfold canAt
  simp only [List.getD]
  rw [List.getElem?_eq_getElem (by omega), List.getElem?_eq_getElem (by omega), List.getElem?_eq_getElem h]
  simp [h]
theorem canAt_succ (a : Tok) (l : List Tok) (k : Nat) : canAt (a :: l) (k + 1) = canAt l k := by
  unfold canAt
  have e : decide (k + 1 + 2 < (a :: l).length) = decide (k + 2 < l.length) := by rw [decide_eq_decide]; simp; omega
  rw [e]
  simp [List.getD]
theorem foldOnce_at : ∀ {k : Nat} {l : List Tok} (h : k + 2 < l.length), (∀ j, j < k → canAt l j = false) → canAt l k = true → foldOnce l = some (l.take k ++ (fold3 (l[k]'(by omega)) (l[k + 1]'(by omega)) (l[k + 2]'h) :: l.drop (k + 3)))
  | 0, a :: b :: c :: r, h, _, hc => by
    rw [canAt_of h] at hc
    unfold foldOnce
    rw [if_pos (show canF a b c = true from hc)]
    simp
  | k + 1, a :: b :: c :: r, h, hn, hc => by
    have h0 := hn 0 (by omega)
    rw [canAt_of (by simp)] at h0
    unfold foldOnce
    rw [if_neg (by simpa using h0)]
    rw [foldOnce_at (k := k) (l := b :: c :: r) (by simp at h ⊢; omega) (fun j hj => by rw [← canAt_succ a]; exact hn (j + 1) (by omega)) (by rw [← canAt_succ a]; exact hc)]
    simp
  | _, [], h, _, _ => by simp at h
  | _, [_], h, _, _ => by simp at h
  | _, [_, _], h, _, _ => absurd h (by simp)
theorem foldOnce_none : ∀ {l : List Tok}, (∀ k, k + 2 < l.length → canAt l k = false) → foldOnce l = none
  | [], _ => rfl
  | [_], _ => rfl
  | [_, _], _ => rfl
  | a :: b :: c :: r, h => by
    have h0 := h 0 (by simp)
    rw [canAt_of (by simp)] at h0
    unfold foldOnce
    rw [if_neg (by simpa using h0), foldOnce_none (l := b :: c :: r) (fun k hk => by rw [← canAt_succ a]; exact h (k + 1) (by simp at hk ⊢; omega))]
    rfl
/-- Numbers are small, all is within an int. -/
def smT (l : List Tok) : Prop := ∀ t, t ∈ l → I64 t.1 ∧ I64 t.2 ∧ (t.1 = 1 → I32 t.2)
theorem smT_fold {l : List Tok} {k : Nat} {a b c : Tok} (h : smT l) : smT (l.take k ++ (fold3 a b c :: l.drop (k + 3))) := by
  intro t ht
  rcases List.mem_append.1 ht with ht | ht
  · exact h t (List.mem_of_mem_take ht)
  · rcases List.mem_cons.1 ht with rfl | ht
    · have := recN_small c.1 a.2 b.2
      unfold fold3
      unfold I32 at this
      exact ⟨by unfold I64; simp, by unfold I64; simp only; omega, fun _ => recN_small ..⟩
    · exact h t (List.mem_of_mem_drop ht)
theorem smT_ok {l : List Tok} (h : smT l) : ∀ t, t ∈ l → okIns t := fun t ht => ⟨(h t ht).1, (h t ht).2.1⟩
theorem foldF_le : ∀ (f : Nat) (l : List Tok), l.length ≤ f → (foldAll f l).length ≤ l.length
  | 0, l, _ => Nat.le_refl _
  | f + 1, l, h => by
    unfold foldAll
    cases e : foldOnce l with
    | none => exact Nat.le_refl _
    | some l' =>
      have h1 := foldOnce_len e
      have := foldF_le f l' (by omega)
      show (foldAll f l').length ≤ _
      omega
theorem foldF_len (l : List Tok) : (foldF l).length ≤ l.length := foldF_le _ l (Nat.le_refl _)
end Go.Proofs.Ythdpkcmeepabjaa
