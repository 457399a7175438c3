/- The order of the statements of a function, block by block. Plain law. -/
import Derived.Test.YtgagbbhnifkclaaStmts
set_option linter.unusedVariables false
set_option linter.unusedSimpArgs false
namespace Go.Proofs.Ytgagbbhnifkclaa
open Go.RowKit

def thenOf (ss : List Stmt) (n : Int) : List Int := (ss[n.toNat]?.map fun s => s.2.2.2.1).getD []
def elseOf (ss : List Stmt) (n : Int) : List Int := (ss[n.toNat]?.map fun s => s.2.2.2.2).getD []
/-- The statements of a block, each followed by those in it (with so much fuel). -/
def ordF (ss : List Stmt) : Nat → List Int → List Int
  | 0, _ => []
  | f + 1, b => b.flatMap fun n => n :: (ordF ss f (thenOf ss n) ++ ordF ss f (elseOf ss n))
def okB (ss : List Stmt) (lo : Nat) (b : List Int) : Prop := ∀ n, n ∈ b → (lo : Int) ≤ n ∧ n < (ss.length : Int)
def okAll (ss : List Stmt) : Prop := ∀ i, i < ss.length → okB ss (i + 1) (thenOf ss i) ∧ okB ss (i + 1) (elseOf ss i)
theorem okB.mono {ss : List Stmt} {lo lo' : Nat} {b : List Int} (h : okB ss lo b) (hl : lo' ≤ lo) : okB ss lo' b := fun n hn => by have := h n hn; omega
theorem ordF_append (ss : List Stmt) (f : Nat) (a b : List Int) : ordF ss f (a ++ b) = ordF ss f a ++ ordF ss f b := by
  cases f with
  | zero => rfl
  | succ f => simp [ordF, List.flatMap_append]
theorem ordF_nil (ss : List Stmt) (f : Nat) : ordF ss f [] = [] := by cases f <;> rfl
theorem ordF_cons (ss : List Stmt) (f : Nat) (n : Int) (b : List Int) : ordF ss (f + 1) (n :: b) = n :: (ordF ss f (thenOf ss n) ++ (ordF ss f (elseOf ss n) ++ ordF ss (f + 1) b)) := by
  simp [ordF, List.flatMap_cons, List.append_assoc]
theorem ordF_succ (ss : List Stmt) (f : Nat) (b : List Int) (k : Nat) (hk : k < b.length) : ordF ss (f + 1) (b.take (k + 1)) = ordF ss (f + 1) (b.take k) ++ ([b[k]] ++ (ordF ss f (thenOf ss b[k]) ++ ordF ss f (elseOf ss b[k]))) := by
  rw [List.take_succ_eq_append_getElem hk, ordF_append, ordF_cons, ordF_nil]; simp
/-- Less fuel is enough, where nothing lies so deep. -/
theorem ordF_fuel {ss : List Stmt} (ha : okAll ss) : ∀ (f g lo : Nat) (b : List Int), okB ss lo b → ss.length ≤ lo + f → ss.length ≤ lo + g → ordF ss f b = ordF ss g b := by
  intro f
  induction f with
  | zero =>
    intro g lo b hb hf hg
    have : b = [] := by
      rcases b with _ | ⟨n, b⟩
      · rfl
      · have := hb n (List.mem_cons_self ..); omega
    subst this
    rw [ordF_nil, ordF_nil]
  | succ f ih =>
    intro g lo b hb hf hg
    induction b with
    | nil => rw [ordF_nil, ordF_nil]
    | cons n b ihb =>
      have hn := hb n (List.mem_cons_self ..)
      cases g with
      | zero => omega
      | succ g =>
        have hn2 : n = ((n.toNat : Nat) : Int) := by omega
        obtain ⟨a1, a2⟩ := ha n.toNat (by omega)
        rw [← hn2] at a1 a2
        rw [ordF_cons, ordF_cons, ih g (n.toNat + 1) _ a1 (by omega) (by omega), ih g (n.toNat + 1) _ a2 (by omega) (by omega), ihb (fun m hm => hb m (List.mem_cons_of_mem _ hm))]
theorem ordF_mem {ss : List Stmt} (ha : okAll ss) : ∀ (f lo : Nat) (b : List Int), okB ss lo b → okB ss lo (ordF ss f b) := by
  intro f
  induction f with
  | zero => intro lo b _ n hn; simp [ordF] at hn
  | succ f ih =>
    intro lo b hb
    induction b with
    | nil => intro n hn; rw [ordF_nil] at hn; simp at hn
    | cons n b ihb =>
      have hn := hb n (List.mem_cons_self ..)
      have hn2 : n = ((n.toNat : Nat) : Int) := by omega
      obtain ⟨a1, a2⟩ := ha n.toNat (by omega)
      rw [← hn2] at a1 a2
      intro m hm
      rw [ordF_cons] at hm
      rcases List.mem_cons.1 hm with rfl | hm
      · exact hn
      rcases List.mem_append.1 hm with hm | hm
      · exact (ih _ _ a1).mono (by omega) m hm
      rcases List.mem_append.1 hm with hm | hm
      · exact (ih _ _ a2).mono (by omega) m hm
      · exact ihb (fun m hm => hb m (List.mem_cons_of_mem _ hm)) m hm
/-- How many numbers the blocks of the statements from one on hold. -/
def cntB (ss : List Stmt) (lo : Nat) : Nat := ((ss.drop lo).map fun s => s.2.2.2.1.length + s.2.2.2.2.length).sum
theorem cntB_at (ss : List Stmt) (i : Nat) (h : i < ss.length) : cntB ss i = (thenOf ss i).length + (elseOf ss i).length + cntB ss (i + 1) := by
  unfold cntB thenOf elseOf
  rw [List.drop_eq_getElem_cons h]
  simp only [List.map_cons, List.sum_cons, Int.toNat_natCast, List.getElem?_eq_getElem h, Option.map_some, Option.getD_some]
theorem cntB_le (ss : List Stmt) (d i : Nat) : cntB ss (i + d) ≤ cntB ss i := by
  induction d with
  | zero => exact Nat.le_refl _
  | succ d ih =>
    by_cases h : i + d < ss.length
    · have := cntB_at ss (i + d) h; rw [show i + (d + 1) = i + d + 1 by omega]; omega
    · have : cntB ss (i + (d + 1)) = 0 := by unfold cntB; rw [List.drop_eq_nil_of_le (by omega)]; rfl
      omega
theorem cntB_mono (ss : List Stmt) {i j : Nat} (h : i ≤ j) : cntB ss j ≤ cntB ss i := by
  have := cntB_le ss (j - i) i; rwa [show i + (j - i) = j by omega] at this
theorem ordF_len {ss : List Stmt} (ha : okAll ss) : ∀ (f lo : Nat) (b : List Int), okB ss lo b → (ordF ss f b).length + 1 ≤ 2 ^ (b.length + cntB ss lo) := by
  intro f
  induction f with
  | zero => intro lo b _; simp [ordF]; exact Nat.one_le_two_pow
  | succ f ih =>
    intro lo b hb
    induction b with
    | nil => rw [ordF_nil]; simp; exact Nat.one_le_two_pow
    | cons n b ihb =>
      have hn := hb n (List.mem_cons_self ..)
      have hn2 : n = ((n.toNat : Nat) : Int) := by omega
      obtain ⟨a1, a2⟩ := ha n.toNat (by omega)
      have hc := cntB_at ss n.toNat (by omega)
      rw [← hn2] at a1 a2 hc
      have h1 := ih (n.toNat + 1) (thenOf ss n ++ elseOf ss n) (fun m hm => by rcases List.mem_append.1 hm with h | h; exact a1 m h; exact a2 m h)
      rw [ordF_append, List.length_append, List.length_append, ← hc] at h1
      have h2 : (2 : Nat) ^ cntB ss n.toNat ≤ 2 ^ (b.length + cntB ss lo) := Nat.pow_le_pow_right (by omega) (by have := cntB_mono ss (i := lo) (j := n.toNat) (by omega); omega)
      have h3 := ihb (fun m hm => hb m (List.mem_cons_of_mem _ hm))
      rw [ordF_cons]
      have h4 : (2 : Nat) ^ ((n :: b).length + cntB ss lo) = 2 ^ (b.length + cntB ss lo) + 2 ^ (b.length + cntB ss lo) := by
        rw [show (n :: b).length + cntB ss lo = (b.length + cntB ss lo) + 1 by simp; omega, Nat.pow_succ]; omega
      rw [h4]
      simp only [List.length_cons, List.length_append]
      omega
theorem ordF_take_le (ss : List Stmt) (f k : Nat) (b : List Int) : (ordF ss f (b.take k)).length ≤ (ordF ss f b).length := by
  have : ordF ss f b = ordF ss f (b.take k) ++ ordF ss f (b.drop k) := by rw [← ordF_append, List.take_append_drop]
  rw [this]; simp
end Go.Proofs.Ytgagbbhnifkclaa
