/- A good program, said in two ways. Plain law. -/
import Derived.Test.YtgagbbhnifkclaaStmts
set_option linter.unusedVariables false
set_option linter.unusedSimpArgs false
namespace Go.Proofs.Ytgagbbhnifkclaa
open Go.RowKit

theorem stmt_same {fv : Int} {ps : List Int} {k n : Int} {ex : List Tok} {np nx nt ne : Nat} (hv : inB fv 0 6 = true) (hp : parB ps = true) :
    (stmtS fv ps k n ex np nx nt ne && (!decide (k = 3) || ps.getD n.toNat 0 == 0)) = (decide (0 ≤ n) && stmtI fv ps k n ex np nx nt ne) := by
  have hg : goodE ex fv ps = decide (0 < highF ex fv ps) := by simp [goodE, hv, hp]
  unfold stmtS stmtI
  rw [hg]
  generalize decide (0 < highF ex fv ps) = g
  generalize ps.getD n.toNat 0 = p
  by_cases hk : inB k 1 9 = true
  · have hk2 := inB_iff.1 hk
    have hk3 : k = 1 ∨ k = 2 ∨ k = 3 ∨ k = 4 ∨ k = 5 ∨ k = 6 ∨ k = 7 ∨ k = 8 ∨ k = 9 := by omega
    rcases hk3 with rfl | rfl | rfl | rfl | rfl | rfl | rfl | rfl | rfl
    all_goals
      simp only [hk]
      rw [Bool.eq_iff_iff]
      cases g <;> simp [inB]
      all_goals (try omega)
  · have hk : inB k 1 9 = false := by simpa using hk
    have hk2 : ¬ (1 ≤ k ∧ k ≤ 9) := fun h => by rw [inB_true h] at hk; cases hk
    rw [if_neg (by omega), if_neg (by omega), if_neg (by omega), if_neg (by omega), if_neg (by omega), if_neg (by omega), if_pos (Or.inl hk)]
    simp
end Go.Proofs.Ytgagbbhnifkclaa
