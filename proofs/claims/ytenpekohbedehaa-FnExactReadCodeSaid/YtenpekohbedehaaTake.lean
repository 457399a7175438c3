/- How many numbers an instruction takes and puts: walks of both sides. -/
import Derived.Test.YtenpekohbedehaaCheckP
import Derived.Deep.QuietTactic
import Derived.BigQuiet
set_option linter.unusedVariables false
set_option linter.unusedSimpArgs false
set_option maxRecDepth 100000
namespace Go.Proofs.Ytenpekohbedehaa
open Go.RowKit
section
variable {x : Image} {o n : Int}
theorem takes_a (h : o = 1 ∨ o = 2 ∨ o = 5 ∨ o = 6) : takesF x (o, n) = 0 ∧ putsF (o, n) = 1 := by
  unfold takesF putsF
  simp only
  exact ⟨by rw [if_neg (by omega), if_neg (by omega), if_neg (by omega)], by rw [if_pos (by omega)]⟩
theorem takes_b (h : o = 3 ∨ o = 8 ∨ o = 9 ∨ o = 11 ∨ o = 13 ∨ o = 15) : takesF x (o, n) = 1 ∧ putsF (o, n) = 0 := by
  unfold takesF putsF
  simp only
  exact ⟨by rw [if_pos (by omega)], by rw [if_neg (by omega)]⟩
theorem takes_c : takesF x (4, n) = 2 ∧ putsF (4, n) = 1 := by
  unfold takesF putsF
  simp
theorem takes_d : takesF x (7, n) = parF x n ∧ putsF (7, n) = 1 := by
  unfold takesF putsF
  simp
theorem takes_e (h1 : ¬ (o = 1 ∨ o = 2 ∨ o = 5 ∨ o = 6)) (h2 : ¬ (o = 3 ∨ o = 8 ∨ o = 9 ∨ o = 11 ∨ o = 13 ∨ o = 15)) (h3 : ¬ o = 4) (h4 : ¬ o = 7) : takesF x (o, n) = 0 ∧ putsF (o, n) = 0 := by
  unfold takesF putsF
  simp only
  exact ⟨by rw [if_neg (by omega), if_neg (by omega), if_neg (by omega)], by rw [if_neg (by omega)]⟩
end
theorem parF_at {x : Image} {k : Nat} {c : Code} (hk : k < x.length) (h : x[k] = c) : parF x (k : Int) = c.1 := by
  unfold parF; rw [Int.toNat_natCast]; simp [List.getD, hk, h]
end Go.Proofs.Ytenpekohbedehaa
