/- How many marks a list of lists of ints bears. Printed by intlgen.py. -/
import Derived.Test.YtmnkgcjbckamnaaGreatMkIntL
import Derived.Test.YtmnkgcjbckamnaaGreatKit1
set_option linter.unusedVariables false
set_option linter.unusedSimpArgs false
set_option linter.unnecessarySimpa false
set_option maxRecDepth 100000
namespace Go.Proofs.YtmnkgcjbckamnaaGreat
open Go.RowKit

theorem cntIntL_le (l : List IntL) : cntL cntIntL l ≤ 16 * mszLIntL l := by
  induction l with
  | nil => simp [cntL]
  | cons x l ih => have := cntInt_le x; simp only [cntL, mszLIntL, cntIntL, mszIntL, List.map_cons, List.sum_cons, List.length_cons] at *; omega
end Go.Proofs.YtmnkgcjbckamnaaGreat
