/- Note: own data field by field; how many marks. Printed by ocgen.py. -/
import Derived.Test.YtfilenabhjjidaaMkNote
set_option linter.unusedVariables false
set_option linter.unusedSimpArgs false
set_option maxRecDepth 100000
namespace Go.Proofs.Ytfilenabhjjidaa
open Go.RowKit

theorem cntNote_le (l : List Note) : cntL cntNote l ≤ 16 * l.length := by
  induction l with
  | nil => simp [cntL]
  | cons x l ih => simp only [cntL, List.map_cons, List.sum_cons, List.length_cons] at *; simp only [cntNote] at *; omega
end Go.Proofs.Ytfilenabhjjidaa
