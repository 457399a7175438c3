/- How many marks. Printed by ocgen.py. -/
import Derived.Test.YtfilenabhjjidaaMkBool
namespace Go.Proofs.Ytfilenabhjjidaa
theorem cntBool_le (l : List Bool) : cntL cntBool l ≤ 16 * l.length := by
  induction l with
  | nil => simp [cntL]
  | cons x l ih => simp only [cntL, List.map_cons, List.sum_cons, List.length_cons] at *; simp only [cntBool] at *; omega
end Go.Proofs.Ytfilenabhjjidaa
