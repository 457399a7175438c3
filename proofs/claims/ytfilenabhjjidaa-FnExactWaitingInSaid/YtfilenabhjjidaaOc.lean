/- How many marks. Printed by ocgen.py. -/
import Derived.Test.YtfilenabhjjidaaMk
namespace Go.Proofs.Ytfilenabhjjidaa
theorem cntInt_le (l : List Int) : cntL cntInt l ≤ 16 * l.length := by
  induction l with
  | nil => simp [cntL]
  | cons x l ih => simp only [cntL, List.map_cons, List.sum_cons, List.length_cons] at *; simp only [cntInt] at *; omega
end Go.Proofs.Ytfilenabhjjidaa
