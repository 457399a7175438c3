/- For every text the program's LinesIn returns what the reference's returns: FnExactLinesIn returns true, and its argument reads as it did. No condition beyond the row's own. -/
import Derived.Test.YtkedpaopnnhinaaLines
import Derived.Test.YtkedpaopnnhinaaLawKit
import Derived.Deep.RegionHeld3
set_option linter.unusedVariables false
set_option linter.unusedSimpArgs false
set_option maxRecDepth 100000
namespace Go.Proofs.Ytkedpaopnnhinaa
open Go.ChangeShapes Go.WideShapes Go.ChangeAt Go.RowKit
open Go.ChangeMaps (open_string)

set_option maxHeartbeats 4000000 in
theorem fnLinesIn (w : World) (va : ByteArray) (za : va.size ≤ maxLen) :
    Calls Try.prog 3 #[.string va] w (RetB true w) := by
  have bla : va.size ≤ 9223372036854775807 := by unfold maxLen at za; omega
  by_cases hla : va.size ≤ 1048576
  rotate_left
  · have hd : decide ((1048576 : Int) < (va.size : Int)) = true := by simp; omega
    go_enter Try.func3, Try.ntmps3
    go_wp2_with fail
    go_ret
    exact RetB.mk rfl (by (repeat (first | with_reducible exact Below.refl _ _ | with_reducible assumption | with_reducible refine below_alloc ?_ _ | ((with_reducible refine Below.setCell ?_ ?_ _); rotate_left; (· first | exact Nat.le_refl _ | (simp; done) | (simp; omega))) | with_reducible refine below_drewN ?_ _ | with_reducible refine Below.drew ?_ | with_reducible refine below_then ?_ (by with_reducible assumption))))
  have hda : decide ((1048576 : Int) < (va.size : Int)) = false := by simp; omega
  go_enter Try.func3, Try.ntmps3
  have hb : Below w.heap.size w w := Below.refl _ _
  go_wp2_with fail
  refine (specLinesInC _ va za).mono ?_
  rintro e w1 ⟨rfl, b⟩
  have hx : Below w.heap.size w w1 := by (repeat (first | with_reducible exact Below.refl _ _ | with_reducible assumption | with_reducible refine below_alloc ?_ _ | ((with_reducible refine Below.setCell ?_ ?_ _); rotate_left; (· first | exact Nat.le_refl _ | (simp; done) | (simp; omega))) | with_reducible refine below_drewN ?_ _ | with_reducible refine Below.drew ?_ | with_reducible refine below_then ?_ (by with_reducible assumption)))
  replace hb := below_then hb hx
  clear hx
  clear b
  go_wp2_with fail
  refine (implLinesInC _ va za).mono ?_
  rintro e w2 ⟨rfl, b⟩
  have hx : Below w1.heap.size w1 w2 := by (repeat (first | with_reducible exact Below.refl _ _ | with_reducible assumption | with_reducible refine below_alloc ?_ _ | ((with_reducible refine Below.setCell ?_ ?_ _); rotate_left; (· first | exact Nat.le_refl _ | (simp; done) | (simp; omega))) | with_reducible refine below_drewN ?_ _ | with_reducible refine Below.drew ?_ | with_reducible refine below_then ?_ (by with_reducible assumption)))
  replace hb := below_then hb hx
  clear hx
  clear b
  go_wp2_with fail
  go_ret
  exact RetB.mk rfl hb

theorem fnLinesInA (w : World) (va : ByteArray) (za : va.size ≤ maxLen) :
    Calls Try.prog 3 #[.string va] w (RetB true w) := by
  exact fnLinesIn w va za

end Go.Proofs.Ytkedpaopnnhinaa
