/- CodeBytes: both sides' tops, and their contracts. -/
import Derived.Test.YtcpjcgefkpgfjaaGreatCdBi
import Derived.Test.YtcpjcgefkpgfjaaGreatExprG
import Derived.Deep.DeepCutAuto
set_option linter.unusedVariables false
set_option linter.unusedSimpArgs false
set_option maxRecDepth 100000
namespace Go.Proofs.YtcpjcgefkpgfjaaGreat
open Go.RowKit
attribute [local irreducible] wpList
/-- One code in a row of the call's own. -/
theorem one_code {w : World} {X : Nat} {t : TypeId} {x0 x1 : Int} {A2 A3 A4 : Option Addr} {n2 c2 n3 c3 n4 c4 : Nat} {ss : List Int} {is : List Ins} {rs : List Row} (h2 : Sl intR w 0 w.heap.size A2 n2 c2 ss) (h3 : Sl InsR w 0 w.heap.size A3 n3 c3 is) (h4 : Sl RowR w 0 w.heap.size A4 n4 c4 rs) (i0 : I64 x0) (i1 : I64 x1)
    (hX : w.heap[X]? = some (.cells #[.int .i64 x0, .int .i64 x1, .slice A2 n2 c2, .slice A3 n3 c3, .slice A4 n4 c4] t)) : Sl CodeR w 0 w.heap.size (some ⟨X, 0, none⟩) 1 1 [(x0, x1, ss, is, rs)] := by
  refine ⟨rfl, Nat.le_refl _, by unfold maxLen; omega, fun _ => ⟨X, 0, rfl, Nat.zero_le _, blk_size hX, fun i hi => ?_⟩⟩
  have : i = 0 := by simpa using hi
  subst this
  refine ⟨[.int .i64 x0, .int .i64 x1, .slice A2 n2 c2, .slice A3 n3 c3, .slice A4 n4 c4], ⟨[_], [_, _, _, _], rfl, ⟨rfl, i0⟩, [_], [_, _, _], rfl, ⟨rfl, i1⟩, [_], [_, _], rfl, ⟨A2, n2, c2, rfl, h2⟩, [_], [_], rfl, ⟨A3, n3, c3, rfl, h3⟩, ⟨A4, n4, c4, rfl, h4⟩⟩, fun j hj => ?_⟩
  have hj5 : j < 5 := by simpa using hj
  have hc := cell_of_row w X j _ _ _ hX
  rw [show 0 + 0 * CodeR.size + j = j by omega, hc]
  have : j = 0 ∨ j = 1 ∨ j = 2 ∨ j = 3 ∨ j = 4 := by omega
  rcases this with rfl | rfl | rfl | rfl | rfl <;> rfl
theorem cbR_no {c : Code} (h : cbB c = false) : cbR c = ([], false) := by unfold cbR; rw [h]; rfl
theorem cbR_long {c : Code} (h : cbB c = true) (hl : ¬ (cbL c).length ≤ 2000) : cbR c = ([], false) := by unfold cbR; rw [if_neg (by rw [h]; simpa using hl)]
theorem cbR_yes {c : Code} (h : cbB c = true) (hl : (cbL c).length ≤ 2000) : cbR c = (cbL c, true) := by unfold cbR; rw [if_pos (by rw [h]; simpa using hl)]
end Go.Proofs.YtcpjcgefkpgfjaaGreat
