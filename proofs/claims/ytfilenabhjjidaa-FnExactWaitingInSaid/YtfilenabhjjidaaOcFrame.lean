/- Frame: own data field by field; how many marks. Printed by ocgen.py. -/
import Derived.Test.YtfilenabhjjidaaMkFrame
import Derived.Test.YtfilenabhjjidaaOc
import Derived.Test.YtfilenabhjjidaaOcBool
set_option linter.unusedVariables false
set_option linter.unusedSimpArgs false
set_option maxRecDepth 100000
namespace Go.Proofs.Ytfilenabhjjidaa
open Go.RowKit

theorem Frame_ownc {w : World} {F : List Nat} {x0 : Int} {x1 : Int} {x2 : Int} {A3 : Option Addr} {n3 c3 : Nat} {s3 : List Int} {A4 : Option Addr} {n4 c4 : Nat} {s4 : List Int} {A5 : Option Addr} {n5 c5 : Nat} {s5 : List Bool} {x6 : Int} {x7 : Int} {x8 : Int} {x9 : Int} {y10 : Bool} (h : FrameR.own w F [.int .i64 x0, .int .i64 x1, .int .i64 x2, .slice A3 n3 c3, .slice A4 n4 c4, .slice A5 n5 c5, .int .i64 x6, .int .i64 x7, .int .i64 x8, .int .i64 x9, .bool y10] (x0, x1, x2, s3, s4, s5, x6, x7, x8, x9, y10)) : ∃ F3 F4 F5, F = (F3 ++ (F4 ++ F5)) ∧ ((F3 ++ (F4 ++ F5)) : List Nat).Nodup ∧ OwnSl intR w 3 F3 (.slice A3 n3 c3) s3 ∧ OwnSl intR w 3 F4 (.slice A4 n4 c4) s4 ∧ OwnSl boolR w 4 F5 (.slice A5 n5 c5) s5 := by
  obtain ⟨x0q, x1q, x2q, A3q, n3q, c3q, s3q, A4q, n4q, c4q, s4q, A5q, n5q, c5q, s5q, x6q, x7q, x8q, x9q, y10q, F3, F4, F5, ec, ex, eF, nd, i0, i1, i2, o3, o4, o5, i6, i7, i8, i9⟩ := Frame_ownx h
  simp only [List.cons.injEq, Value.slice.injEq, Value.int.injEq, Value.bool.injEq, and_true, true_and, Prod.mk.injEq] at ec ex
  refine ⟨F3, F4, F5, eF, nd, ?_, ?_, ?_⟩
  · simp only [ec, ex]; exact o3
  · simp only [ec, ex]; exact o4
  · simp only [ec, ex]; exact o5
theorem cntFrame_le1 (x : Frame) : cntFrame x ≤ 16 + 16 * mszFrame x := by
  have t3 := cntInt_le (x.2.2.2.1)
  have t4 := cntInt_le (x.2.2.2.2.1)
  have t5 := cntBool_le (x.2.2.2.2.2.1)
  simp only [cntFrame, mszFrame]; omega
theorem cntFrame_le (l : List Frame) : cntL cntFrame l ≤ 16 * mszLFrame l := by
  induction l with
  | nil => simp [cntL]
  | cons x l ih => have := cntFrame_le1 x; simp only [cntL, mszLFrame, List.map_cons, List.sum_cons, List.length_cons] at *; omega
end Go.Proofs.Ytfilenabhjjidaa
