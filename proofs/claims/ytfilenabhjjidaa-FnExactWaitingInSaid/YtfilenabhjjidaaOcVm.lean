/- Vm: own data field by field; how many marks. Printed by ocgen.py. -/
import Derived.Test.YtfilenabhjjidaaMkVm
import Derived.Test.YtfilenabhjjidaaOcFrame
import Derived.Test.YtfilenabhjjidaaOc
import Derived.Test.YtfilenabhjjidaaOcNote
set_option linter.unusedVariables false
set_option linter.unusedSimpArgs false
set_option maxRecDepth 100000
namespace Go.Proofs.Ytfilenabhjjidaa
open Go.RowKit

theorem Vm_ownc {w : World} {F : List Nat} {A0 : Option Addr} {n0 c0 : Nat} {s0 : List Frame} {A1 : Option Addr} {n1 c1 : Nat} {s1 : List Int} {x2 : Int} {x3 : Int} {x4 : Int} {x5 : Int} {A6 : Option Addr} {n6 c6 : Nat} {s6 : List Note} (h : VmR.own w F [.slice A0 n0 c0, .slice A1 n1 c1, .int .i64 x2, .int .i64 x3, .int .i64 x4, .int .i64 x5, .slice A6 n6 c6] (s0, s1, x2, x3, x4, x5, s6)) : ∃ F0 F1 F6, F = (F0 ++ (F1 ++ F6)) ∧ ((F0 ++ (F1 ++ F6)) : List Nat).Nodup ∧ OwnSl FrameR w 127 F0 (.slice A0 n0 c0) s0 ∧ OwnSl intR w 3 F1 (.slice A1 n1 c1) s1 ∧ OwnSl noteR w 112 F6 (.slice A6 n6 c6) s6 := by
  obtain ⟨A0q, n0q, c0q, s0q, A1q, n1q, c1q, s1q, x2q, x3q, x4q, x5q, A6q, n6q, c6q, s6q, F0, F1, F6, ec, ex, eF, nd, o0, o1, i2, i3, i4, i5, o6⟩ := Vm_ownx h
  simp only [List.cons.injEq, Value.slice.injEq, Value.int.injEq, Value.bool.injEq, and_true, true_and, Prod.mk.injEq] at ec ex
  refine ⟨F0, F1, F6, eF, nd, ?_, ?_, ?_⟩
  · simp only [ec, ex]; exact o0
  · simp only [ec, ex]; exact o1
  · simp only [ec, ex]; exact o6
theorem cntVm_le1 (x : Vm) : cntVm x ≤ 16 + 16 * mszVm x := by
  have t0 := cntFrame_le (x.1)
  have t1 := cntInt_le (x.2.1)
  have t6 := cntNote_le (x.2.2.2.2.2.2)
  simp only [cntVm, mszVm]; omega
theorem cntVm_le (l : List Vm) : cntL cntVm l ≤ 16 * mszLVm l := by
  induction l with
  | nil => simp [cntL]
  | cons x l ih => have := cntVm_le1 x; simp only [cntL, mszLVm, List.map_cons, List.sum_cons, List.length_cons] at *; omega
end Go.Proofs.Ytfilenabhjjidaa
