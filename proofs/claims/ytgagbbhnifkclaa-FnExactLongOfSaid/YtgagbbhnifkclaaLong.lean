/- LongOf: walks of both sides. -/
import Derived.Test.YtgagbbhnifkclaaLowL
set_option linter.unusedVariables false
set_option linter.unusedSimpArgs false
set_option maxRecDepth 100000
namespace Go.Proofs.Ytgagbbhnifkclaa
open Go.RowKit
theorem ret_pair2 {v u v' u' : Value} (h1 : v = v') (h2 : u = u') : Ending.returned (.tuple #[v, u]) = .returned (.tuple #[v', u']) := by rw [h1, h2]
def longN (fs : List Func) (v : Int) : Int := ((lowC fs v).2.2.2.1.length : Int)
theorem implLongOfC (w : World) (A : Option Addr) (n c : Nat) (fs : List Func) (v : Int) (h : Sl FuncR w 0 w.heap.size A n c fs) (hm : mszLFunc fs ≤ 1048576) (_ : I64 v) :
    Calls Try.prog 46 #[.agg #[.slice A n c], .int .i64 v] w (RetV (.tuple #[.int .i64 (longN fs v), .bool (lowVB fs v)]) w) := by
  go_enter Try.func46, Try.ntmps46
  go_wp2_with fail
  refine (implLowerFunc2 _ 0 w.heap.size A n c fs v (h.below (show Below w.heap.size w _ by (repeat (first | with_reducible exact Below.refl _ _ | with_reducible assumption | with_reducible refine below_alloc ?_ _ | ((with_reducible refine Below.setCell ?_ ?_ _); rotate_left; (· first | exact Nat.le_refl _ | (simp; done) | (simp; omega))) | with_reducible refine below_drewN ?_ _ | with_reducible refine Below.drew ?_ | with_reducible refine below_then ?_ (by with_reducible assumption)))) (Nat.le_refl _)) (by first | omega | (simp; done) | (simp; omega)) hm).mono ?_
  rintro e w5 ⟨A2, n2, c2, A3, n3, c3, A4, n4, c4, F2, F3, F4, rfl, s2, s3, s4, snd, sF, hb5⟩
  have hn := Lib.hid (show (n3 : Int) = longN fs v by unfold longN; rw [s3.sl.lenEq])
  have hx5 : Below w.heap.size w w5 := by (repeat (first | with_reducible exact Below.refl _ _ | with_reducible assumption | with_reducible refine below_alloc ?_ _ | ((with_reducible refine Below.setCell ?_ ?_ _); rotate_left; (· first | exact Nat.le_refl _ | (simp; done) | (simp; omega))) | with_reducible refine below_drewN ?_ _ | with_reducible refine Below.drew ?_ | with_reducible refine below_then ?_ (by with_reducible assumption)))
  clear s2 s3 s4 snd sF hb5
  go_wp2_with fail
  go_ret2
  exact ⟨ret_pair2 (int_eq hn.out) rfl, by (repeat (first | with_reducible exact Below.refl _ _ | with_reducible assumption | with_reducible refine below_alloc ?_ _ | ((with_reducible refine Below.setCell ?_ ?_ _); rotate_left; (· first | exact Nat.le_refl _ | (simp; done) | (simp; omega))) | with_reducible refine below_drewN ?_ _ | with_reducible refine Below.drew ?_ | with_reducible refine below_then ?_ (by with_reducible assumption)))⟩
theorem specLongOfC (w : World) (A : Option Addr) (n c : Nat) (fs : List Func) (v : Int) (h : Sl FuncR w 0 w.heap.size A n c fs) (hm : mszLFunc fs ≤ 1048576) (_ : I64 v) :
    Calls Try.prog 45 #[.agg #[.slice A n c], .int .i64 v] w (RetV (.tuple #[.int .i64 (longN fs v), .bool (lowVB fs v)]) w) := by
  by_cases hb0 : lowVB fs v = true
  · rw [hb0]
    have HB := Lib.hid hb0
    clear hb0
    go_enter Try.func45, Try.ntmps45
    go_wp2_with fail
    refine (specLowerFunc _ 0 w.heap.size A n c fs v (h.below (show Below w.heap.size w _ by (repeat (first | with_reducible exact Below.refl _ _ | with_reducible assumption | with_reducible refine below_alloc ?_ _ | ((with_reducible refine Below.setCell ?_ ?_ _); rotate_left; (· first | exact Nat.le_refl _ | (simp; done) | (simp; omega))) | with_reducible refine below_drewN ?_ _ | with_reducible refine Below.drew ?_ | with_reducible refine below_then ?_ (by with_reducible assumption)))) (Nat.le_refl _)) (by first | omega | (simp; done) | (simp; omega)) hm).mono ?_
    rintro e w5 ⟨A2, n2, c2, A3, n3, c3, A4, n4, c4, rfl, s2, s3, s4, hb5⟩
    rw [HB.out]
    have hn := Lib.hid (show (n3 : Int) = longN fs v by unfold longN; rw [s3.lenEq])
    have hx5 : Below w.heap.size w w5 := by (repeat (first | with_reducible exact Below.refl _ _ | with_reducible assumption | with_reducible refine below_alloc ?_ _ | ((with_reducible refine Below.setCell ?_ ?_ _); rotate_left; (· first | exact Nat.le_refl _ | (simp; done) | (simp; omega))) | with_reducible refine below_drewN ?_ _ | with_reducible refine Below.drew ?_ | with_reducible refine below_then ?_ (by with_reducible assumption)))
    clear s2 s3 s4 hb5
    go_wp2_with fail
    go_ret2
    exact ⟨ret_pair2 (int_eq hn.out) rfl, by (repeat (first | with_reducible exact Below.refl _ _ | with_reducible assumption | with_reducible refine below_alloc ?_ _ | ((with_reducible refine Below.setCell ?_ ?_ _); rotate_left; (· first | exact Nat.le_refl _ | (simp; done) | (simp; omega))) | with_reducible refine below_drewN ?_ _ | with_reducible refine Below.drew ?_ | with_reducible refine below_then ?_ (by with_reducible assumption)))⟩
  · have hb0 : lowVB fs v = false := by simpa using hb0
    rw [hb0, show longN fs v = 0 by unfold longN; rw [lowC_no hb0]; rfl]
    have HB := Lib.hid hb0
    clear hb0
    go_enter Try.func45, Try.ntmps45
    go_wp2_with fail
    refine (specLowerFunc _ 0 w.heap.size A n c fs v (h.below (show Below w.heap.size w _ by (repeat (first | with_reducible exact Below.refl _ _ | with_reducible assumption | with_reducible refine below_alloc ?_ _ | ((with_reducible refine Below.setCell ?_ ?_ _); rotate_left; (· first | exact Nat.le_refl _ | (simp; done) | (simp; omega))) | with_reducible refine below_drewN ?_ _ | with_reducible refine Below.drew ?_ | with_reducible refine below_then ?_ (by with_reducible assumption)))) (Nat.le_refl _)) (by first | omega | (simp; done) | (simp; omega)) hm).mono ?_
    rintro e w5 ⟨A2, n2, c2, A3, n3, c3, A4, n4, c4, rfl, s2, s3, s4, hb5⟩
    rw [HB.out]
    have hx5 : Below w.heap.size w w5 := by (repeat (first | with_reducible exact Below.refl _ _ | with_reducible assumption | with_reducible refine below_alloc ?_ _ | ((with_reducible refine Below.setCell ?_ ?_ _); rotate_left; (· first | exact Nat.le_refl _ | (simp; done) | (simp; omega))) | with_reducible refine below_drewN ?_ _ | with_reducible refine Below.drew ?_ | with_reducible refine below_then ?_ (by with_reducible assumption)))
    clear s2 s3 s4 hb5
    go_wp2_with fail
    go_ret2
    exact ⟨rfl, by (repeat (first | with_reducible exact Below.refl _ _ | with_reducible assumption | with_reducible refine below_alloc ?_ _ | ((with_reducible refine Below.setCell ?_ ?_ _); rotate_left; (· first | exact Nat.le_refl _ | (simp; done) | (simp; omega))) | with_reducible refine below_drewN ?_ _ | with_reducible refine Below.drew ?_ | with_reducible refine below_then ?_ (by with_reducible assumption)))⟩
end Go.Proofs.Ytgagbbhnifkclaa
