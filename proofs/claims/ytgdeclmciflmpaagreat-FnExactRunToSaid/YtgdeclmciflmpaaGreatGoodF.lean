/- Whether a frame alone is as said: plain law; walks of the program's side. -/
import Derived.Test.YtgdeclmciflmpaaGreatLiveA
import Derived.Test.YtgdeclmciflmpaaGreatTyVx
import Derived.Test.YtgdeclmciflmpaaGreatExprG
import Derived.Test.YtgdeclmciflmpaaGreatKit1
import Derived.BigGuardPart
set_option linter.unusedVariables false
set_option linter.unusedSimpArgs false
set_option maxRecDepth 100000
namespace Go.Proofs.YtgdeclmciflmpaaGreat
open Go.RowKit
attribute [local irreducible] wpList
/-- What is asked of a frame's fields, its code's variables, sites and instructions being so many. -/
def fldB (nv : Int) (ns ni : Nat) (f : Frame) : Bool :=
  small f.1 && inB f.2.2.1 0 ((ni : Int) - 1) && f.2.2.2.1.all small && f.2.2.2.2.1.all small && decide ((f.2.2.2.2.1.length : Int) = nv) && decide ((f.2.2.2.2.2.1.length : Int) = (ns : Int)) &&
    small f.2.2.2.2.2.2.1 && inB f.2.2.2.2.2.2.2.1 0 3 && small f.2.2.2.2.2.2.2.2.1 && (decide (f.2.2.2.2.2.2.2.2.2.1 = 1) || decide (f.2.2.2.2.2.2.2.2.2.1 = 3))
def codeD (x : Image) (k : Int) : Code := x.getD k.toNat (0, 0, [], [], [])
def frB (x : Image) (f : Frame) : Bool := inB f.2.1 0 ((x.length : Int) - 1) && fldB (codeD x f.2.1).2.1 (codeD x f.2.1).2.2.1.length (codeD x f.2.1).2.2.2.1.length f
theorem codeD_at {x : Image} {k : Nat} (hk : k < x.length) : codeD x (k : Int) = x[k] := by unfold codeD; simp [List.getD, hk]
theorem implIsSmall2 (w : World) (n : Int) (h : I64 n) : Calls Tryz.prog 89 #[.int .i64 n] w (fun e w' => e = .returned (.bool (small n)) ∧ w' = w) := by
  have hq := Lib.hid (small_wrap n h)
  go_enter Tryz.func89, Tryz.ntmps89
  go_wp2
  go_ret
  exact ⟨by rw [← hq.out]; rfl, rfl⟩
theorem implAreSmall1 (w : World) (n : Int) (h : I64 n) : Calls Tryz.prog 88 #[.int .i64 n] w (RetB (!small n) w) := by
  go_enter Tryz.func88, Tryz.ntmps88
  go_wp2_with (go_at_call 89; ((with_reducible refine (implIsSmall _ _ h).mono ?_); rintro e w2 ⟨rfl, hb⟩))
  go_ret
  exact RetB.mk rfl hb
theorem implAreSmall (w : World) (lo hi n c : Nat) (A : Option Addr) (l : List Int) (h : Sl intR w lo hi A n c l) (hh : hi ≤ w.heap.size) : Calls Tryz.prog 48 #[.slice A n c] w (RetB (l.all small) w) := by
  go_enter Tryz.func48, Tryz.ntmps48
  go_wp2_with fail
  refine (conFuncInt 88 #[] (fun x => !small x) _ lo hi n c A l (h.below (show Below w.heap.size w _ by exact belA) hh) (by first | omega | (simp; done) | (simp; omega)) (fun _ _ => by kernel_rfl) (fun W x0 _ hW hi => implAreSmall1 W x0 hi)).mono ?_
  rintro e w2 ⟨rfl, hb⟩
  go_wp2_with fail
  go_ret
  exact RetB.mk (by rw [← any_not_all]) (by exact belA)
theorem specL8Bounds (w : World) (lo hi n c : Nat) (A : Option Addr) (l : List Int) (h : Sl intR w lo hi A n c l) (hh : hi ≤ w.heap.size) : Calls Tryz.prog 44 #[.slice A n c] w (RetB (l.all small) w) := by
  go_enter Tryz.func44, Tryz.ntmps44
  go_wp2_with fail
  refine (specL1All _ lo hi n c A l _ _ (h.below (show Below w.heap.size w _ by exact belA) hh) (by first | omega | (simp; done) | (simp; omega))).mono ?_
  rintro e w2 ⟨rfl, hb⟩
  go_wp2_with fail
  go_ret
  exact RetB.mk rfl (by exact belA)
end Go.Proofs.YtgdeclmciflmpaaGreat
