/- Whether a machine is good, and whether it is at an instruction that raises a panic: walks of both sides. -/
import Derived.Test.YtmnkgcjbckamnaaGreatGoodV
import Derived.Test.YtmnkgcjbckamnaaGreatGoodT
set_option linter.unusedVariables false
set_option linter.unusedSimpArgs false
set_option maxRecDepth 100000
namespace Go.Proofs.YtmnkgcjbckamnaaGreat
open Go.RowKit
attribute [local irreducible] wpList
set_option maxHeartbeats 4000000 in
theorem implGoodVm (w : World) (lo hi : Nat) (A : Option Addr) (n c : Nat) (x : List Code) (A0 : Option Addr) (n0 c0 : Nat) (fs : List Frame) (A1 : Option Addr) (n1 c1 : Nat) (tr : List Int) (x2 x3 x4 x5 : Int) (A6 : Option Addr) (n6 c6 : Nat)
    (h : Sl CodeR w lo hi A n c x) (h0 : Sl FrameR w lo hi A0 n0 c0 fs) (h1 : Sl intR w lo hi A1 n1 c1 tr) (hh : hi ≤ w.heap.size) (i4 : I64 x4) :
    Calls Tryz.prog 67 #[.agg #[.slice A n c], .agg #[.slice A0 n0 c0, .slice A1 n1 c1, .int .i64 x2, .int .i64 x3, .int .i64 x4, .int .i64 x5, .slice A6 n6 c6]] w (RetB (goodI x && vmB x fs tr x2 x3 x4 x5) w) := by
  obtain ⟨g, G⟩ : ∃ g, goodI x = g := ⟨_, rfl⟩
  rw [G]
  replace G := Lib.hid G
  go_enter Tryz.func67, Tryz.ntmps67
  go_wp2_with fail
  refine (implIsImage _ lo hi A n c x (h.below (show Below w.heap.size w _ by (repeat (first | with_reducible exact Below.refl _ _ | with_reducible assumption | with_reducible refine below_alloc ?_ _ | ((with_reducible refine Below.setCell ?_ ?_ _); rotate_left; (· first | exact Nat.le_refl _ | (simp; done) | (simp; omega))) | with_reducible refine below_drewN ?_ _ | with_reducible refine Below.drew ?_ | with_reducible refine below_then ?_ (by with_reducible assumption)))) hh) (by first | omega | (simp; done) | (simp; omega))).mono ?_
  rintro e w2 ⟨rfl, hb⟩
  rw [G.out]
  have hb2 : Below w.heap.size w w2 := below_then (show Below w.heap.size w _ by (repeat (first | with_reducible exact Below.refl _ _ | with_reducible assumption | with_reducible refine below_alloc ?_ _ | ((with_reducible refine Below.setCell ?_ ?_ _); rotate_left; (· first | exact Nat.le_refl _ | (simp; done) | (simp; omega))) | with_reducible refine below_drewN ?_ _ | with_reducible refine Below.drew ?_ | with_reducible refine below_then ?_ (by with_reducible assumption)))) (by (repeat (first | with_reducible exact Below.refl _ _ | with_reducible assumption | with_reducible refine below_alloc ?_ _ | ((with_reducible refine Below.setCell ?_ ?_ _); rotate_left; (· first | exact Nat.le_refl _ | (simp; done) | (simp; omega))) | with_reducible refine below_drewN ?_ _ | with_reducible refine Below.drew ?_ | with_reducible refine below_then ?_ (by with_reducible assumption))))
  have q0 := below_cell hb (show World.cell? _ ⟨w.heap.size, 0, none⟩ = some (.slice A n c) by simp [go_sem])
  have q1 := below_cell hb (show World.cell? _ ⟨w.heap.size + 1, 0, none⟩ = some (.slice A0 n0 c0) by simp [go_sem])
  have q2 := below_cell hb (show World.cell? _ ⟨w.heap.size + 1, 1, none⟩ = some (.slice A1 n1 c1) by simp [go_sem])
  have q3 := below_cell hb (show World.cell? _ ⟨w.heap.size + 1, 2, none⟩ = some (.int .i64 x2) by simp [go_sem])
  have q4 := below_cell hb (show World.cell? _ ⟨w.heap.size + 1, 3, none⟩ = some (.int .i64 x3) by simp [go_sem])
  have q5 := below_cell hb (show World.cell? _ ⟨w.heap.size + 1, 4, none⟩ = some (.int .i64 x4) by simp [go_sem])
  have q6 := below_cell hb (show World.cell? _ ⟨w.heap.size + 1, 5, none⟩ = some (.int .i64 x5) by simp [go_sem])
  have q7 := below_cell hb (show World.cell? _ ⟨w.heap.size + 1, 6, none⟩ = some (.slice A6 n6 c6) by simp [go_sem])
  have hz2 := hb2.size
  clear hb
  cases g
  · go_wp2_with fail
    go_ret
    exact RetB.mk rfl hb2
  · go_wp2_with fail
    refine (implIsVm _ lo hi A n c x A0 n0 c0 fs A1 n1 c1 tr x2 x3 x4 x5 (.slice A6 n6 c6) (h.below hb2 hh) (h0.below hb2 hh) (h1.below hb2 hh) (by omega) G.out i4).mono ?_
    rintro e w3 ⟨rfl, hb3⟩
    go_wp2_with fail
    go_ret
    exact RetB.mk (by simp) (below_then hb2 hb3)
set_option maxHeartbeats 4000000 in
theorem specGoodVm (w : World) (lo hi : Nat) (A : Option Addr) (n c : Nat) (x : List Code) (A0 : Option Addr) (n0 c0 : Nat) (fs : List Frame) (A1 : Option Addr) (n1 c1 : Nat) (tr : List Int) (x2 x3 x4 x5 : Int) (A6 : Option Addr) (n6 c6 : Nat)
    (h : Sl CodeR w lo hi A n c x) (h0 : Sl FrameR w lo hi A0 n0 c0 fs) (h1 : Sl intR w lo hi A1 n1 c1 tr) (hh : hi ≤ w.heap.size) (i4 : I64 x4) :
    Calls Tryz.prog 63 #[.agg #[.slice A n c], .agg #[.slice A0 n0 c0, .slice A1 n1 c1, .int .i64 x2, .int .i64 x3, .int .i64 x4, .int .i64 x5, .slice A6 n6 c6]] w (RetB (goodI x && vmB x fs tr x2 x3 x4 x5) w) := by
  obtain ⟨g, G⟩ : ∃ g, goodI x = g := ⟨_, rfl⟩
  rw [G]
  replace G := Lib.hid G
  go_enter Tryz.func63, Tryz.ntmps63
  go_wp2_with fail
  refine (specGoodImage _ lo hi A n c x (h.below (show Below w.heap.size w _ by (repeat (first | with_reducible exact Below.refl _ _ | with_reducible assumption | with_reducible refine below_alloc ?_ _ | ((with_reducible refine Below.setCell ?_ ?_ _); rotate_left; (· first | exact Nat.le_refl _ | (simp; done) | (simp; omega))) | with_reducible refine below_drewN ?_ _ | with_reducible refine Below.drew ?_ | with_reducible refine below_then ?_ (by with_reducible assumption)))) hh) (by first | omega | (simp; done) | (simp; omega))).mono ?_
  rintro e w2 ⟨rfl, hb⟩
  rw [G.out]
  have hb2 : Below w.heap.size w w2 := below_then (show Below w.heap.size w _ by (repeat (first | with_reducible exact Below.refl _ _ | with_reducible assumption | with_reducible refine below_alloc ?_ _ | ((with_reducible refine Below.setCell ?_ ?_ _); rotate_left; (· first | exact Nat.le_refl _ | (simp; done) | (simp; omega))) | with_reducible refine below_drewN ?_ _ | with_reducible refine Below.drew ?_ | with_reducible refine below_then ?_ (by with_reducible assumption)))) (by (repeat (first | with_reducible exact Below.refl _ _ | with_reducible assumption | with_reducible refine below_alloc ?_ _ | ((with_reducible refine Below.setCell ?_ ?_ _); rotate_left; (· first | exact Nat.le_refl _ | (simp; done) | (simp; omega))) | with_reducible refine below_drewN ?_ _ | with_reducible refine Below.drew ?_ | with_reducible refine below_then ?_ (by with_reducible assumption))))
  have q0 := below_cell hb (show World.cell? _ ⟨w.heap.size, 0, none⟩ = some (.slice A n c) by simp [go_sem])
  have q1 := below_cell hb (show World.cell? _ ⟨w.heap.size + 1, 0, none⟩ = some (.slice A0 n0 c0) by simp [go_sem])
  have q2 := below_cell hb (show World.cell? _ ⟨w.heap.size + 1, 1, none⟩ = some (.slice A1 n1 c1) by simp [go_sem])
  have q3 := below_cell hb (show World.cell? _ ⟨w.heap.size + 1, 2, none⟩ = some (.int .i64 x2) by simp [go_sem])
  have q4 := below_cell hb (show World.cell? _ ⟨w.heap.size + 1, 3, none⟩ = some (.int .i64 x3) by simp [go_sem])
  have q5 := below_cell hb (show World.cell? _ ⟨w.heap.size + 1, 4, none⟩ = some (.int .i64 x4) by simp [go_sem])
  have q6 := below_cell hb (show World.cell? _ ⟨w.heap.size + 1, 5, none⟩ = some (.int .i64 x5) by simp [go_sem])
  have q7 := below_cell hb (show World.cell? _ ⟨w.heap.size + 1, 6, none⟩ = some (.slice A6 n6 c6) by simp [go_sem])
  have hz2 := hb2.size
  clear hb
  cases g
  · go_wp2_with fail
    go_ret
    exact RetB.mk rfl hb2
  · go_wp2_with fail
    refine (specL8Good _ lo hi A n c x A0 n0 c0 fs A1 n1 c1 tr x2 x3 x4 x5 (.slice A6 n6 c6) (h.below hb2 hh) (h0.below hb2 hh) (h1.below hb2 hh) (by omega) G.out ).mono ?_
    rintro e w3 ⟨rfl, hb3⟩
    go_wp2_with fail
    go_ret
    exact RetB.mk (by simp) (below_then hb2 hb3)
end Go.Proofs.YtmnkgcjbckamnaaGreat
