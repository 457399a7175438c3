/- Whether a frame may recover: the whole of both sides. -/
import Derived.Test.YtobdkncgifckgaaGreatRaise3
import Derived.Test.YtobdkncgifckgaaGreatMay3
set_option linter.unusedVariables false
set_option linter.unusedSimpArgs false
set_option maxRecDepth 100000
namespace Go.Proofs.YtobdkncgifckgaaGreat
open Go.RowKit
attribute [local irreducible] wpList
noncomputable def mayOk (x : Image) (fs : List Frame) (tr : List Int) (x2 x3 x4 x5 : Int) (v : Int) : Bool := gvB x fs tr x2 x3 x4 x5 && inB v 0 ((fs.length : Int) - 1)
noncomputable def mayR (x : Image) (fs : List Frame) (tr : List Int) (x2 x3 x4 x5 : Int) (v : Int) : Bool := mayOk x fs tr x2 x3 x4 x5 v && mayB x fs v.toNat
set_option maxHeartbeats 8000000 in
theorem implMayStopC (w : World) (A : Option Addr) (n c : Nat) (x : List Code) (A0b : Option Addr) (n0b c0b : Nat) (fs : List Frame) (A1b : Option Addr) (n1b c1b : Nat) (tr : List Int) (x2 x3 x4 x5 : Int) (A6b : Option Addr) (n6b c6b : Nat) (s6 : List Note) (v : Int)
    (h : Sl CodeR w 0 w.heap.size A n c x) (_ : mszLCode x ≤ 1048576) (h0 : Sl FrameR w 0 w.heap.size A0b n0b c0b fs) (h1 : Sl intR w 0 w.heap.size A1b n1b c1b tr) (_ : Sl noteR w 0 w.heap.size A6b n6b c6b s6) (_ : mszLFrame fs ≤ 1048576) (_ : tr.length ≤ 1048576) (_ : s6.length ≤ 1048576) (_ : I64 x2) (_ : I64 x3) (i4 : I64 x4) (_ : I64 x5) (_ : I64 v) :
    Calls Tryz.prog 32 #[.agg #[.slice A n c], .agg #[.slice A0b n0b c0b, .slice A1b n1b c1b, .int .i64 x2, .int .i64 x3, .int .i64 x4, .int .i64 x5, .slice A6b n6b c6b], .int .i64 v] w (RetV (.tuple #[.bool (mayR x fs tr x2 x3 x4 x5 v), .bool (mayOk x fs tr x2 x3 x4 x5 v)]) w) := by
  obtain ⟨g, G⟩ : ∃ g, gvB x fs tr x2 x3 x4 x5 = g := ⟨_, rfl⟩
  obtain ⟨r, R⟩ : ∃ r, mayR x fs tr x2 x3 x4 x5 v = r := ⟨_, rfl⟩
  obtain ⟨ok, OK⟩ : ∃ r, mayOk x fs tr x2 x3 x4 x5 v = r := ⟨_, rfl⟩
  obtain ⟨iv, IV⟩ : ∃ r, inB v 0 ((n0b : Int) - 1) = r := ⟨_, rfl⟩
  have HL0 := Lib.hid h0.lenEq
  have hn0b := h0.lenLe
  have OK2 : (g && iv) = ok := by rw [← OK, ← G, ← IV, ← HL0.out]; rfl
  have R2 : (ok && mayB x fs v.toNat) = r := by rw [← R, ← OK]; rfl
  have qw : IntKind.i64.wrap ((n0b : Int) - 1) = (n0b : Int) - 1 := IntWalk.i64_in _ (by omega)
  rw [OK, R]
  clear OK R
  replace G := Lib.hid G
  replace OK2 := Lib.hid OK2
  replace R2 := Lib.hid R2
  replace IV := Lib.hid IV
  go_enter Tryz.func32, Tryz.ntmps32
  go_wp2_with fail
  refine (implGoodVm _ 0 w.heap.size A n c x A0b n0b c0b fs A1b n1b c1b tr x2 x3 x4 x5 A6b n6b c6b (h.below (show Below w.heap.size w _ by (repeat (first | with_reducible exact Below.refl _ _ | with_reducible assumption | with_reducible refine below_alloc ?_ _ | ((with_reducible refine Below.setCell ?_ ?_ _); rotate_left; (· first | exact Nat.le_refl _ | (simp; done) | (simp; omega))) | with_reducible refine below_drewN ?_ _ | with_reducible refine Below.drew ?_ | with_reducible refine below_then ?_ (by with_reducible assumption)))) (Nat.le_refl _)) (h0.below (show Below w.heap.size w _ by (repeat (first | with_reducible exact Below.refl _ _ | with_reducible assumption | with_reducible refine below_alloc ?_ _ | ((with_reducible refine Below.setCell ?_ ?_ _); rotate_left; (· first | exact Nat.le_refl _ | (simp; done) | (simp; omega))) | with_reducible refine below_drewN ?_ _ | with_reducible refine Below.drew ?_ | with_reducible refine below_then ?_ (by with_reducible assumption)))) (Nat.le_refl _)) (h1.below (show Below w.heap.size w _ by (repeat (first | with_reducible exact Below.refl _ _ | with_reducible assumption | with_reducible refine below_alloc ?_ _ | ((with_reducible refine Below.setCell ?_ ?_ _); rotate_left; (· first | exact Nat.le_refl _ | (simp; done) | (simp; omega))) | with_reducible refine below_drewN ?_ _ | with_reducible refine Below.drew ?_ | with_reducible refine below_then ?_ (by with_reducible assumption)))) (Nat.le_refl _)) (by first | omega | (simp; done) | (simp; omega)) i4).mono ?_
  rintro e w2 ⟨rfl, hb⟩
  rw [show (goodI x && vmB x fs tr x2 x3 x4 x5) = g from G.out]
  have hb2 : Below w.heap.size w w2 := below_then (show Below w.heap.size w _ by (repeat (first | with_reducible exact Below.refl _ _ | with_reducible assumption | with_reducible refine below_alloc ?_ _ | ((with_reducible refine Below.setCell ?_ ?_ _); rotate_left; (· first | exact Nat.le_refl _ | (simp; done) | (simp; omega))) | with_reducible refine below_drewN ?_ _ | with_reducible refine Below.drew ?_ | with_reducible refine below_then ?_ (by with_reducible assumption)))) (by (repeat (first | with_reducible exact Below.refl _ _ | with_reducible assumption | with_reducible refine below_alloc ?_ _ | ((with_reducible refine Below.setCell ?_ ?_ _); rotate_left; (· first | exact Nat.le_refl _ | (simp; done) | (simp; omega))) | with_reducible refine below_drewN ?_ _ | with_reducible refine Below.drew ?_ | with_reducible refine below_then ?_ (by with_reducible assumption))))
  have q0 := below_cell hb (show World.cell? _ ⟨w.heap.size, 0, none⟩ = some (.slice A n c) by simp [go_sem])
  have q1 := below_cell hb (show World.cell? _ ⟨w.heap.size + 1, 0, none⟩ = some (.slice A0b n0b c0b) by simp [go_sem])
  have q2 := below_cell hb (show World.cell? _ ⟨w.heap.size + 1, 1, none⟩ = some (.slice A1b n1b c1b) by simp [go_sem])
  have q3 := below_cell hb (show World.cell? _ ⟨w.heap.size + 1, 2, none⟩ = some (.int .i64 x2) by simp [go_sem])
  have q4 := below_cell hb (show World.cell? _ ⟨w.heap.size + 1, 3, none⟩ = some (.int .i64 x3) by simp [go_sem])
  have q5 := below_cell hb (show World.cell? _ ⟨w.heap.size + 1, 4, none⟩ = some (.int .i64 x4) by simp [go_sem])
  have q6 := below_cell hb (show World.cell? _ ⟨w.heap.size + 1, 5, none⟩ = some (.int .i64 x5) by simp [go_sem])
  have q7 := below_cell hb (show World.cell? _ ⟨w.heap.size + 1, 6, none⟩ = some (.slice A6b n6b c6b) by simp [go_sem])
  have hz2 := hb2.size
  clear hb
  cases g
  · have ho : ok = false := by rw [← OK2.out]; rfl
    subst ho
    have hr : r = false := by rw [← R2.out]; rfl
    subst hr
    go_wp2_with fail
    go_ret2
    exact ⟨rfl, hb2⟩
  · have hgg := G.out
    unfold gvB at hgg
    simp only [Bool.and_eq_true] at hgg
    cases iv
    · have ho : ok = false := by rw [← OK2.out]; rfl
      subst ho
      have hr : r = false := by rw [← R2.out]; rfl
      subst hr
      go_wp2_with (go_at_call 46; ((with_reducible refine (implWithin _ _ _ _).mono ?_); rintro e w3 ⟨rfl, rfl⟩; rw [IV.out]))
      go_ret2
      exact ⟨rfl, hb2⟩
    · have ho : ok = true := by rw [← OK2.out]; rfl
      subst ho
      have hbd := inB_iff.1 IV.out
      obtain ⟨k, hk⟩ := Int.eq_ofNat_of_zero_le hbd.1
      subst hk
      have hkn : k < n0b := by omega
      have hr := Lib.hid (show mayB x fs k = r from R2.out)
      go_wp2_with (go_at_call 46; ((with_reducible refine (implWithin _ _ _ _).mono ?_); rintro e w3 ⟨rfl, rfl⟩; rw [IV.out]))
      refine (implMayStop1 _ 0 w.heap.size A n c x A0b n0b c0b fs A1b n1b c1b tr x2 x3 x4 x5 A6b n6b c6b k (h.below hb2 (Nat.le_refl _)) (h0.below hb2 (Nat.le_refl _)) (by omega) hgg.1 hgg.2 hkn).mono ?_
      rintro e w3 ⟨rfl, hb3⟩
      rw [hr.out]
      have hb4 : Below w.heap.size w w3 := below_then hb2 hb3
      go_wp2_with fail
      go_ret2
      exact ⟨rfl, hb4⟩
set_option maxHeartbeats 8000000 in
theorem specMayStopC (w : World) (A : Option Addr) (n c : Nat) (x : List Code) (A0b : Option Addr) (n0b c0b : Nat) (fs : List Frame) (A1b : Option Addr) (n1b c1b : Nat) (tr : List Int) (x2 x3 x4 x5 : Int) (A6b : Option Addr) (n6b c6b : Nat) (s6 : List Note) (v : Int)
    (h : Sl CodeR w 0 w.heap.size A n c x) (_ : mszLCode x ≤ 1048576) (h0 : Sl FrameR w 0 w.heap.size A0b n0b c0b fs) (h1 : Sl intR w 0 w.heap.size A1b n1b c1b tr) (_ : Sl noteR w 0 w.heap.size A6b n6b c6b s6) (_ : mszLFrame fs ≤ 1048576) (_ : tr.length ≤ 1048576) (_ : s6.length ≤ 1048576) (_ : I64 x2) (_ : I64 x3) (i4 : I64 x4) (_ : I64 x5) (_ : I64 v) :
    Calls Tryz.prog 31 #[.agg #[.slice A n c], .agg #[.slice A0b n0b c0b, .slice A1b n1b c1b, .int .i64 x2, .int .i64 x3, .int .i64 x4, .int .i64 x5, .slice A6b n6b c6b], .int .i64 v] w (RetV (.tuple #[.bool (mayR x fs tr x2 x3 x4 x5 v), .bool (mayOk x fs tr x2 x3 x4 x5 v)]) w) := by
  obtain ⟨g, G⟩ : ∃ g, gvB x fs tr x2 x3 x4 x5 = g := ⟨_, rfl⟩
  obtain ⟨r, R⟩ : ∃ r, mayR x fs tr x2 x3 x4 x5 v = r := ⟨_, rfl⟩
  obtain ⟨ok, OK⟩ : ∃ r, mayOk x fs tr x2 x3 x4 x5 v = r := ⟨_, rfl⟩
  obtain ⟨iv, IV⟩ : ∃ r, inB v 0 ((n0b : Int) - 1) = r := ⟨_, rfl⟩
  have HL0 := Lib.hid h0.lenEq
  have hn0b := h0.lenLe
  have OK2 : (g && iv) = ok := by rw [← OK, ← G, ← IV, ← HL0.out]; rfl
  have R2 : (ok && mayB x fs v.toNat) = r := by rw [← R, ← OK]; rfl
  have qw : IntKind.i64.wrap ((n0b : Int) - 1) = (n0b : Int) - 1 := IntWalk.i64_in _ (by omega)
  rw [OK, R]
  clear OK R
  replace G := Lib.hid G
  replace OK2 := Lib.hid OK2
  replace R2 := Lib.hid R2
  replace IV := Lib.hid IV
  go_enter Tryz.func31, Tryz.ntmps31
  go_wp2_with fail
  refine (specGoodVm _ 0 w.heap.size A n c x A0b n0b c0b fs A1b n1b c1b tr x2 x3 x4 x5 A6b n6b c6b (h.below (show Below w.heap.size w _ by (repeat (first | with_reducible exact Below.refl _ _ | with_reducible assumption | with_reducible refine below_alloc ?_ _ | ((with_reducible refine Below.setCell ?_ ?_ _); rotate_left; (· first | exact Nat.le_refl _ | (simp; done) | (simp; omega))) | with_reducible refine below_drewN ?_ _ | with_reducible refine Below.drew ?_ | with_reducible refine below_then ?_ (by with_reducible assumption)))) (Nat.le_refl _)) (h0.below (show Below w.heap.size w _ by (repeat (first | with_reducible exact Below.refl _ _ | with_reducible assumption | with_reducible refine below_alloc ?_ _ | ((with_reducible refine Below.setCell ?_ ?_ _); rotate_left; (· first | exact Nat.le_refl _ | (simp; done) | (simp; omega))) | with_reducible refine below_drewN ?_ _ | with_reducible refine Below.drew ?_ | with_reducible refine below_then ?_ (by with_reducible assumption)))) (Nat.le_refl _)) (h1.below (show Below w.heap.size w _ by (repeat (first | with_reducible exact Below.refl _ _ | with_reducible assumption | with_reducible refine below_alloc ?_ _ | ((with_reducible refine Below.setCell ?_ ?_ _); rotate_left; (· first | exact Nat.le_refl _ | (simp; done) | (simp; omega))) | with_reducible refine below_drewN ?_ _ | with_reducible refine Below.drew ?_ | with_reducible refine below_then ?_ (by with_reducible assumption)))) (Nat.le_refl _)) (by first | omega | (simp; done) | (simp; omega)) i4).mono ?_
  rintro e w2 ⟨rfl, hb⟩
  rw [show (goodI x && vmB x fs tr x2 x3 x4 x5) = g from G.out]
  have hb2 : Below w.heap.size w w2 := below_then (show Below w.heap.size w _ by (repeat (first | with_reducible exact Below.refl _ _ | with_reducible assumption | with_reducible refine below_alloc ?_ _ | ((with_reducible refine Below.setCell ?_ ?_ _); rotate_left; (· first | exact Nat.le_refl _ | (simp; done) | (simp; omega))) | with_reducible refine below_drewN ?_ _ | with_reducible refine Below.drew ?_ | with_reducible refine below_then ?_ (by with_reducible assumption)))) (by (repeat (first | with_reducible exact Below.refl _ _ | with_reducible assumption | with_reducible refine below_alloc ?_ _ | ((with_reducible refine Below.setCell ?_ ?_ _); rotate_left; (· first | exact Nat.le_refl _ | (simp; done) | (simp; omega))) | with_reducible refine below_drewN ?_ _ | with_reducible refine Below.drew ?_ | with_reducible refine below_then ?_ (by with_reducible assumption))))
  have q0 := below_cell hb (show World.cell? _ ⟨w.heap.size, 0, none⟩ = some (.slice A n c) by simp [go_sem])
  have q1 := below_cell hb (show World.cell? _ ⟨w.heap.size + 1, 0, none⟩ = some (.slice A0b n0b c0b) by simp [go_sem])
  have q2 := below_cell hb (show World.cell? _ ⟨w.heap.size + 1, 1, none⟩ = some (.slice A1b n1b c1b) by simp [go_sem])
  have q3 := below_cell hb (show World.cell? _ ⟨w.heap.size + 1, 2, none⟩ = some (.int .i64 x2) by simp [go_sem])
  have q4 := below_cell hb (show World.cell? _ ⟨w.heap.size + 1, 3, none⟩ = some (.int .i64 x3) by simp [go_sem])
  have q5 := below_cell hb (show World.cell? _ ⟨w.heap.size + 1, 4, none⟩ = some (.int .i64 x4) by simp [go_sem])
  have q6 := below_cell hb (show World.cell? _ ⟨w.heap.size + 1, 5, none⟩ = some (.int .i64 x5) by simp [go_sem])
  have q7 := below_cell hb (show World.cell? _ ⟨w.heap.size + 1, 6, none⟩ = some (.slice A6b n6b c6b) by simp [go_sem])
  have hz2 := hb2.size
  clear hb
  cases g
  · have ho : ok = false := by rw [← OK2.out]; rfl
    subst ho
    have hr : r = false := by rw [← R2.out]; rfl
    subst hr
    go_wp2_with fail
    go_ret2
    exact ⟨rfl, hb2⟩
  · have hgg := G.out
    unfold gvB at hgg
    simp only [Bool.and_eq_true] at hgg
    cases iv
    · have ho : ok = false := by rw [← OK2.out]; rfl
      subst ho
      have hr : r = false := by rw [← R2.out]; rfl
      subst hr
      go_wp2_with (go_at_call 42; ((with_reducible refine (specL1In _ _ _ _).mono ?_); rintro e w3 ⟨rfl, rfl⟩; rw [IV.out]))
      go_ret2
      exact ⟨rfl, hb2⟩
    · have ho : ok = true := by rw [← OK2.out]; rfl
      subst ho
      have hbd := inB_iff.1 IV.out
      obtain ⟨k, hk⟩ := Int.eq_ofNat_of_zero_le hbd.1
      subst hk
      have hkn : k < n0b := by omega
      have hr := Lib.hid (show mayB x fs k = r from R2.out)
      go_wp2_with (go_at_call 42; ((with_reducible refine (specL1In _ _ _ _).mono ?_); rintro e w3 ⟨rfl, rfl⟩; rw [IV.out]))
      refine (specL9May1 _ 0 w.heap.size A n c x A0b n0b c0b fs A1b n1b c1b tr x2 x3 x4 x5 A6b n6b c6b k (h.below hb2 (Nat.le_refl _)) (h0.below hb2 (Nat.le_refl _)) (by omega) hgg.1 hgg.2 hkn).mono ?_
      rintro e w3 ⟨rfl, hb3⟩
      rw [hr.out]
      have hb4 : Below w.heap.size w w3 := below_then hb2 hb3
      go_wp2_with fail
      go_ret2
      exact ⟨rfl, hb4⟩
end Go.Proofs.YtobdkncgifckgaaGreat
