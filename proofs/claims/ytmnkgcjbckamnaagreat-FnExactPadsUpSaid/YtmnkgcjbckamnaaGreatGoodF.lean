/- Whether a frame alone is as said: plain law; walks of the program's side. -/
import Derived.Test.YtmnkgcjbckamnaaGreatLive
import Derived.Test.YtmnkgcjbckamnaaGreatTyVx
import Derived.Test.YtmnkgcjbckamnaaGreatExprG
import Derived.Test.YtmnkgcjbckamnaaGreatKit1
import Derived.BigGuardPart
set_option linter.unusedVariables false
set_option linter.unusedSimpArgs false
set_option maxRecDepth 100000
namespace Go.Proofs.YtmnkgcjbckamnaaGreat
open Go.RowKit
attribute [local irreducible] wpList
/-- What is asked of a frame's fields, its code's variables, sites and instructions being so many. -/
def fldB (nv : Int) (ns ni : Nat) (f : Frame) : Bool :=
  small f.1 && inB f.2.2.1 0 ((ni : Int) - 1) && f.2.2.2.1.all small && f.2.2.2.2.1.all small && decide ((f.2.2.2.2.1.length : Int) = nv) && decide ((f.2.2.2.2.2.1.length : Int) = (ns : Int)) &&
    small f.2.2.2.2.2.2.1 && inB f.2.2.2.2.2.2.2.1 0 3 && small f.2.2.2.2.2.2.2.2.1 && (decide (f.2.2.2.2.2.2.2.2.2.1 = 1) || decide (f.2.2.2.2.2.2.2.2.2.1 = 3))
def codeD (x : Image) (k : Int) : Code := x.getD k.toNat (0, 0, [], [], [])
def frB (x : Image) (f : Frame) : Bool := inB f.2.1 0 ((x.length : Int) - 1) && fldB (codeD x f.2.1).2.1 (codeD x f.2.1).2.2.1.length (codeD x f.2.1).2.2.2.1.length f
theorem codeD_at {x : Image} {k : Nat} (hk : k < x.length) : codeD x (k : Int) = x[k] := by unfold codeD; simp [List.getD, hk]
theorem implIsSmall2 (w : World) (n : Int) (h : I64 n) : Calls Tryz.prog 167 #[.int .i64 n] w (fun e w' => e = .returned (.bool (small n)) ∧ w' = w) := by
  have hq := Lib.hid (small_wrap n h)
  go_enter Tryz.func167, Tryz.ntmps167
  go_wp2
  go_ret
  exact ⟨by rw [← hq.out]; rfl, rfl⟩
theorem implAreSmall1 (w : World) (n : Int) (h : I64 n) : Calls Tryz.prog 173 #[.int .i64 n] w (RetB (!small n) w) := by
  go_enter Tryz.func173, Tryz.ntmps173
  go_wp2_with (go_at_call 167; ((with_reducible refine (implIsSmall _ _ h).mono ?_); rintro e w2 ⟨rfl, hb⟩))
  go_ret
  exact RetB.mk rfl hb
theorem implAreSmall (w : World) (lo hi n c : Nat) (A : Option Addr) (l : List Int) (h : Sl intR w lo hi A n c l) (hh : hi ≤ w.heap.size) : Calls Tryz.prog 116 #[.slice A n c] w (RetB (l.all small) w) := by
  go_enter Tryz.func116, Tryz.ntmps116
  go_wp2_with fail
  refine (conFuncInt 173 #[] (fun x => !small x) _ lo hi n c A l (h.below (show Below w.heap.size w _ by (repeat (first | with_reducible exact Below.refl _ _ | with_reducible assumption | with_reducible refine below_alloc ?_ _ | ((with_reducible refine Below.setCell ?_ ?_ _); rotate_left; (· first | exact Nat.le_refl _ | (simp; done) | (simp; omega))) | with_reducible refine below_drewN ?_ _ | with_reducible refine Below.drew ?_ | with_reducible refine below_then ?_ (by with_reducible assumption)))) hh) (by first | omega | (simp; done) | (simp; omega)) (fun _ _ => by kernel_rfl) (fun W x0 _ hW hi => implAreSmall1 W x0 hi)).mono ?_
  rintro e w2 ⟨rfl, hb⟩
  go_wp2_with fail
  go_ret
  exact RetB.mk (by rw [← any_not_all]) (by (repeat (first | with_reducible exact Below.refl _ _ | with_reducible assumption | with_reducible refine below_alloc ?_ _ | ((with_reducible refine Below.setCell ?_ ?_ _); rotate_left; (· first | exact Nat.le_refl _ | (simp; done) | (simp; omega))) | with_reducible refine below_drewN ?_ _ | with_reducible refine Below.drew ?_ | with_reducible refine below_then ?_ (by with_reducible assumption))))
theorem specL8Bounds (w : World) (lo hi n c : Nat) (A : Option Addr) (l : List Int) (h : Sl intR w lo hi A n c l) (hh : hi ≤ w.heap.size) : Calls Tryz.prog 115 #[.slice A n c] w (RetB (l.all small) w) := by
  go_enter Tryz.func115, Tryz.ntmps115
  go_wp2_with fail
  refine (specL1All _ lo hi n c A l _ _ (h.below (show Below w.heap.size w _ by (repeat (first | with_reducible exact Below.refl _ _ | with_reducible assumption | with_reducible refine below_alloc ?_ _ | ((with_reducible refine Below.setCell ?_ ?_ _); rotate_left; (· first | exact Nat.le_refl _ | (simp; done) | (simp; omega))) | with_reducible refine below_drewN ?_ _ | with_reducible refine Below.drew ?_ | with_reducible refine below_then ?_ (by with_reducible assumption)))) hh) (by first | omega | (simp; done) | (simp; omega))).mono ?_
  rintro e w2 ⟨rfl, hb⟩
  go_wp2_with fail
  go_ret
  exact RetB.mk rfl (by (repeat (first | with_reducible exact Below.refl _ _ | with_reducible assumption | with_reducible refine below_alloc ?_ _ | ((with_reducible refine Below.setCell ?_ ?_ _); rotate_left; (· first | exact Nat.le_refl _ | (simp; done) | (simp; omega))) | with_reducible refine below_drewN ?_ _ | with_reducible refine Below.drew ?_ | with_reducible refine below_then ?_ (by with_reducible assumption))))
set_option maxHeartbeats 16000000 in
theorem implIsFrame (w : World) (lo hi : Nat) (A : Option Addr) (n c : Nat) (x : List Code) (x0 x1 x2 : Int) (A3 : Option Addr) (n3 c3 : Nat) (s3 : List Int) (A4 : Option Addr) (n4 c4 : Nat) (s4 : List Int) (A5 : Option Addr) (n5 c5 : Nat) (s5 : List Bool) (x6 x7 x8 x9 : Int) (y10 : Bool)
    (h : Sl CodeR w lo hi A n c x) (h3 : Sl intR w lo hi A3 n3 c3 s3) (h4 : Sl intR w lo hi A4 n4 c4 s4) (h5 : Sl boolR w lo hi A5 n5 c5 s5) (hh : hi ≤ w.heap.size) (i0 : I64 x0) (i6 : I64 x6) (i8 : I64 x8) (hx : x.length ≤ 5) :
    Calls Tryz.prog 168 #[.agg #[.slice A n c], .agg #[.int .i64 x0, .int .i64 x1, .int .i64 x2, .slice A3 n3 c3, .slice A4 n4 c4, .slice A5 n5 c5, .int .i64 x6, .int .i64 x7, .int .i64 x8, .int .i64 x9, .bool y10]] w (RetB (frB x (x0, x1, x2, s3, s4, s5, x6, x7, x8, x9, y10)) w) := by
  have HL := h.lenEq
  have hn1 := h.lenLe
  have q0 : IntKind.i64.wrap ((n : Int) - 1) = (n : Int) - 1 := IntWalk.i64_in _ (by omega)
  have e0 : frB x (x0, x1, x2, s3, s4, s5, x6, x7, x8, x9, y10) = (inB x1 0 ((n : Int) - 1) && fldB (codeD x x1).2.1 (codeD x x1).2.2.1.length (codeD x x1).2.2.2.1.length (x0, x1, x2, s3, s4, s5, x6, x7, x8, x9, y10)) := by unfold frB; rw [HL]
  by_cases g : inB x1 0 ((n : Int) - 1) = true
  rotate_left
  · have g : inB x1 0 ((n : Int) - 1) = false := by simpa using g
    have hn := Lib.hid (show frB x (x0, x1, x2, s3, s4, s5, x6, x7, x8, x9, y10) = false by rw [e0, g]; rfl)
    clear e0 HL
    go_enter Tryz.func168, Tryz.ntmps168
    go_wp2_with (go_at_call 46; ((with_reducible refine (implWithin _ _ _ _).mono ?_); rintro e w3 ⟨rfl, rfl⟩))
    go_ret
    exact RetB.mk hn.out.symm (by (repeat (first | with_reducible exact Below.refl _ _ | with_reducible assumption | with_reducible refine below_alloc ?_ _ | ((with_reducible refine Below.setCell ?_ ?_ _); rotate_left; (· first | exact Nat.le_refl _ | (simp; done) | (simp; omega))) | with_reducible refine below_drewN ?_ _ | with_reducible refine Below.drew ?_ | with_reducible refine below_then ?_ (by with_reducible assumption))))
  have hbd := inB_iff.1 g
  obtain ⟨j, rfl⟩ := Int.eq_ofNat_of_zero_le hbd.1
  have hj : j < n := by omega
  rw [g, Bool.true_and, codeD_at (show j < x.length by omega)] at e0
  obtain ⟨b0, o0, y0, y1, D2, m2, d2, t2, D3, m3, d3, t3, D4, m4, d4, t4, rfl, _, hbb, hl, _, _, k2, k3, k4, u0, u1, u2, u3, u4⟩ := Code_at h hj
  rw [hl] at e0
  simp only [fldB, k2.lenEq, k3.lenEq, h4.lenEq, h5.lenEq] at e0
  have hm1 := k3.lenLe
  have q1 : IntKind.i64.wrap ((m3 : Int) - 1) = (m3 : Int) - 1 := IntWalk.i64_in _ (by omega)
  have hv : ∀ b : Bool, ∃ c, b = c := fun b => ⟨b, rfl⟩
  obtain ⟨c0, C0⟩ := hv (small x0)
  obtain ⟨c2, C2⟩ := hv (inB x2 0 ((m3 : Int) - 1))
  obtain ⟨b3, B3⟩ := hv (s3.all small)
  obtain ⟨b4, B4⟩ := hv (s4.all small)
  obtain ⟨c6, C6⟩ := hv (small x6)
  obtain ⟨c7, C7⟩ := hv (inB x7 0 3)
  obtain ⟨c8, C8⟩ := hv (small x8)
  rw [C0, C2, B3, B4, C6, C7, C8] at e0
  replace C0 := Lib.hid C0
  replace C2 := Lib.hid C2
  replace B3 := Lib.hid B3
  replace B4 := Lib.hid B4
  replace C6 := Lib.hid C6
  replace C7 := Lib.hid C7
  replace C8 := Lib.hid C8
  clear hv
  have E := Lib.hid e0
  have hbw : b0 < w.heap.size := by omega
  clear e0 HL hbd hl k2 k3 k4 hn1 hm1
  go_enter Tryz.func168, Tryz.ntmps168
  go_wp2_with (first
    | (go_at_call 167; ((with_reducible refine (implIsSmall2 _ x0 i0).mono ?_); intro e W hE; obtain ⟨he, hW⟩ := hE; subst he; have hbW : Below w.heap.size w W := (by rw [hW]; (repeat (first | with_reducible exact Below.refl _ _ | with_reducible assumption | with_reducible refine below_alloc ?_ _ | ((with_reducible refine Below.setCell ?_ ?_ _); rotate_left; (· first | exact Nat.le_refl _ | (simp; done) | (simp; omega))) | with_reducible refine below_drewN ?_ _ | with_reducible refine Below.drew ?_ | with_reducible refine below_then ?_ (by with_reducible assumption)))); have hzW : w.heap.size + 3 ≤ W.heap.size := (by rw [hW]; simp); have hS := Lib.hid (show ∀ V, Below W.heap.size W V → V.cell? ⟨w.heap.size + 1, 2, none⟩ = some (.int .i64 x2) ∧ V.cell? ⟨w.heap.size + 1, 3, none⟩ = some (.slice A3 n3 c3) ∧ V.cell? ⟨w.heap.size + 1, 4, none⟩ = some (.slice A4 n4 c4) ∧ V.cell? ⟨w.heap.size + 1, 5, none⟩ = some (.slice A5 n5 c5) ∧ V.cell? ⟨w.heap.size + 1, 6, none⟩ = some (.int .i64 x6) ∧ V.cell? ⟨w.heap.size + 1, 7, none⟩ = some (.int .i64 x7) ∧ V.cell? ⟨w.heap.size + 1, 8, none⟩ = some (.int .i64 x8) ∧ V.cell? ⟨w.heap.size + 1, 9, none⟩ = some (.int .i64 x9) ∧ V.cell? ⟨w.heap.size + 2, 1, none⟩ = some (.int .i64 y1) ∧ V.cell? ⟨w.heap.size + 2, 2, none⟩ = some (.slice D2 m2 d2) ∧ V.cell? ⟨w.heap.size + 2, 3, none⟩ = some (.slice D3 m3 d3) from (fun V hV => by refine ⟨below_cell hV ?_, below_cell hV ?_, below_cell hV ?_, below_cell hV ?_, below_cell hV ?_, below_cell hV ?_, below_cell hV ?_, below_cell hV ?_, below_cell hV ?_, below_cell hV ?_, below_cell hV ?_⟩ <;> (rw [hW]; simp [go_sem]))); obtain ⟨q0, q1, q2, q3, q4, q5, q6, q7, q8, q9, q10⟩ := hS.out W (Below.refl _ _); clear hW; rw [C0.out]; cases c0))
    | (go_at_call 167; ((with_reducible refine (implIsSmall2 _ x6 i6).mono ?_); rintro e w3 ⟨rfl, rfl⟩; rw [C6.out]; cases c6))
    | (go_at_call 167; ((with_reducible refine (implIsSmall2 _ x8 i8).mono ?_); rintro e w3 ⟨rfl, rfl⟩; rw [C8.out]; cases c8))
    | (go_at_call 116; ((with_reducible refine (implAreSmall _ lo hi n3 c3 A3 s3 (h3.below (show Below w.heap.size w _ by (repeat (first | with_reducible exact Below.refl _ _ | with_reducible assumption | with_reducible refine below_alloc ?_ _ | ((with_reducible refine Below.setCell ?_ ?_ _); rotate_left; (· first | exact Nat.le_refl _ | (simp; done) | (simp; omega))) | with_reducible refine below_drewN ?_ _ | with_reducible refine Below.drew ?_ | with_reducible refine below_then ?_ (by with_reducible assumption)))) hh) (by omega)).mono ?_); rintro e w4 ⟨rfl, hb4⟩; obtain ⟨q0, q1, q2, q3, q4, q5, q6, q7, q8, q9, q10⟩ := hS.out w4 hb4; rw [B3.out]; cases b3))
    | (go_at_call 116; ((with_reducible refine (implAreSmall _ lo hi n4 c4 A4 s4 (h4.below (show Below w.heap.size w _ by (repeat (first | with_reducible exact Below.refl _ _ | with_reducible assumption | with_reducible refine below_alloc ?_ _ | ((with_reducible refine Below.setCell ?_ ?_ _); rotate_left; (· first | exact Nat.le_refl _ | (simp; done) | (simp; omega))) | with_reducible refine below_drewN ?_ _ | with_reducible refine Below.drew ?_ | with_reducible refine below_then ?_ (by with_reducible assumption)))) hh) (by have := hb4.size; omega)).mono ?_); rintro e w5 ⟨rfl, hb5⟩; have hb6 := below_then hb4 hb5; obtain ⟨q0, q1, q2, q3, q4, q5, q6, q7, q8, q9, q10⟩ := hS.out w5 hb6; rw [B4.out]; cases b4))
    | (go_at_call 46; ((with_reducible refine (implWithin _ x7 _ _).mono ?_); rintro e w3 ⟨rfl, rfl⟩; rw [C7.out]; cases c7))
    | (go_at_call 46; ((with_reducible refine (implWithin _ x2 _ _).mono ?_); rintro e w3 ⟨rfl, rfl⟩; rw [C2.out]; cases c2))
    | (go_at_call 46; ((with_reducible refine (implWithin _ _ _ _).mono ?_); rintro e w3 ⟨rfl, rfl⟩)))
  all_goals
    go_ret
    refine RetB.mk ?_ (by (repeat (first | with_reducible exact Below.refl _ _ | with_reducible assumption | with_reducible refine below_alloc ?_ _ | ((with_reducible refine Below.setCell ?_ ?_ _); rotate_left; (· first | exact Nat.le_refl _ | (simp; done) | (simp; omega))) | with_reducible refine below_drewN ?_ _ | with_reducible refine Below.drew ?_ | with_reducible refine below_then ?_ (by with_reducible assumption))))
    rw [E.out]
    clear E
    first
      | rfl
      | (simp [*]; done)
      | (simp only [*, eq_self, decide_true, decide_false, Bool.true_and, Bool.and_true, Bool.false_or, Bool.or_false, Bool.true_or, Bool.or_true]; first | rfl | (simp; done) | (simp [*]; done) | (rename_i hx9; rw [show (x9 == 1) = decide (x9 = 1) from rfl, show (x9 == 3) = decide (x9 = 3) from rfl, decide_eq_false hx9]; rfl))
end Go.Proofs.YtmnkgcjbckamnaaGreat
