/- The frame that may stop a panic: the whole of both sides. -/
import Derived.Test.YtmnkgcjbckamnaaGreatRaise3
import Derived.Test.YtmnkgcjbckamnaaGreatMay3
set_option linter.unusedVariables false
set_option linter.unusedSimpArgs false
set_option maxRecDepth 100000
namespace Go.Proofs.YtmnkgcjbckamnaaGreat
open Go.RowKit
attribute [local irreducible] wpList
/-- The last frame below number k that may stop. -/
def topS (x : Image) (fs : List Frame) : Nat → Option Nat
  | 0 => none
  | k + 1 => if mayB x fs k = true then some k else topS x fs k
theorem topS_no {x : Image} {fs : List Frame} {k : Nat} {o : Option Nat} (h : topS x fs (k + 1) = o) (hm : mayB x fs k = false) : topS x fs k = o := by
  rw [← h]; simp [topS, hm]
theorem topS_yes {x : Image} {fs : List Frame} {k : Nat} {o : Option Nat} (h : topS x fs (k + 1) = o) (hm : mayB x fs k = true) : o = some k := by
  rw [← h]; simp [topS, hm]
noncomputable def suO (x : Image) (fs : List Frame) (tr : List Int) (x2 x3 x4 x5 : Int) : Option Nat := if gvB x fs tr x2 x3 x4 x5 = true then topS x fs fs.length else none
noncomputable def suOk (x : Image) (fs : List Frame) (tr : List Int) (x2 x3 x4 x5 : Int) : Bool := (suO x fs tr x2 x3 x4 x5).isSome
noncomputable def suR (x : Image) (fs : List Frame) (tr : List Int) (x2 x3 x4 x5 : Int) : Int := ((suO x fs tr x2 x3 x4 x5).getD 0 : Nat)
set_option maxHeartbeats 8000000 in
theorem implSearchUpC (w : World) (A : Option Addr) (n c : Nat) (x : List Code) (A0b : Option Addr) (n0b c0b : Nat) (fs : List Frame) (A1b : Option Addr) (n1b c1b : Nat) (tr : List Int) (x2 x3 x4 x5 : Int) (A6b : Option Addr) (n6b c6b : Nat) (s6 : List Note)
    (h : Sl CodeR w 0 w.heap.size A n c x) (_ : mszLCode x ≤ 1048576) (h0 : Sl FrameR w 0 w.heap.size A0b n0b c0b fs) (h1 : Sl intR w 0 w.heap.size A1b n1b c1b tr) (_ : Sl noteR w 0 w.heap.size A6b n6b c6b s6) (_ : mszLFrame fs ≤ 1048576) (_ : tr.length ≤ 1048576) (_ : s6.length ≤ 1048576) (_ : I64 x2) (_ : I64 x3) (i4 : I64 x4) (_ : I64 x5) :
    Calls Tryz.prog 24 #[.agg #[.slice A n c], .agg #[.slice A0b n0b c0b, .slice A1b n1b c1b, .int .i64 x2, .int .i64 x3, .int .i64 x4, .int .i64 x5, .slice A6b n6b c6b]] w (RetV (.tuple #[.int .i64 (suR x fs tr x2 x3 x4 x5), .bool (suOk x fs tr x2 x3 x4 x5)]) w) := by
  obtain ⟨g, G⟩ : ∃ g, gvB x fs tr x2 x3 x4 x5 = g := ⟨_, rfl⟩
  obtain ⟨o, O⟩ : ∃ r, suO x fs tr x2 x3 x4 x5 = r := ⟨_, rfl⟩
  obtain ⟨r, R⟩ : ∃ r, suR x fs tr x2 x3 x4 x5 = r := ⟨_, rfl⟩
  obtain ⟨ok, OK⟩ : ∃ r, suOk x fs tr x2 x3 x4 x5 = r := ⟨_, rfl⟩
  have HL0 := Lib.hid h0.lenEq
  have hn0b := h0.lenLe
  have OK2 := Lib.hid (show ok = o.isSome by rw [← OK, ← O]; rfl)
  have R2 := Lib.hid (show r = ((o.getD 0 : Nat) : Int) by rw [← R, ← O]; rfl)
  have O2 := Lib.hid (show (if g = true then topS x fs n0b else none) = o by rw [← O, ← G, ← HL0.out]; rfl)
  have qw : IntKind.i64.wrap ((n0b : Int) - 1) = (n0b : Int) - 1 := IntWalk.i64_in _ (by omega)
  rw [OK, R]
  clear OK R O
  replace G := Lib.hid G
  go_enter Tryz.func24, Tryz.ntmps24
  go_wp2_with fail
  refine (implGoodVm _ 0 w.heap.size A n c x A0b n0b c0b fs A1b n1b c1b tr x2 x3 x4 x5 A6b n6b c6b (h.below (show Below w.heap.size w _ by (repeat (first | with_reducible exact Below.refl _ _ | with_reducible assumption | with_reducible refine below_alloc ?_ _ | ((with_reducible refine Below.setCell ?_ ?_ _); rotate_left; (· first | exact Nat.le_refl _ | (simp; done) | (simp; omega))) | with_reducible refine below_drewN ?_ _ | with_reducible refine Below.drew ?_ | with_reducible refine below_then ?_ (by with_reducible assumption)))) (Nat.le_refl _)) (h0.below (show Below w.heap.size w _ by (repeat (first | with_reducible exact Below.refl _ _ | with_reducible assumption | with_reducible refine below_alloc ?_ _ | ((with_reducible refine Below.setCell ?_ ?_ _); rotate_left; (· first | exact Nat.le_refl _ | (simp; done) | (simp; omega))) | with_reducible refine below_drewN ?_ _ | with_reducible refine Below.drew ?_ | with_reducible refine below_then ?_ (by with_reducible assumption)))) (Nat.le_refl _)) (h1.below (show Below w.heap.size w _ by (repeat (first | with_reducible exact Below.refl _ _ | with_reducible assumption | with_reducible refine below_alloc ?_ _ | ((with_reducible refine Below.setCell ?_ ?_ _); rotate_left; (· first | exact Nat.le_refl _ | (simp; done) | (simp; omega))) | with_reducible refine below_drewN ?_ _ | with_reducible refine Below.drew ?_ | with_reducible refine below_then ?_ (by with_reducible assumption)))) (Nat.le_refl _)) (by first | omega | (simp; done) | (simp; omega)) i4).mono ?_
  rintro e w2 ⟨rfl, hb⟩
  rw [show (goodI x && vmB x fs tr x2 x3 x4 x5) = g from G.out]
  have hb2 : Below w.heap.size w w2 := below_then (show Below w.heap.size w _ by (repeat (first | with_reducible exact Below.refl _ _ | with_reducible assumption | with_reducible refine below_alloc ?_ _ | ((with_reducible refine Below.setCell ?_ ?_ _); rotate_left; (· first | exact Nat.le_refl _ | (simp; done) | (simp; omega))) | with_reducible refine below_drewN ?_ _ | with_reducible refine Below.drew ?_ | with_reducible refine below_then ?_ (by with_reducible assumption)))) (by (repeat (first | with_reducible exact Below.refl _ _ | with_reducible assumption | with_reducible refine below_alloc ?_ _ | ((with_reducible refine Below.setCell ?_ ?_ _); rotate_left; (· first | exact Nat.le_refl _ | (simp; done) | (simp; omega))) | with_reducible refine below_drewN ?_ _ | with_reducible refine Below.drew ?_ | with_reducible refine below_then ?_ (by with_reducible assumption))))
  have q0 := below_cell hb (show World.cell? _ ⟨w.heap.size, 0, none⟩ = some (.slice A n c) by simp [go_sem])
  have q1 := below_cell hb (show World.cell? _ ⟨w.heap.size + 1, 0, none⟩ = some (.slice A0b n0b c0b) by simp [go_sem])
  have q2 := below_cell hb (show World.cell? _ ⟨w.heap.size + 1, 1, none⟩ = some (.slice A1b n1b c1b) by simp [go_sem])
  have q3 := below_cell hb (show World.cell? _ ⟨w.heap.size + 1, 2, none⟩ = some (.int .i64 x2) by simp [go_sem])
  have q4 := below_cell hb (show World.cell? _ ⟨w.heap.size + 1, 3, none⟩ = some (.int .i64 x3) by simp [go_sem])
  have q5 := below_cell hb (show World.cell? _ ⟨w.heap.size + 1, 4, none⟩ = some (.int .i64 x4) by simp [go_sem])
  have q6 := below_cell hb (show World.cell? _ ⟨w.heap.size + 1, 5, none⟩ = some (.int .i64 x5) by simp [go_sem])
  have q7 := below_cell hb (show World.cell? _ ⟨w.heap.size + 1, 6, none⟩ = some (.slice A6b n6b c6b) by simp [go_sem])
  have hz2 := hb2.size
  clear hb
  cases g
  · have ho : o = none := by rw [← O2.out]; rfl
    subst ho
    have hok : ok = false := by rw [OK2.out]; rfl
    subst hok
    have hr : r = 0 := by rw [R2.out]; rfl
    subst hr
    go_wp2_with fail
    go_ret2
    exact ⟨rfl, hb2⟩
  · have hgg := G.out
    unfold gvB at hgg
    simp only [Bool.and_eq_true] at hgg
    have O3 := Lib.hid (show topS x fs n0b = o from O2.out)
    clear O2
    have hX := Lib.hid (show ∀ V', Below w2.heap.size w2 V' → V'.cell? ⟨w.heap.size, 0, none⟩ = some (.slice A n c) ∧ V'.cell? ⟨w.heap.size + 1, 0, none⟩ = some (.slice A0b n0b c0b) ∧ V'.cell? ⟨w.heap.size + 1, 1, none⟩ = some (.slice A1b n1b c1b) ∧ V'.cell? ⟨w.heap.size + 1, 2, none⟩ = some (.int .i64 x2) ∧ V'.cell? ⟨w.heap.size + 1, 3, none⟩ = some (.int .i64 x3) ∧ V'.cell? ⟨w.heap.size + 1, 4, none⟩ = some (.int .i64 x4) ∧ V'.cell? ⟨w.heap.size + 1, 5, none⟩ = some (.int .i64 x5) ∧ V'.cell? ⟨w.heap.size + 1, 6, none⟩ = some (.slice A6b n6b c6b) from
      fun V' hV => ⟨below_cell hV q0, below_cell hV q1, below_cell hV q2, below_cell hV q3, below_cell hV q4, below_cell hV q5, below_cell hV q6, below_cell hV q7⟩)
    go_wp2_with fail
    clear q2 q3 q4 q5 q6 q7 q0 q1
    go_loopw [6] (fun i wr => ∃ k : Nat, k ≤ n0b ∧ i = .int .i64 ((k : Int) - 1) ∧ (∃ oo, topS x fs k = oo ∧ oo = o) ∧ Below w2.heap.size w2 wr) (fun i _ => (intOf i + 1).toNat)
    case atStart => exact ⟨n0b, Nat.le_refl _, by go_num, ⟨_, O3.out, rfl⟩, by (repeat (first | with_reducible exact Below.refl _ _ | with_reducible assumption | with_reducible refine below_alloc ?_ _ | ((with_reducible refine Below.setCell ?_ ?_ _); rotate_left; (· first | exact Nat.le_refl _ | (simp; done) | (simp; omega))) | with_reducible refine below_drewN ?_ _ | with_reducible refine Below.drew ?_ | with_reducible refine below_then ?_ (by with_reducible assumption)))⟩
    case round =>
      obtain ⟨k, hk, rfl, ⟨oo, T0, T1⟩, hb⟩ := hrel
      have T := Lib.hid (T0.trans T1)
      clear T0 T1 oo
      have hbw : Below w.heap.size w wr := below_then hb2 hb
      have hzr := hbw.size
      obtain ⟨q0, q1, q2, q3, q4, q5, q6, q7⟩ := hX.out wr hb
      cases k with
      | zero =>
        have ho : o = none := by rw [← T.out]; rfl
        subst ho
        have hok : ok = false := by rw [OK2.out]; rfl
        subst hok
        have hr : r = 0 := by rw [R2.out]; rfl
        subst hr
        go_wp2_with fail
        go_ret2
        exact ⟨rfl, hbw⟩
      | succ j =>
        have e0 : ((j + 1 : Nat) : Int) - 1 = (j : Int) := by omega
        rw [e0]
        clear e0
        obtain ⟨m, M⟩ : ∃ m, mayB x fs j = m := ⟨_, rfl⟩
        replace M := Lib.hid M
        go_wp2_with fail
        refine (implMayStop1 _ 0 w.heap.size A n c x A0b n0b c0b fs A1b n1b c1b tr x2 x3 x4 x5 A6b n6b c6b j (h.below hbw (Nat.le_refl _)) (h0.below hbw (Nat.le_refl _)) (by omega) hgg.1 hgg.2 (by omega)).mono ?_
        rintro e w3 ⟨rfl, hb3⟩
        rw [M.out]
        have hb4 : Below w.heap.size w w3 := below_then hbw hb3
        have hb5 : Below w2.heap.size w2 w3 := below_then hb hb3
        cases m
        · have T2 := topS_no T.out M.out
          replace T2 := Lib.hid T2
          go_wp2_with fail
          go_roundw
          case rel => exact ⟨j, by omega, by go_num, ⟨_, T2.out, rfl⟩, hb5⟩
          case measure => first | (simp [intOf]; done) | (simp [intOf]; omega)
        · have ho := topS_yes T.out M.out
          subst ho
          have hok : ok = true := by rw [OK2.out]; rfl
          subst hok
          have hr : r = (j : Int) := by rw [R2.out]; rfl
          subst hr
          go_wp2_with fail
          go_ret2
          exact ⟨rfl, hb4⟩
set_option maxHeartbeats 8000000 in
theorem specSearchUpC (w : World) (A : Option Addr) (n c : Nat) (x : List Code) (A0b : Option Addr) (n0b c0b : Nat) (fs : List Frame) (A1b : Option Addr) (n1b c1b : Nat) (tr : List Int) (x2 x3 x4 x5 : Int) (A6b : Option Addr) (n6b c6b : Nat) (s6 : List Note)
    (h : Sl CodeR w 0 w.heap.size A n c x) (_ : mszLCode x ≤ 1048576) (h0 : Sl FrameR w 0 w.heap.size A0b n0b c0b fs) (h1 : Sl intR w 0 w.heap.size A1b n1b c1b tr) (_ : Sl noteR w 0 w.heap.size A6b n6b c6b s6) (_ : mszLFrame fs ≤ 1048576) (_ : tr.length ≤ 1048576) (_ : s6.length ≤ 1048576) (_ : I64 x2) (_ : I64 x3) (i4 : I64 x4) (_ : I64 x5) :
    Calls Tryz.prog 22 #[.agg #[.slice A n c], .agg #[.slice A0b n0b c0b, .slice A1b n1b c1b, .int .i64 x2, .int .i64 x3, .int .i64 x4, .int .i64 x5, .slice A6b n6b c6b]] w (RetV (.tuple #[.int .i64 (suR x fs tr x2 x3 x4 x5), .bool (suOk x fs tr x2 x3 x4 x5)]) w) := by
  obtain ⟨g, G⟩ : ∃ g, gvB x fs tr x2 x3 x4 x5 = g := ⟨_, rfl⟩
  obtain ⟨o, O⟩ : ∃ r, suO x fs tr x2 x3 x4 x5 = r := ⟨_, rfl⟩
  obtain ⟨r, R⟩ : ∃ r, suR x fs tr x2 x3 x4 x5 = r := ⟨_, rfl⟩
  obtain ⟨ok, OK⟩ : ∃ r, suOk x fs tr x2 x3 x4 x5 = r := ⟨_, rfl⟩
  have HL0 := Lib.hid h0.lenEq
  have hn0b := h0.lenLe
  have OK2 := Lib.hid (show ok = o.isSome by rw [← OK, ← O]; rfl)
  have R2 := Lib.hid (show r = ((o.getD 0 : Nat) : Int) by rw [← R, ← O]; rfl)
  have O2 := Lib.hid (show (if g = true then topS x fs n0b else none) = o by rw [← O, ← G, ← HL0.out]; rfl)
  have qw : IntKind.i64.wrap ((n0b : Int) - 1) = (n0b : Int) - 1 := IntWalk.i64_in _ (by omega)
  rw [OK, R]
  clear OK R O
  replace G := Lib.hid G
  go_enter Tryz.func22, Tryz.ntmps22
  go_wp2_with fail
  refine (specGoodVm _ 0 w.heap.size A n c x A0b n0b c0b fs A1b n1b c1b tr x2 x3 x4 x5 A6b n6b c6b (h.below (show Below w.heap.size w _ by (repeat (first | with_reducible exact Below.refl _ _ | with_reducible assumption | with_reducible refine below_alloc ?_ _ | ((with_reducible refine Below.setCell ?_ ?_ _); rotate_left; (· first | exact Nat.le_refl _ | (simp; done) | (simp; omega))) | with_reducible refine below_drewN ?_ _ | with_reducible refine Below.drew ?_ | with_reducible refine below_then ?_ (by with_reducible assumption)))) (Nat.le_refl _)) (h0.below (show Below w.heap.size w _ by (repeat (first | with_reducible exact Below.refl _ _ | with_reducible assumption | with_reducible refine below_alloc ?_ _ | ((with_reducible refine Below.setCell ?_ ?_ _); rotate_left; (· first | exact Nat.le_refl _ | (simp; done) | (simp; omega))) | with_reducible refine below_drewN ?_ _ | with_reducible refine Below.drew ?_ | with_reducible refine below_then ?_ (by with_reducible assumption)))) (Nat.le_refl _)) (h1.below (show Below w.heap.size w _ by (repeat (first | with_reducible exact Below.refl _ _ | with_reducible assumption | with_reducible refine below_alloc ?_ _ | ((with_reducible refine Below.setCell ?_ ?_ _); rotate_left; (· first | exact Nat.le_refl _ | (simp; done) | (simp; omega))) | with_reducible refine below_drewN ?_ _ | with_reducible refine Below.drew ?_ | with_reducible refine below_then ?_ (by with_reducible assumption)))) (Nat.le_refl _)) (by first | omega | (simp; done) | (simp; omega)) i4).mono ?_
  rintro e w2 ⟨rfl, hb⟩
  rw [show (goodI x && vmB x fs tr x2 x3 x4 x5) = g from G.out]
  have hb2 : Below w.heap.size w w2 := below_then (show Below w.heap.size w _ by (repeat (first | with_reducible exact Below.refl _ _ | with_reducible assumption | with_reducible refine below_alloc ?_ _ | ((with_reducible refine Below.setCell ?_ ?_ _); rotate_left; (· first | exact Nat.le_refl _ | (simp; done) | (simp; omega))) | with_reducible refine below_drewN ?_ _ | with_reducible refine Below.drew ?_ | with_reducible refine below_then ?_ (by with_reducible assumption)))) (by (repeat (first | with_reducible exact Below.refl _ _ | with_reducible assumption | with_reducible refine below_alloc ?_ _ | ((with_reducible refine Below.setCell ?_ ?_ _); rotate_left; (· first | exact Nat.le_refl _ | (simp; done) | (simp; omega))) | with_reducible refine below_drewN ?_ _ | with_reducible refine Below.drew ?_ | with_reducible refine below_then ?_ (by with_reducible assumption))))
  have q0 := below_cell hb (show World.cell? _ ⟨w.heap.size, 0, none⟩ = some (.slice A n c) by simp [go_sem])
  have q1 := below_cell hb (show World.cell? _ ⟨w.heap.size + 1, 0, none⟩ = some (.slice A0b n0b c0b) by simp [go_sem])
  have q2 := below_cell hb (show World.cell? _ ⟨w.heap.size + 1, 1, none⟩ = some (.slice A1b n1b c1b) by simp [go_sem])
  have q3 := below_cell hb (show World.cell? _ ⟨w.heap.size + 1, 2, none⟩ = some (.int .i64 x2) by simp [go_sem])
  have q4 := below_cell hb (show World.cell? _ ⟨w.heap.size + 1, 3, none⟩ = some (.int .i64 x3) by simp [go_sem])
  have q5 := below_cell hb (show World.cell? _ ⟨w.heap.size + 1, 4, none⟩ = some (.int .i64 x4) by simp [go_sem])
  have q6 := below_cell hb (show World.cell? _ ⟨w.heap.size + 1, 5, none⟩ = some (.int .i64 x5) by simp [go_sem])
  have q7 := below_cell hb (show World.cell? _ ⟨w.heap.size + 1, 6, none⟩ = some (.slice A6b n6b c6b) by simp [go_sem])
  have hz2 := hb2.size
  clear hb
  cases g
  · have ho : o = none := by rw [← O2.out]; rfl
    subst ho
    have hok : ok = false := by rw [OK2.out]; rfl
    subst hok
    have hr : r = 0 := by rw [R2.out]; rfl
    subst hr
    go_wp2_with fail
    go_ret2
    exact ⟨rfl, hb2⟩
  · have hgg := G.out
    unfold gvB at hgg
    simp only [Bool.and_eq_true] at hgg
    have O3 := Lib.hid (show topS x fs n0b = o from O2.out)
    clear O2
    have hX := Lib.hid (show ∀ V', Below w2.heap.size w2 V' → V'.cell? ⟨w.heap.size, 0, none⟩ = some (.slice A n c) ∧ V'.cell? ⟨w.heap.size + 1, 0, none⟩ = some (.slice A0b n0b c0b) ∧ V'.cell? ⟨w.heap.size + 1, 1, none⟩ = some (.slice A1b n1b c1b) ∧ V'.cell? ⟨w.heap.size + 1, 2, none⟩ = some (.int .i64 x2) ∧ V'.cell? ⟨w.heap.size + 1, 3, none⟩ = some (.int .i64 x3) ∧ V'.cell? ⟨w.heap.size + 1, 4, none⟩ = some (.int .i64 x4) ∧ V'.cell? ⟨w.heap.size + 1, 5, none⟩ = some (.int .i64 x5) ∧ V'.cell? ⟨w.heap.size + 1, 6, none⟩ = some (.slice A6b n6b c6b) from
      fun V' hV => ⟨below_cell hV q0, below_cell hV q1, below_cell hV q2, below_cell hV q3, below_cell hV q4, below_cell hV q5, below_cell hV q6, below_cell hV q7⟩)
    go_wp2_with fail
    clear q2 q3 q4 q5 q6 q7 q0 q1
    go_loopw [6] (fun i wr => ∃ k : Nat, k ≤ n0b ∧ i = .int .i64 ((k : Int) - 1) ∧ (∃ oo, topS x fs k = oo ∧ oo = o) ∧ Below w2.heap.size w2 wr) (fun i _ => (intOf i + 1).toNat)
    case atStart => exact ⟨n0b, Nat.le_refl _, by go_num, ⟨_, O3.out, rfl⟩, by (repeat (first | with_reducible exact Below.refl _ _ | with_reducible assumption | with_reducible refine below_alloc ?_ _ | ((with_reducible refine Below.setCell ?_ ?_ _); rotate_left; (· first | exact Nat.le_refl _ | (simp; done) | (simp; omega))) | with_reducible refine below_drewN ?_ _ | with_reducible refine Below.drew ?_ | with_reducible refine below_then ?_ (by with_reducible assumption)))⟩
    case round =>
      obtain ⟨k, hk, rfl, ⟨oo, T0, T1⟩, hb⟩ := hrel
      have T := Lib.hid (T0.trans T1)
      clear T0 T1 oo
      have hbw : Below w.heap.size w wr := below_then hb2 hb
      have hzr := hbw.size
      obtain ⟨q0, q1, q2, q3, q4, q5, q6, q7⟩ := hX.out wr hb
      cases k with
      | zero =>
        have ho : o = none := by rw [← T.out]; rfl
        subst ho
        have hok : ok = false := by rw [OK2.out]; rfl
        subst hok
        have hr : r = 0 := by rw [R2.out]; rfl
        subst hr
        go_wp2_with fail
        go_ret2
        exact ⟨rfl, hbw⟩
      | succ j =>
        have e0 : ((j + 1 : Nat) : Int) - 1 = (j : Int) := by omega
        rw [e0]
        clear e0
        obtain ⟨m, M⟩ : ∃ m, mayB x fs j = m := ⟨_, rfl⟩
        replace M := Lib.hid M
        go_wp2_with fail
        refine (specL9May1 _ 0 w.heap.size A n c x A0b n0b c0b fs A1b n1b c1b tr x2 x3 x4 x5 A6b n6b c6b j (h.below hbw (Nat.le_refl _)) (h0.below hbw (Nat.le_refl _)) (by omega) hgg.1 hgg.2 (by omega)).mono ?_
        rintro e w3 ⟨rfl, hb3⟩
        rw [M.out]
        have hb4 : Below w.heap.size w w3 := below_then hbw hb3
        have hb5 : Below w2.heap.size w2 w3 := below_then hb hb3
        cases m
        · have T2 := topS_no T.out M.out
          replace T2 := Lib.hid T2
          go_wp2_with fail
          go_roundw
          case rel => exact ⟨j, by omega, by go_num, ⟨_, T2.out, rfl⟩, hb5⟩
          case measure => first | (simp [intOf]; done) | (simp [intOf]; omega)
        · have ho := topS_yes T.out M.out
          subst ho
          have hok : ok = true := by rw [OK2.out]; rfl
          subst hok
          have hr : r = (j : Int) := by rw [R2.out]; rfl
          subst hr
          go_wp2_with fail
          go_ret2
          exact ⟨rfl, hb4⟩
end Go.Proofs.YtmnkgcjbckamnaaGreat
