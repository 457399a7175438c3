/- LowerFunc and LongOf: walks of both sides. -/
import Derived.Test.YtgagbbhnifkclaaLowFI
import Derived.Test.YtgagbbhnifkclaaLowFS
import Derived.Test.YtgagbbhnifkclaaPgI
import Derived.Test.YtgagbbhnifkclaaPgS
set_option linter.unusedVariables false
set_option linter.unusedSimpArgs false
set_option maxRecDepth 100000
namespace Go.Proofs.Ytgagbbhnifkclaa
open Go.RowKit
theorem lowF_len {f : Func} (h : LowF f) : (lowF f).2.2.2.1.length ≤ 246 := by
  have h1 := codeB_long h
  have h2 := h.sites
  unfold lowF
  simp only [List.length_append, List.length_cons, List.length_nil]
  have : ∀ p m, (padI p m).length = m := fun p m => by simp [padI]
  rw [this]; omega
def lowVB (fs : List Func) (v : Int) : Bool := goodP fs && inB v 0 ((fs.length : Int) - 1)
def lowC (fs : List Func) (v : Int) : Code := if lowVB fs v = true then ((fs[v.toNat]?).map lowF).getD (0, 0, [], [], []) else (0, 0, [], [], [])
theorem lowC_at {fs : List Func} {j : Nat} (h : lowVB fs (j : Int) = true) (hj : j < fs.length) : lowC fs (j : Int) = lowF fs[j] := by
  unfold lowC; rw [if_pos h]; simp [hj]
theorem lowC_no {fs : List Func} {v : Int} (h : lowVB fs v = false) : lowC fs v = (0, 0, [], [], []) := by unfold lowC; rw [h]; rfl
theorem lowC_len (fs : List Func) (v : Int) : (lowC fs v).2.2.2.1.length ≤ 246 := by
  by_cases h : lowVB fs v = true
  · have h0 := h
    unfold lowVB at h
    rw [Bool.and_eq_true] at h
    have h2 := inB_iff.1 h.2
    obtain ⟨j, rfl⟩ := Int.eq_ofNat_of_zero_le (show 0 ≤ v by omega)
    have hj : j < fs.length := by omega
    rw [lowC_at h0 hj]
    exact lowF_len ((goodP_low h.1).2 _ (List.getElem_mem hj))
  · rw [lowC_no (by simpa using h)]; simp
/-- The call returns a code that is read, and whether it is one. -/
def RetCodeSB (c : Code) (b : Bool) (w : World) (e : Ending) (w' : World) : Prop :=
  ∃ A2 n2 c2 A3 n3 c3 A4 n4 c4, e = .returned (.tuple #[.agg #[.int .i64 c.1, .int .i64 c.2.1, .slice A2 n2 c2, .slice A3 n3 c3, .slice A4 n4 c4], .bool b]) ∧ Sl intR w' 0 w'.heap.size A2 n2 c2 c.2.2.1 ∧ Sl InsR w' 0 w'.heap.size A3 n3 c3 c.2.2.2.1 ∧ Sl RowR w' 0 w'.heap.size A4 n4 c4 c.2.2.2.2 ∧ Below w.heap.size w w'
theorem RetCodeB.toS {c : Code} {b : Bool} {w w' : World} {e : Ending} (h : RetCodeB c b w e w') : RetCodeSB c b w e w' := by
  obtain ⟨A2, n2, c2, A3, n3, c3, A4, n4, c4, F2, F3, F4, rfl, h2, h3, h4, _, _, hb⟩ := h
  exact ⟨_, _, _, _, _, _, _, _, _, rfl, h2.sl, h3.sl, h4.sl, hb⟩
set_option maxHeartbeats 4000000 in
theorem implLowerFunc2 (w : World) (lo hi : Nat) (A : Option Addr) (n c : Nat) (fs : List Func) (v : Int) (h : Sl FuncR w lo hi A n c fs) (hh : hi ≤ w.heap.size) (hm : mszLFunc fs ≤ 1048576) :
    Calls Try.prog 48 #[.agg #[.slice A n c], .int .i64 v] w (RetCodeB (lowC fs v) (lowVB fs v) w) := by
  have e1 := h.lenEq
  have hml := mszLFunc_len fs
  generalize hg0 : goodP fs = g
  have hg := Lib.hid hg0
  cases g
  · have hT := Lib.hid (show lowVB fs v = false by unfold lowVB; rw [hg.out]; rfl)
    rw [hT.out, lowC_no hT.out]
    clear hg0
    go_enter Try.func48, Try.ntmps48
    go_wp2_with fail
    refine (implIsProg _ lo hi A n c fs (h.below (show Below w.heap.size w _ by (repeat (first | with_reducible exact Below.refl _ _ | with_reducible assumption | with_reducible refine below_alloc ?_ _ | ((with_reducible refine Below.setCell ?_ ?_ _); rotate_left; (· first | exact Nat.le_refl _ | (simp; done) | (simp; omega))) | with_reducible refine below_drewN ?_ _ | with_reducible refine Below.drew ?_ | with_reducible refine below_then ?_ (by with_reducible assumption)))) hh) (by first | omega | (simp; omega)) hm).mono ?_
    rintro e w2 ⟨rfl, hb2⟩
    rw [hg.out]
    have hx2 : Below w.heap.size w w2 := by (repeat (first | with_reducible exact Below.refl _ _ | with_reducible assumption | with_reducible refine below_alloc ?_ _ | ((with_reducible refine Below.setCell ?_ ?_ _); rotate_left; (· first | exact Nat.le_refl _ | (simp; done) | (simp; omega))) | with_reducible refine below_drewN ?_ _ | with_reducible refine Below.drew ?_ | with_reducible refine below_then ?_ (by with_reducible assumption)))
    obtain ⟨hcE, hfE⟩ := bcell hb2
    have p0 : w2.cell? ⟨w.heap.size, 0, none⟩ = some (.slice A n c) := by simp [hcE, go_sem]
    have r0 : w2.cell? ⟨w.heap.size + 1, 0, none⟩ = some (.int .i64 0) := by simp [hcE, go_sem]
    have r1 : w2.cell? ⟨w.heap.size + 1, 1, none⟩ = some (.int .i64 0) := by simp [hcE, go_sem]
    have r2 : w2.cell? ⟨w.heap.size + 1, 2, none⟩ = some (.slice none 0 0) := by simp [hcE, go_sem]
    have r3 : w2.cell? ⟨w.heap.size + 1, 3, none⟩ = some (.slice none 0 0) := by simp [hcE, go_sem]
    have r4 : w2.cell? ⟨w.heap.size + 1, 4, none⟩ = some (.slice none 0 0) := by simp [hcE, go_sem]
    have rf : ∀ j, w2.frozen? ⟨w.heap.size + 1, j, none⟩ = false := fun j => by simp [hfE, go_sem]
    have hR2 : w.heap.size + 1 < w2.heap.size := World.block_lt_of_cell? w2 _ r0
    clear hcE hfE hb2
    go_wp2_with (go_at_call 105; ((with_reducible refine (implWithin _ _ _ _).mono ?_); rintro e w3 ⟨rfl, rfl⟩))
    refine bodyPost_ret (v := .tuple #[.agg #[.int .i64 0, .int .i64 0, .slice none 0 0, .slice none 0 0, .slice none 0 0], .bool false]) (by simp [results, Try.results48, go_sem, r0, r1, r2, r3, r4]) rfl ?_
    exact RetCodeB.none (by (repeat (first | with_reducible exact Below.refl _ _ | with_reducible assumption | with_reducible refine below_alloc ?_ _ | ((with_reducible refine Below.setCell ?_ ?_ _); rotate_left; (· first | exact Nat.le_refl _ | (simp; done) | (simp; omega))) | with_reducible refine below_drewN ?_ _ | with_reducible refine Below.drew ?_ | with_reducible refine below_then ?_ (by with_reducible assumption))))
  by_cases hv : inB v 0 ((fs.length : Int) - 1) = true
  rotate_left
  · have hv : inB v 0 ((fs.length : Int) - 1) = false := by simpa using hv
    have hT := Lib.hid (show lowVB fs v = false by unfold lowVB; rw [hv, Bool.and_false])
    rw [hT.out, lowC_no hT.out]
    rw [e1] at hv
    clear hg0
    go_enter Try.func48, Try.ntmps48
    go_wp2_with fail
    refine (implIsProg _ lo hi A n c fs (h.below (show Below w.heap.size w _ by (repeat (first | with_reducible exact Below.refl _ _ | with_reducible assumption | with_reducible refine below_alloc ?_ _ | ((with_reducible refine Below.setCell ?_ ?_ _); rotate_left; (· first | exact Nat.le_refl _ | (simp; done) | (simp; omega))) | with_reducible refine below_drewN ?_ _ | with_reducible refine Below.drew ?_ | with_reducible refine below_then ?_ (by with_reducible assumption)))) hh) (by first | omega | (simp; omega)) hm).mono ?_
    rintro e w2 ⟨rfl, hb2⟩
    rw [hg.out]
    have hx2 : Below w.heap.size w w2 := by (repeat (first | with_reducible exact Below.refl _ _ | with_reducible assumption | with_reducible refine below_alloc ?_ _ | ((with_reducible refine Below.setCell ?_ ?_ _); rotate_left; (· first | exact Nat.le_refl _ | (simp; done) | (simp; omega))) | with_reducible refine below_drewN ?_ _ | with_reducible refine Below.drew ?_ | with_reducible refine below_then ?_ (by with_reducible assumption)))
    obtain ⟨hcE, hfE⟩ := bcell hb2
    have p0 : w2.cell? ⟨w.heap.size, 0, none⟩ = some (.slice A n c) := by simp [hcE, go_sem]
    have r0 : w2.cell? ⟨w.heap.size + 1, 0, none⟩ = some (.int .i64 0) := by simp [hcE, go_sem]
    have r1 : w2.cell? ⟨w.heap.size + 1, 1, none⟩ = some (.int .i64 0) := by simp [hcE, go_sem]
    have r2 : w2.cell? ⟨w.heap.size + 1, 2, none⟩ = some (.slice none 0 0) := by simp [hcE, go_sem]
    have r3 : w2.cell? ⟨w.heap.size + 1, 3, none⟩ = some (.slice none 0 0) := by simp [hcE, go_sem]
    have r4 : w2.cell? ⟨w.heap.size + 1, 4, none⟩ = some (.slice none 0 0) := by simp [hcE, go_sem]
    have rf : ∀ j, w2.frozen? ⟨w.heap.size + 1, j, none⟩ = false := fun j => by simp [hfE, go_sem]
    have hR2 : w.heap.size + 1 < w2.heap.size := World.block_lt_of_cell? w2 _ r0
    clear hcE hfE hb2
    go_wp2_with (go_at_call 105; ((with_reducible refine (implWithin _ _ _ _).mono ?_); rintro e w3 ⟨rfl, rfl⟩))
    refine bodyPost_ret (v := .tuple #[.agg #[.int .i64 0, .int .i64 0, .slice none 0 0, .slice none 0 0, .slice none 0 0], .bool false]) (by simp [results, Try.results48, go_sem, r0, r1, r2, r3, r4]) rfl ?_
    exact RetCodeB.none (by (repeat (first | with_reducible exact Below.refl _ _ | with_reducible assumption | with_reducible refine below_alloc ?_ _ | ((with_reducible refine Below.setCell ?_ ?_ _); rotate_left; (· first | exact Nat.le_refl _ | (simp; done) | (simp; omega))) | with_reducible refine below_drewN ?_ _ | with_reducible refine Below.drew ?_ | with_reducible refine below_then ?_ (by with_reducible assumption))))
  have hT := Lib.hid (show lowVB fs v = true by unfold lowVB; rw [hg.out, hv]; rfl)
  have hv' := inB_iff.1 hv
  rw [e1] at hv
  obtain ⟨v0, v1⟩ := hv'
  obtain ⟨j, rfl⟩ := Int.eq_ofNat_of_zero_le v0
  have hj : j < n := by omega
  have hj' : j < fs.length := by omega
  have hlo := (goodP_low hg.out).2 _ (List.getElem_mem hj')
  rw [hT.out, lowC_at hT.out hj']
  have HLO := Lib.hid hlo
  have hll := Lib.hid (lowF_len hlo)
  have gA : (0 : Int) ≤ (j : Int) := by omega
  have gB : (j : Int) < (n : Int) := by omega
  generalize hlf : lowF (fs[j]'hj') = lc at hll ⊢
  obtain ⟨z0, z1, zs, zi, zr⟩ := lc
  have HLF := Lib.hid hlf
  clear hg0 hlo hlf
  go_enter Try.func48, Try.ntmps48
  go_wp2_with fail
  refine (implIsProg _ lo hi A n c fs (h.below (show Below w.heap.size w _ by (repeat (first | with_reducible exact Below.refl _ _ | with_reducible assumption | with_reducible refine below_alloc ?_ _ | ((with_reducible refine Below.setCell ?_ ?_ _); rotate_left; (· first | exact Nat.le_refl _ | (simp; done) | (simp; omega))) | with_reducible refine below_drewN ?_ _ | with_reducible refine Below.drew ?_ | with_reducible refine below_then ?_ (by with_reducible assumption)))) hh) (by first | omega | (simp; omega)) hm).mono ?_
  rintro e w2 ⟨rfl, hb2⟩
  rw [hg.out]
  have hx2 : Below w.heap.size w w2 := by (repeat (first | with_reducible exact Below.refl _ _ | with_reducible assumption | with_reducible refine below_alloc ?_ _ | ((with_reducible refine Below.setCell ?_ ?_ _); rotate_left; (· first | exact Nat.le_refl _ | (simp; done) | (simp; omega))) | with_reducible refine below_drewN ?_ _ | with_reducible refine Below.drew ?_ | with_reducible refine below_then ?_ (by with_reducible assumption)))
  obtain ⟨hcE, hfE⟩ := bcell hb2
  have p0 : w2.cell? ⟨w.heap.size, 0, none⟩ = some (.slice A n c) := by simp [hcE, go_sem]
  have r0 : w2.cell? ⟨w.heap.size + 1, 0, none⟩ = some (.int .i64 0) := by simp [hcE, go_sem]
  have r1 : w2.cell? ⟨w.heap.size + 1, 1, none⟩ = some (.int .i64 0) := by simp [hcE, go_sem]
  have r2 : w2.cell? ⟨w.heap.size + 1, 2, none⟩ = some (.slice none 0 0) := by simp [hcE, go_sem]
  have r3 : w2.cell? ⟨w.heap.size + 1, 3, none⟩ = some (.slice none 0 0) := by simp [hcE, go_sem]
  have r4 : w2.cell? ⟨w.heap.size + 1, 4, none⟩ = some (.slice none 0 0) := by simp [hcE, go_sem]
  have rf : ∀ j, w2.frozen? ⟨w.heap.size + 1, j, none⟩ = false := fun j => by simp [hfE, go_sem]
  have hR2 : w.heap.size + 1 < w2.heap.size := World.block_lt_of_cell? w2 _ r0
  clear hcE hfE hb2
  obtain ⟨bp, op, x0, x1, Ab, nb, cb, body, B, m, d, ss, rfl, _, _, hl0, i0, i1, hb, hs, d0, d1, d2, d3⟩ := Func_at (h.below hx2 hh) hj
  rw [hl0] at HLO HLF
  have hzz := hx2.size
  clear hl0
  go_wp2_with (go_at_call 105; ((with_reducible refine (implWithin _ _ _ _).mono ?_); rintro e w3 ⟨rfl, rfl⟩))
  have hcall := implLowerFunc w2 lo hi x0 x1 Ab nb cb body B m d ss hb hs (by omega) HLO.out i0 i1
  rw [HLF.out] at hcall
  refine hcall.mono ?_
  clear hcall
  rintro e w5 ⟨A2, n2, c2, A3, n3, c3, A4, n4, c4, F2, F3, F4, rfl, s2, s3, s4, snd, sF, hb5⟩
  replace r0 := below_cell hb5 r0
  replace r1 := below_cell hb5 r1
  replace r2 := below_cell hb5 r2
  replace r3 := below_cell hb5 r3
  replace r4 := below_cell hb5 r4
  have hR5 : w.heap.size + 1 < w5.heap.size := World.block_lt_of_cell? w5 _ r0
  have rf5 : ∀ i, w5.frozen? ⟨w.heap.size + 1, i, none⟩ = false := fun i => (hb5.frozen (p := ⟨w.heap.size + 1, i, none⟩) hR2).trans (rf i)
  have hx5 := below_then hx2 hb5
  simp only at s2 s3 s4
  clear rf hb5
  go_wp2_with fail
  refine bodyPost_ret (v := .tuple #[.agg #[.int .i64 z0, .int .i64 z1, .slice A2 n2 c2, .slice A3 n3 c3, .slice A4 n4 c4], .bool true]) (by simp [results, Try.results48, go_sem, r0, r1, r2, r3, r4, hR5]) rfl ?_
  have hk : ∀ k, w2.heap.size ≤ k → (((((w5.setCell ⟨w.heap.size + 1, 0, none⟩ (.int .i64 z0)).setCell ⟨w.heap.size + 1, 1, none⟩ (.int .i64 z1)).setCell ⟨w.heap.size + 1, 2, none⟩ (.slice A2 n2 c2)).setCell ⟨w.heap.size + 1, 3, none⟩ (.slice A3 n3 c3)).setCell ⟨w.heap.size + 1, 4, none⟩ (.slice A4 n4 c4)).heap[k]? = w5.heap[k]? := by
    intro k g1
    have g3 : k ≠ w.heap.size + 1 := by omega
    rw [Below.heap_setCell _ _ _ _ g3, Below.heap_setCell _ _ _ _ g3, Below.heap_setCell _ _ _ _ g3, Below.heap_setCell _ _ _ _ g3, Below.heap_setCell _ _ _ _ g3]
  exact ⟨_, _, _, _, _, _, _, _, _, F2, F3, F4, rfl, s2.keep (fun k hx => hk k (sF k (List.mem_append_left _ hx))), s3.keep (fun k hx => hk k (sF k (List.mem_append_right _ (List.mem_append_left _ hx)))), s4.keep (fun k hx => hk k (sF k (List.mem_append_right _ (List.mem_append_right _ hx)))), snd, (fun k hx => by have := sF k hx; omega), by (repeat (first | with_reducible exact Below.refl _ _ | with_reducible assumption | with_reducible refine below_alloc ?_ _ | ((with_reducible refine Below.setCell ?_ ?_ _); rotate_left; (· first | exact Nat.le_refl _ | (simp; done) | (simp; omega))) | with_reducible refine below_drewN ?_ _ | with_reducible refine Below.drew ?_ | with_reducible refine below_then ?_ (by with_reducible assumption)))⟩
set_option maxHeartbeats 4000000 in
theorem specLowerFunc (w : World) (lo hi : Nat) (A : Option Addr) (n c : Nat) (fs : List Func) (v : Int) (h : Sl FuncR w lo hi A n c fs) (hh : hi ≤ w.heap.size) (hm : mszLFunc fs ≤ 1048576) :
    Calls Try.prog 47 #[.agg #[.slice A n c], .int .i64 v] w (RetCodeSB (lowC fs v) (lowVB fs v) w) := by
  have e1 := h.lenEq
  have hml := mszLFunc_len fs
  generalize hg0 : goodP fs = g
  have hg := Lib.hid hg0
  cases g
  · have hT := Lib.hid (show lowVB fs v = false by unfold lowVB; rw [hg.out]; rfl)
    rw [hT.out, lowC_no hT.out]
    clear hg0
    go_enter Try.func47, Try.ntmps47
    go_wp2_with fail
    refine (specGoodProg _ lo hi A n c fs (h.below (show Below w.heap.size w _ by (repeat (first | with_reducible exact Below.refl _ _ | with_reducible assumption | with_reducible refine below_alloc ?_ _ | ((with_reducible refine Below.setCell ?_ ?_ _); rotate_left; (· first | exact Nat.le_refl _ | (simp; done) | (simp; omega))) | with_reducible refine below_drewN ?_ _ | with_reducible refine Below.drew ?_ | with_reducible refine below_then ?_ (by with_reducible assumption)))) hh) (by first | omega | (simp; omega)) hm).mono ?_
    rintro e w2 ⟨rfl, hb2⟩
    rw [hg.out]
    have hx2 : Below w.heap.size w w2 := by (repeat (first | with_reducible exact Below.refl _ _ | with_reducible assumption | with_reducible refine below_alloc ?_ _ | ((with_reducible refine Below.setCell ?_ ?_ _); rotate_left; (· first | exact Nat.le_refl _ | (simp; done) | (simp; omega))) | with_reducible refine below_drewN ?_ _ | with_reducible refine Below.drew ?_ | with_reducible refine below_then ?_ (by with_reducible assumption)))
    obtain ⟨hcE, hfE⟩ := bcell hb2
    have p0 : w2.cell? ⟨w.heap.size, 0, none⟩ = some (.slice A n c) := by simp [hcE, go_sem]
    have r0 : w2.cell? ⟨w.heap.size + 1, 0, none⟩ = some (.int .i64 0) := by simp [hcE, go_sem]
    have r1 : w2.cell? ⟨w.heap.size + 1, 1, none⟩ = some (.int .i64 0) := by simp [hcE, go_sem]
    have r2 : w2.cell? ⟨w.heap.size + 1, 2, none⟩ = some (.slice none 0 0) := by simp [hcE, go_sem]
    have r3 : w2.cell? ⟨w.heap.size + 1, 3, none⟩ = some (.slice none 0 0) := by simp [hcE, go_sem]
    have r4 : w2.cell? ⟨w.heap.size + 1, 4, none⟩ = some (.slice none 0 0) := by simp [hcE, go_sem]
    have rf : ∀ j, w2.frozen? ⟨w.heap.size + 1, j, none⟩ = false := fun j => by simp [hfE, go_sem]
    have hR2 : w.heap.size + 1 < w2.heap.size := World.block_lt_of_cell? w2 _ r0
    clear hcE hfE hb2
    go_wp2_with (go_at_call 100; ((with_reducible refine (specL1In _ _ _ _).mono ?_); rintro e w3 ⟨rfl, rfl⟩))
    refine bodyPost_ret (v := .tuple #[.agg #[.int .i64 0, .int .i64 0, .slice none 0 0, .slice none 0 0, .slice none 0 0], .bool false]) (by simp [results, Try.results47, go_sem, r0, r1, r2, r3, r4]) rfl ?_
    exact (RetCodeB.none (by (repeat (first | with_reducible exact Below.refl _ _ | with_reducible assumption | with_reducible refine below_alloc ?_ _ | ((with_reducible refine Below.setCell ?_ ?_ _); rotate_left; (· first | exact Nat.le_refl _ | (simp; done) | (simp; omega))) | with_reducible refine below_drewN ?_ _ | with_reducible refine Below.drew ?_ | with_reducible refine below_then ?_ (by with_reducible assumption))))).toS
  by_cases hv : inB v 0 ((fs.length : Int) - 1) = true
  rotate_left
  · have hv : inB v 0 ((fs.length : Int) - 1) = false := by simpa using hv
    have hT := Lib.hid (show lowVB fs v = false by unfold lowVB; rw [hv, Bool.and_false])
    rw [hT.out, lowC_no hT.out]
    rw [e1] at hv
    clear hg0
    go_enter Try.func47, Try.ntmps47
    go_wp2_with fail
    refine (specGoodProg _ lo hi A n c fs (h.below (show Below w.heap.size w _ by (repeat (first | with_reducible exact Below.refl _ _ | with_reducible assumption | with_reducible refine below_alloc ?_ _ | ((with_reducible refine Below.setCell ?_ ?_ _); rotate_left; (· first | exact Nat.le_refl _ | (simp; done) | (simp; omega))) | with_reducible refine below_drewN ?_ _ | with_reducible refine Below.drew ?_ | with_reducible refine below_then ?_ (by with_reducible assumption)))) hh) (by first | omega | (simp; omega)) hm).mono ?_
    rintro e w2 ⟨rfl, hb2⟩
    rw [hg.out]
    have hx2 : Below w.heap.size w w2 := by (repeat (first | with_reducible exact Below.refl _ _ | with_reducible assumption | with_reducible refine below_alloc ?_ _ | ((with_reducible refine Below.setCell ?_ ?_ _); rotate_left; (· first | exact Nat.le_refl _ | (simp; done) | (simp; omega))) | with_reducible refine below_drewN ?_ _ | with_reducible refine Below.drew ?_ | with_reducible refine below_then ?_ (by with_reducible assumption)))
    obtain ⟨hcE, hfE⟩ := bcell hb2
    have p0 : w2.cell? ⟨w.heap.size, 0, none⟩ = some (.slice A n c) := by simp [hcE, go_sem]
    have r0 : w2.cell? ⟨w.heap.size + 1, 0, none⟩ = some (.int .i64 0) := by simp [hcE, go_sem]
    have r1 : w2.cell? ⟨w.heap.size + 1, 1, none⟩ = some (.int .i64 0) := by simp [hcE, go_sem]
    have r2 : w2.cell? ⟨w.heap.size + 1, 2, none⟩ = some (.slice none 0 0) := by simp [hcE, go_sem]
    have r3 : w2.cell? ⟨w.heap.size + 1, 3, none⟩ = some (.slice none 0 0) := by simp [hcE, go_sem]
    have r4 : w2.cell? ⟨w.heap.size + 1, 4, none⟩ = some (.slice none 0 0) := by simp [hcE, go_sem]
    have rf : ∀ j, w2.frozen? ⟨w.heap.size + 1, j, none⟩ = false := fun j => by simp [hfE, go_sem]
    have hR2 : w.heap.size + 1 < w2.heap.size := World.block_lt_of_cell? w2 _ r0
    clear hcE hfE hb2
    go_wp2_with (go_at_call 100; ((with_reducible refine (specL1In _ _ _ _).mono ?_); rintro e w3 ⟨rfl, rfl⟩))
    refine bodyPost_ret (v := .tuple #[.agg #[.int .i64 0, .int .i64 0, .slice none 0 0, .slice none 0 0, .slice none 0 0], .bool false]) (by simp [results, Try.results47, go_sem, r0, r1, r2, r3, r4]) rfl ?_
    exact (RetCodeB.none (by (repeat (first | with_reducible exact Below.refl _ _ | with_reducible assumption | with_reducible refine below_alloc ?_ _ | ((with_reducible refine Below.setCell ?_ ?_ _); rotate_left; (· first | exact Nat.le_refl _ | (simp; done) | (simp; omega))) | with_reducible refine below_drewN ?_ _ | with_reducible refine Below.drew ?_ | with_reducible refine below_then ?_ (by with_reducible assumption))))).toS
  have hT := Lib.hid (show lowVB fs v = true by unfold lowVB; rw [hg.out, hv]; rfl)
  have hv' := inB_iff.1 hv
  rw [e1] at hv
  obtain ⟨v0, v1⟩ := hv'
  obtain ⟨j, rfl⟩ := Int.eq_ofNat_of_zero_le v0
  have hj : j < n := by omega
  have hj' : j < fs.length := by omega
  have hlo := (goodP_low hg.out).2 _ (List.getElem_mem hj')
  rw [hT.out, lowC_at hT.out hj']
  have HLO := Lib.hid hlo
  have hll := Lib.hid (lowF_len hlo)
  have gA : (0 : Int) ≤ (j : Int) := by omega
  have gB : (j : Int) < (n : Int) := by omega
  generalize hlf : lowF (fs[j]'hj') = lc at hll ⊢
  obtain ⟨z0, z1, zs, zi, zr⟩ := lc
  have HLF := Lib.hid hlf
  clear hg0 hlo hlf
  go_enter Try.func47, Try.ntmps47
  go_wp2_with fail
  refine (specGoodProg _ lo hi A n c fs (h.below (show Below w.heap.size w _ by (repeat (first | with_reducible exact Below.refl _ _ | with_reducible assumption | with_reducible refine below_alloc ?_ _ | ((with_reducible refine Below.setCell ?_ ?_ _); rotate_left; (· first | exact Nat.le_refl _ | (simp; done) | (simp; omega))) | with_reducible refine below_drewN ?_ _ | with_reducible refine Below.drew ?_ | with_reducible refine below_then ?_ (by with_reducible assumption)))) hh) (by first | omega | (simp; omega)) hm).mono ?_
  rintro e w2 ⟨rfl, hb2⟩
  rw [hg.out]
  have hx2 : Below w.heap.size w w2 := by (repeat (first | with_reducible exact Below.refl _ _ | with_reducible assumption | with_reducible refine below_alloc ?_ _ | ((with_reducible refine Below.setCell ?_ ?_ _); rotate_left; (· first | exact Nat.le_refl _ | (simp; done) | (simp; omega))) | with_reducible refine below_drewN ?_ _ | with_reducible refine Below.drew ?_ | with_reducible refine below_then ?_ (by with_reducible assumption)))
  obtain ⟨hcE, hfE⟩ := bcell hb2
  have p0 : w2.cell? ⟨w.heap.size, 0, none⟩ = some (.slice A n c) := by simp [hcE, go_sem]
  have r0 : w2.cell? ⟨w.heap.size + 1, 0, none⟩ = some (.int .i64 0) := by simp [hcE, go_sem]
  have r1 : w2.cell? ⟨w.heap.size + 1, 1, none⟩ = some (.int .i64 0) := by simp [hcE, go_sem]
  have r2 : w2.cell? ⟨w.heap.size + 1, 2, none⟩ = some (.slice none 0 0) := by simp [hcE, go_sem]
  have r3 : w2.cell? ⟨w.heap.size + 1, 3, none⟩ = some (.slice none 0 0) := by simp [hcE, go_sem]
  have r4 : w2.cell? ⟨w.heap.size + 1, 4, none⟩ = some (.slice none 0 0) := by simp [hcE, go_sem]
  have rf : ∀ j, w2.frozen? ⟨w.heap.size + 1, j, none⟩ = false := fun j => by simp [hfE, go_sem]
  have hR2 : w.heap.size + 1 < w2.heap.size := World.block_lt_of_cell? w2 _ r0
  clear hcE hfE hb2
  go_wp2_with (go_at_call 100; ((with_reducible refine (specL1In _ _ _ _).mono ?_); rintro e w3 ⟨rfl, rfl⟩))
  have hcall := specL6Func w2 lo hi A n c fs j (h.below hx2 hh) (by have := hx2.size; omega) hj HLO.out
  rw [HLF.out] at hcall
  refine hcall.mono ?_
  clear hcall
  rintro e w5 ⟨A2, n2, c2, A3, n3, c3, A4, n4, c4, rfl, s2, s3, s4, hb5⟩
  have hzz := hx2.size
  replace r0 := below_cell hb5 r0
  replace r1 := below_cell hb5 r1
  replace r2 := below_cell hb5 r2
  replace r3 := below_cell hb5 r3
  replace r4 := below_cell hb5 r4
  have hR5 : w.heap.size + 1 < w5.heap.size := World.block_lt_of_cell? w5 _ r0
  have rf5 : ∀ i, w5.frozen? ⟨w.heap.size + 1, i, none⟩ = false := fun i => (hb5.frozen (p := ⟨w.heap.size + 1, i, none⟩) hR2).trans (rf i)
  have hn3 : n3 ≤ 246 := by have h8 : zi.length ≤ 246 := hll.out; have h9 : zi.length = n3 := s3.lenEq; omega
  have hn3' : ¬ (300 : Int) < (n3 : Int) := by omega
  have hx5 := below_then hx2 hb5
  simp only at s2 s3 s4
  clear rf hb5 hx2
  go_wp2_with fail
  refine bodyPost_ret (v := .tuple #[.agg #[.int .i64 z0, .int .i64 z1, .slice A2 n2 c2, .slice A3 n3 c3, .slice A4 n4 c4], .bool true]) (by simp [results, Try.results47, go_sem, r0, r1, r2, r3, r4, hR5]) rfl ?_
  have hk : ∀ k, w2.heap.size ≤ k → k < w5.heap.size → ((((((w5.setCell ⟨w.heap.size + 1, 0, none⟩ (.int .i64 z0)).setCell ⟨w.heap.size + 1, 1, none⟩ (.int .i64 z1)).setCell ⟨w.heap.size + 1, 2, none⟩ (.slice A2 n2 c2)).setCell ⟨w.heap.size + 1, 3, none⟩ (.slice A3 n3 c3)).setCell ⟨w.heap.size + 1, 4, none⟩ (.slice A4 n4 c4)).alloc (.cells #[.int .i64 z0, .int .i64 z1, .slice A2 n2 c2, .slice A3 n3 c3, .slice A4 n4 c4] 44)).heap[k]? = w5.heap[k]? := by
    intro k g1 g2
    have g3 : k ≠ w.heap.size + 1 := by omega
    rw [Below.heap_alloc _ _ _ (by simpa using g2), Below.heap_setCell _ _ _ _ g3, Below.heap_setCell _ _ _ _ g3, Below.heap_setCell _ _ _ _ g3, Below.heap_setCell _ _ _ _ g3, Below.heap_setCell _ _ _ _ g3]
  exact ⟨_, _, _, _, _, _, _, _, _, rfl, s2.keep (Nat.zero_le _) (by simp) hk, s3.keep (Nat.zero_le _) (by simp) hk, s4.keep (Nat.zero_le _) (by simp) hk, by (repeat (first | with_reducible exact Below.refl _ _ | with_reducible assumption | with_reducible refine below_alloc ?_ _ | ((with_reducible refine Below.setCell ?_ ?_ _); rotate_left; (· first | exact Nat.le_refl _ | (simp; done) | (simp; omega))) | with_reducible refine below_drewN ?_ _ | with_reducible refine Below.drew ?_ | with_reducible refine below_then ?_ (by with_reducible assumption)))⟩
end Go.Proofs.Ytgagbbhnifkclaa
