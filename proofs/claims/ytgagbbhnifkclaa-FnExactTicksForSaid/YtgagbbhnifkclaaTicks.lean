/- TicksFor: walks of both sides. Printed by ticksgen.py. -/
import Derived.Test.YtgagbbhnifkclaaPgI
import Derived.Test.YtgagbbhnifkclaaPgS
set_option linter.unusedVariables false
set_option linter.unusedSimpArgs false
set_option maxRecDepth 100000
namespace Go.Proofs.Ytgagbbhnifkclaa
open Go.RowKit
theorem ret_pair {v u v' u' : Value} (h1 : v = v') (h2 : u = u') : Ending.returned (.tuple #[v, u]) = .returned (.tuple #[v', u']) := by rw [h1, h2]
def mostF (fs : List Func) : Nat := fs.foldl (fun m f => max m (sitesF f.2.2.2).length) 0
theorem mostF_succ {fs : List Func} {k : Nat} (hk : k < fs.length) : mostF (fs.take (k + 1)) = max (mostF (fs.take k)) (sitesF fs[k].2.2.2).length := by
  unfold mostF; rw [List.take_succ_eq_append_getElem hk, List.foldl_append]; rfl
theorem goodP_sites {fs : List Func} (h : goodP fs = true) : ∀ f, f ∈ fs → (sitesF f.2.2.2).length ≤ 4 := by
  intro f hf
  unfold goodP at h
  simp only [Bool.and_eq_true] at h
  have := List.all_eq_true.1 h.2 f hf
  unfold funcOkI shapeI at this
  simp only [Bool.and_eq_true, decide_eq_true_eq] at this
  exact this.1.1.1.1.1.1.2
theorem mostF_le {fs : List Func} (h : goodP fs = true) : ∀ k, k ≤ fs.length → mostF (fs.take k) ≤ 4
  | 0, _ => by simp [mostF]
  | k + 1, hk => by
    rw [mostF_succ (by omega)]
    have := mostF_le h k (by omega)
    have := goodP_sites h _ (List.getElem_mem (by omega : k < fs.length))
    omega
def ticksB (fs : List Func) (v : Int) : Bool := goodP fs && inB v 0 600
def ticksN (fs : List Func) (v : Int) : Int := if ticksB fs v = true then (v + 1) * (30 + (mostF fs : Int)) else 0
set_option maxHeartbeats 2000000 in
theorem specTicksFor (w : World) (lo hi : Nat) (A : Option Addr) (n c : Nat) (fs : List Func) (v : Int) (h : Sl FuncR w lo hi A n c fs) (hh : hi ≤ w.heap.size) (hm : mszLFunc fs ≤ 1048576) :
    Calls Try.prog 41 #[.agg #[.slice A n c], .int .i64 v] w (RetV (.tuple #[.int .i64 (ticksN fs v), .bool (ticksB fs v)]) w) := by
  have e1 := h.lenEq
  have hml := mszLFunc_len fs
  generalize hg0 : goodP fs = g
  have hg := Lib.hid hg0
  clear hg0
  cases g
  · have hT := Lib.hid (show ticksB fs v = false by unfold ticksB; rw [hg.out]; rfl)
    have hN := Lib.hid (show ticksN fs v = 0 by unfold ticksN; rw [hT.out]; rfl)
    rw [hN.out, hT.out]
    go_enter Try.func41, Try.ntmps41
    go_wp2_with fail
    refine (specGoodProg _ lo hi A n c fs (h.below (show Below w.heap.size w _ by (repeat (first | with_reducible exact Below.refl _ _ | with_reducible assumption | with_reducible refine below_alloc ?_ _ | ((with_reducible refine Below.setCell ?_ ?_ _); rotate_left; (· first | exact Nat.le_refl _ | (simp; done) | (simp; omega))) | with_reducible refine below_drewN ?_ _ | with_reducible refine Below.drew ?_ | with_reducible refine below_then ?_ (by with_reducible assumption)))) hh) (by first | omega | (simp; omega)) hm).mono ?_
    rintro e w2 ⟨rfl, hb2⟩
    rw [hg.out]
    go_wp2_with fail
    go_ret2
    exact ⟨rfl, by (repeat (first | with_reducible exact Below.refl _ _ | with_reducible assumption | with_reducible refine below_alloc ?_ _ | ((with_reducible refine Below.setCell ?_ ?_ _); rotate_left; (· first | exact Nat.le_refl _ | (simp; done) | (simp; omega))) | with_reducible refine below_drewN ?_ _ | with_reducible refine Below.drew ?_ | with_reducible refine below_then ?_ (by with_reducible assumption)))⟩
  by_cases hv : inB v 0 600 = true
  rotate_left
  · have hv : inB v 0 600 = false := by simpa using hv
    have hT := Lib.hid (show ticksB fs v = false by unfold ticksB; rw [hv, Bool.and_false])
    have hN := Lib.hid (show ticksN fs v = 0 by unfold ticksN; rw [hT.out]; rfl)
    rw [hN.out, hT.out]
    go_enter Try.func41, Try.ntmps41
    go_wp2_with fail
    refine (specGoodProg _ lo hi A n c fs (h.below (show Below w.heap.size w _ by (repeat (first | with_reducible exact Below.refl _ _ | with_reducible assumption | with_reducible refine below_alloc ?_ _ | ((with_reducible refine Below.setCell ?_ ?_ _); rotate_left; (· first | exact Nat.le_refl _ | (simp; done) | (simp; omega))) | with_reducible refine below_drewN ?_ _ | with_reducible refine Below.drew ?_ | with_reducible refine below_then ?_ (by with_reducible assumption)))) hh) (by first | omega | (simp; omega)) hm).mono ?_
    rintro e w2 ⟨rfl, hb2⟩
    rw [hg.out]
    go_wp2_with (go_at_call 100; ((with_reducible refine (specL1In _ _ _ _).mono ?_); rintro e w3 ⟨rfl, rfl⟩))
    go_ret2
    exact ⟨rfl, by (repeat (first | with_reducible exact Below.refl _ _ | with_reducible assumption | with_reducible refine below_alloc ?_ _ | ((with_reducible refine Below.setCell ?_ ?_ _); rotate_left; (· first | exact Nat.le_refl _ | (simp; done) | (simp; omega))) | with_reducible refine below_drewN ?_ _ | with_reducible refine Below.drew ?_ | with_reducible refine below_then ?_ (by with_reducible assumption)))⟩
  have hT := Lib.hid (show ticksB fs v = true by unfold ticksB; rw [hg.out, hv]; rfl)
  have hN := Lib.hid (show ticksN fs v = (v + 1) * (30 + (mostF fs : Int)) by unfold ticksN; rw [hT.out]; rfl)
  rw [hN.out, hT.out]
  have hv' := inB_iff.1 hv
  obtain ⟨v0, v1⟩ := hv'
  go_enter Try.func41, Try.ntmps41
  go_wp2_with fail
  refine (specGoodProg _ lo hi A n c fs (h.below (show Below w.heap.size w _ by (repeat (first | with_reducible exact Below.refl _ _ | with_reducible assumption | with_reducible refine below_alloc ?_ _ | ((with_reducible refine Below.setCell ?_ ?_ _); rotate_left; (· first | exact Nat.le_refl _ | (simp; done) | (simp; omega))) | with_reducible refine below_drewN ?_ _ | with_reducible refine Below.drew ?_ | with_reducible refine below_then ?_ (by with_reducible assumption)))) hh) (by first | omega | (simp; omega)) hm).mono ?_
  rintro e w2 ⟨rfl, hb2⟩
  rw [hg.out]
  have hx2 : Below w.heap.size w w2 := by (repeat (first | with_reducible exact Below.refl _ _ | with_reducible assumption | with_reducible refine below_alloc ?_ _ | ((with_reducible refine Below.setCell ?_ ?_ _); rotate_left; (· first | exact Nat.le_refl _ | (simp; done) | (simp; omega))) | with_reducible refine below_drewN ?_ _ | with_reducible refine Below.drew ?_ | with_reducible refine below_then ?_ (by with_reducible assumption)))
  obtain ⟨hcE, hfE⟩ := bcell hb2
  have p0 : w2.cell? ⟨w.heap.size, 0, none⟩ = some (.slice A n c) := by simp [hcE, go_sem]
  clear hcE hfE hb2
  go_wp2_with (go_at_call 100; ((with_reducible refine (specL1In _ _ _ _).mono ?_); rintro e w3 ⟨rfl, rfl⟩))
  go_loopw [6, 21] (fun s i wr => ∃ (k m : Nat), k ≤ n ∧ i = .int .i64 k ∧ s = .int .i64 m ∧ m = mostF (fs.take k) ∧ Below w2.heap.size w2 wr) (fun _ i _ => n - (intOf i).toNat)
  case atStart => exact ⟨0, 0, Nat.zero_le _, rfl, rfl, by simp [mostF], Below.refl _ _⟩
  case round =>
    obtain ⟨k, m, hk, rfl, rfl, hm0, hb⟩ := hrel
    have hm4 := mostF_le hg.out k (by omega)
    rw [← hm0] at hm4
    have hM := Lib.hid hm0
    clear hm0
    have hxr := below_then hx2 hb
    by_cases hlt : k < n
    · obtain ⟨bb, oo, x0, x1, A2, n2, c2, body, A3, n3, c3, ss, rfl, _, _, hl0, i0, i1, h2, h3, d0, d1, d2, d3⟩ := Func_at (h.below hxr hh) hlt
      have hm1 := mszFunc_at (l := fs) (k := k) (by omega)
      rw [hl0] at hm1
      simp only [mszFunc] at hm1
      have hms := mostF_succ (fs := fs) (k := k) (by omega)
      rw [hl0] at hms
      have hs4 := goodP_sites hg.out _ (List.getElem_mem (by omega : k < fs.length))
      rw [hl0] at hs4
      have E3 := h3.lenEq
      have hml3 := mszLStmt_len ss
      have hn3 : n3 ≤ 1048576 := by omega
      have hzr := hxr.size
      have HMS := Lib.hid hms
      clear hl0 hms E3
      go_wp2_with fail
      refine (specL3Sites _ lo hi x0 x1 _ A3 n3 c3 ss (h3.below (show Below wr.heap.size wr _ by (repeat (first | with_reducible exact Below.refl _ _ | with_reducible assumption | with_reducible refine below_alloc ?_ _ | ((with_reducible refine Below.setCell ?_ ?_ _); rotate_left; (· first | exact Nat.le_refl _ | (simp; done) | (simp; omega))) | with_reducible refine below_drewN ?_ _ | with_reducible refine Below.drew ?_ | with_reducible refine below_then ?_ (by with_reducible assumption)))) (by omega)) (by first | omega | (simp; omega)) hn3).mono ?_
      rintro e w5 ⟨F5, A5, n5, c5, rfl, ho5, hF5, hb5⟩
      have l5 := ho5.sl.lenEq
      have hs4 : (sitesF ss).length ≤ 4 := hs4
      have hn5 : n5 ≤ 4 := by omega
      have L5 := Lib.hid l5
      have hx5 : Below wr.heap.size wr w5 := by (repeat (first | with_reducible exact Below.refl _ _ | with_reducible assumption | with_reducible refine below_alloc ?_ _ | ((with_reducible refine Below.setCell ?_ ?_ _); rotate_left; (· first | exact Nat.le_refl _ | (simp; done) | (simp; omega))) | with_reducible refine below_drewN ?_ _ | with_reducible refine Below.drew ?_ | with_reducible refine below_then ?_ (by with_reducible assumption)))
      clear l5 hs4 ho5 hF5 hb5
      go_wp2_with fail
      refine (specL1Most _ _ _).mono ?_
      rintro e w6 ⟨rfl, hb6⟩
      have hxx := below_then hx5 hb6
      have hmx := Lib.hid (show max m n5 = mostF (fs.take (k + 1)) by rw [HMS.out, ← hM.out, L5.out])
      clear HMS hM L5
      by_cases hmn : (m : Int) < (n5 : Int)
      · have hq : max m n5 = n5 := by omega
        have hq2 := Lib.hid (show n5 = mostF (fs.take (k + 1)) by rw [← hmx.out, hq])
        have hmxI : max (m : Int) (n5 : Int) = (n5 : Int) := by omega
        clear hq
        go_wp2_with fail
        go_roundw
        case rel => exact ⟨k + 1, n5, by omega, by go_num, by first | rfl | (simp; omega) | exact int_eq (by omega), hq2.out, below_then hb hxx⟩
        case measure => simp [intOf]; omega
      · have hq : max m n5 = m := by omega
        have hq2 := Lib.hid (show m = mostF (fs.take (k + 1)) by rw [← hmx.out, hq])
        have hmxI : max (m : Int) (n5 : Int) = (m : Int) := by omega
        clear hq
        go_wp2_with fail
        go_roundw
        case rel => exact ⟨k + 1, m, by omega, by go_num, by first | rfl | (simp; omega) | exact int_eq (by omega), hq2.out, below_then hb hxx⟩
        case measure => simp [intOf]; omega
    · have hfin := hM.out
      rw [List.take_of_length_le (by omega)] at hfin
      have hM2 := Lib.hid hfin
      clear hfin hM
      have hm5 : m = 0 ∨ m = 1 ∨ m = 2 ∨ m = 3 ∨ m = 4 := by omega
      rcases hm5 with rfl | rfl | rfl | rfl | rfl
      · have hq : (v + 1) * 30 ≤ 60000 := by omega
        go_wp2_with fail
        go_ret2
        exact ⟨ret_pair (int_eq (by rw [← hM2.out]; rfl)) rfl, hxr⟩
      · have hq : (v + 1) * 31 ≤ 60000 := by omega
        go_wp2_with fail
        go_ret2
        exact ⟨ret_pair (int_eq (by rw [← hM2.out]; rfl)) rfl, hxr⟩
      · have hq : (v + 1) * 32 ≤ 60000 := by omega
        go_wp2_with fail
        go_ret2
        exact ⟨ret_pair (int_eq (by rw [← hM2.out]; rfl)) rfl, hxr⟩
      · have hq : (v + 1) * 33 ≤ 60000 := by omega
        go_wp2_with fail
        go_ret2
        exact ⟨ret_pair (int_eq (by rw [← hM2.out]; rfl)) rfl, hxr⟩
      · have hq : (v + 1) * 34 ≤ 60000 := by omega
        go_wp2_with fail
        go_ret2
        exact ⟨ret_pair (int_eq (by rw [← hM2.out]; rfl)) rfl, hxr⟩
set_option maxHeartbeats 2000000 in
theorem implTicksFor (w : World) (lo hi : Nat) (A : Option Addr) (n c : Nat) (fs : List Func) (v : Int) (h : Sl FuncR w lo hi A n c fs) (hh : hi ≤ w.heap.size) (hm : mszLFunc fs ≤ 1048576) :
    Calls Try.prog 43 #[.agg #[.slice A n c], .int .i64 v] w (RetV (.tuple #[.int .i64 (ticksN fs v), .bool (ticksB fs v)]) w) := by
  have e1 := h.lenEq
  have hml := mszLFunc_len fs
  generalize hg0 : goodP fs = g
  have hg := Lib.hid hg0
  clear hg0
  cases g
  · have hT := Lib.hid (show ticksB fs v = false by unfold ticksB; rw [hg.out]; rfl)
    have hN := Lib.hid (show ticksN fs v = 0 by unfold ticksN; rw [hT.out]; rfl)
    rw [hN.out, hT.out]
    go_enter Try.func43, Try.ntmps43
    go_wp2_with fail
    refine (implIsProg _ lo hi A n c fs (h.below (show Below w.heap.size w _ by (repeat (first | with_reducible exact Below.refl _ _ | with_reducible assumption | with_reducible refine below_alloc ?_ _ | ((with_reducible refine Below.setCell ?_ ?_ _); rotate_left; (· first | exact Nat.le_refl _ | (simp; done) | (simp; omega))) | with_reducible refine below_drewN ?_ _ | with_reducible refine Below.drew ?_ | with_reducible refine below_then ?_ (by with_reducible assumption)))) hh) (by first | omega | (simp; omega)) hm).mono ?_
    rintro e w2 ⟨rfl, hb2⟩
    rw [hg.out]
    go_wp2_with fail
    go_ret2
    exact ⟨rfl, by (repeat (first | with_reducible exact Below.refl _ _ | with_reducible assumption | with_reducible refine below_alloc ?_ _ | ((with_reducible refine Below.setCell ?_ ?_ _); rotate_left; (· first | exact Nat.le_refl _ | (simp; done) | (simp; omega))) | with_reducible refine below_drewN ?_ _ | with_reducible refine Below.drew ?_ | with_reducible refine below_then ?_ (by with_reducible assumption)))⟩
  by_cases hv : inB v 0 600 = true
  rotate_left
  · have hv : inB v 0 600 = false := by simpa using hv
    have hT := Lib.hid (show ticksB fs v = false by unfold ticksB; rw [hv, Bool.and_false])
    have hN := Lib.hid (show ticksN fs v = 0 by unfold ticksN; rw [hT.out]; rfl)
    rw [hN.out, hT.out]
    go_enter Try.func43, Try.ntmps43
    go_wp2_with fail
    refine (implIsProg _ lo hi A n c fs (h.below (show Below w.heap.size w _ by (repeat (first | with_reducible exact Below.refl _ _ | with_reducible assumption | with_reducible refine below_alloc ?_ _ | ((with_reducible refine Below.setCell ?_ ?_ _); rotate_left; (· first | exact Nat.le_refl _ | (simp; done) | (simp; omega))) | with_reducible refine below_drewN ?_ _ | with_reducible refine Below.drew ?_ | with_reducible refine below_then ?_ (by with_reducible assumption)))) hh) (by first | omega | (simp; omega)) hm).mono ?_
    rintro e w2 ⟨rfl, hb2⟩
    rw [hg.out]
    go_wp2_with (go_at_call 105; ((with_reducible refine (implWithin _ _ _ _).mono ?_); rintro e w3 ⟨rfl, rfl⟩))
    go_ret2
    exact ⟨rfl, by (repeat (first | with_reducible exact Below.refl _ _ | with_reducible assumption | with_reducible refine below_alloc ?_ _ | ((with_reducible refine Below.setCell ?_ ?_ _); rotate_left; (· first | exact Nat.le_refl _ | (simp; done) | (simp; omega))) | with_reducible refine below_drewN ?_ _ | with_reducible refine Below.drew ?_ | with_reducible refine below_then ?_ (by with_reducible assumption)))⟩
  have hT := Lib.hid (show ticksB fs v = true by unfold ticksB; rw [hg.out, hv]; rfl)
  have hN := Lib.hid (show ticksN fs v = (v + 1) * (30 + (mostF fs : Int)) by unfold ticksN; rw [hT.out]; rfl)
  rw [hN.out, hT.out]
  have hv' := inB_iff.1 hv
  obtain ⟨v0, v1⟩ := hv'
  go_enter Try.func43, Try.ntmps43
  go_wp2_with fail
  refine (implIsProg _ lo hi A n c fs (h.below (show Below w.heap.size w _ by (repeat (first | with_reducible exact Below.refl _ _ | with_reducible assumption | with_reducible refine below_alloc ?_ _ | ((with_reducible refine Below.setCell ?_ ?_ _); rotate_left; (· first | exact Nat.le_refl _ | (simp; done) | (simp; omega))) | with_reducible refine below_drewN ?_ _ | with_reducible refine Below.drew ?_ | with_reducible refine below_then ?_ (by with_reducible assumption)))) hh) (by first | omega | (simp; omega)) hm).mono ?_
  rintro e w2 ⟨rfl, hb2⟩
  rw [hg.out]
  have hx2 : Below w.heap.size w w2 := by (repeat (first | with_reducible exact Below.refl _ _ | with_reducible assumption | with_reducible refine below_alloc ?_ _ | ((with_reducible refine Below.setCell ?_ ?_ _); rotate_left; (· first | exact Nat.le_refl _ | (simp; done) | (simp; omega))) | with_reducible refine below_drewN ?_ _ | with_reducible refine Below.drew ?_ | with_reducible refine below_then ?_ (by with_reducible assumption)))
  obtain ⟨hcE, hfE⟩ := bcell hb2
  have p0 : w2.cell? ⟨w.heap.size, 0, none⟩ = some (.slice A n c) := by simp [hcE, go_sem]
  clear hcE hfE hb2
  go_wp2_with (go_at_call 105; ((with_reducible refine (implWithin _ _ _ _).mono ?_); rintro e w3 ⟨rfl, rfl⟩))
  go_loopw [6, 21] (fun s i wr => ∃ (k m : Nat), k ≤ n ∧ i = .int .i64 k ∧ s = .int .i64 m ∧ m = mostF (fs.take k) ∧ Below w2.heap.size w2 wr) (fun _ i _ => n - (intOf i).toNat)
  case atStart => exact ⟨0, 0, Nat.zero_le _, rfl, rfl, by simp [mostF], Below.refl _ _⟩
  case round =>
    obtain ⟨k, m, hk, rfl, rfl, hm0, hb⟩ := hrel
    have hm4 := mostF_le hg.out k (by omega)
    rw [← hm0] at hm4
    have hM := Lib.hid hm0
    clear hm0
    have hxr := below_then hx2 hb
    by_cases hlt : k < n
    · obtain ⟨bb, oo, x0, x1, A2, n2, c2, body, A3, n3, c3, ss, rfl, _, _, hl0, i0, i1, h2, h3, d0, d1, d2, d3⟩ := Func_at (h.below hxr hh) hlt
      have hm1 := mszFunc_at (l := fs) (k := k) (by omega)
      rw [hl0] at hm1
      simp only [mszFunc] at hm1
      have hms := mostF_succ (fs := fs) (k := k) (by omega)
      rw [hl0] at hms
      have hs4 := goodP_sites hg.out _ (List.getElem_mem (by omega : k < fs.length))
      rw [hl0] at hs4
      have E3 := h3.lenEq
      have hml3 := mszLStmt_len ss
      have hn3 : n3 ≤ 1048576 := by omega
      have hzr := hxr.size
      have HMS := Lib.hid hms
      clear hl0 hms E3
      go_wp2_with fail
      refine (implSitesOf _ lo hi x0 x1 _ A3 n3 c3 ss (h3.below (show Below wr.heap.size wr _ by (repeat (first | with_reducible exact Below.refl _ _ | with_reducible assumption | with_reducible refine below_alloc ?_ _ | ((with_reducible refine Below.setCell ?_ ?_ _); rotate_left; (· first | exact Nat.le_refl _ | (simp; done) | (simp; omega))) | with_reducible refine below_drewN ?_ _ | with_reducible refine Below.drew ?_ | with_reducible refine below_then ?_ (by with_reducible assumption)))) (by omega)) (by first | omega | (simp; omega)) hn3).mono ?_
      rintro e w5 ⟨F5, A5, n5, c5, rfl, ho5, hF5, hb5⟩
      have l5 := ho5.sl.lenEq
      have hs4 : (sitesF ss).length ≤ 4 := hs4
      have hn5 : n5 ≤ 4 := by omega
      have L5 := Lib.hid l5
      have hx5 : Below wr.heap.size wr w5 := by (repeat (first | with_reducible exact Below.refl _ _ | with_reducible assumption | with_reducible refine below_alloc ?_ _ | ((with_reducible refine Below.setCell ?_ ?_ _); rotate_left; (· first | exact Nat.le_refl _ | (simp; done) | (simp; omega))) | with_reducible refine below_drewN ?_ _ | with_reducible refine Below.drew ?_ | with_reducible refine below_then ?_ (by with_reducible assumption)))
      clear l5 hs4 ho5 hF5 hb5
      have hxx := hx5
      have hmx := Lib.hid (show max m n5 = mostF (fs.take (k + 1)) by rw [HMS.out, ← hM.out, L5.out])
      clear HMS hM L5
      by_cases hmn : (m : Int) < (n5 : Int)
      · have hq : max m n5 = n5 := by omega
        have hq2 := Lib.hid (show n5 = mostF (fs.take (k + 1)) by rw [← hmx.out, hq])
        have hmxI : max (m : Int) (n5 : Int) = (n5 : Int) := by omega
        clear hq
        go_wp2_with fail
        go_roundw
        case rel => exact ⟨k + 1, n5, by omega, by go_num, by first | rfl | (simp; omega) | exact int_eq (by omega), hq2.out, below_then hb hxx⟩
        case measure => simp [intOf]; omega
      · have hq : max m n5 = m := by omega
        have hq2 := Lib.hid (show m = mostF (fs.take (k + 1)) by rw [← hmx.out, hq])
        have hmxI : max (m : Int) (n5 : Int) = (m : Int) := by omega
        clear hq
        go_wp2_with fail
        go_roundw
        case rel => exact ⟨k + 1, m, by omega, by go_num, by first | rfl | (simp; omega) | exact int_eq (by omega), hq2.out, below_then hb hxx⟩
        case measure => simp [intOf]; omega
    · have hfin := hM.out
      rw [List.take_of_length_le (by omega)] at hfin
      have hM2 := Lib.hid hfin
      clear hfin hM
      have hm5 : m = 0 ∨ m = 1 ∨ m = 2 ∨ m = 3 ∨ m = 4 := by omega
      rcases hm5 with rfl | rfl | rfl | rfl | rfl
      · have hq : (v + 1) * 30 ≤ 60000 := by omega
        go_wp2_with fail
        go_ret2
        exact ⟨ret_pair (int_eq (by rw [← hM2.out]; rfl)) rfl, hxr⟩
      · have hq : (v + 1) * 31 ≤ 60000 := by omega
        go_wp2_with fail
        go_ret2
        exact ⟨ret_pair (int_eq (by rw [← hM2.out]; rfl)) rfl, hxr⟩
      · have hq : (v + 1) * 32 ≤ 60000 := by omega
        go_wp2_with fail
        go_ret2
        exact ⟨ret_pair (int_eq (by rw [← hM2.out]; rfl)) rfl, hxr⟩
      · have hq : (v + 1) * 33 ≤ 60000 := by omega
        go_wp2_with fail
        go_ret2
        exact ⟨ret_pair (int_eq (by rw [← hM2.out]; rfl)) rfl, hxr⟩
      · have hq : (v + 1) * 34 ≤ 60000 := by omega
        go_wp2_with fail
        go_ret2
        exact ⟨ret_pair (int_eq (by rw [← hM2.out]; rfl)) rfl, hxr⟩

theorem specTicksForC (w : World) (A : Option Addr) (n c : Nat) (fs : List Func) (v : Int) (h : Sl FuncR w 0 w.heap.size A n c fs) (hm : mszLFunc fs ≤ 1048576) (_ : I64 v) :
    Calls Try.prog 41 #[.agg #[.slice A n c], .int .i64 v] w (RetV (.tuple #[.int .i64 (ticksN fs v), .bool (ticksB fs v)]) w) := specTicksFor w 0 _ A n c fs v h (Nat.le_refl _) hm
theorem implTicksForC (w : World) (A : Option Addr) (n c : Nat) (fs : List Func) (v : Int) (h : Sl FuncR w 0 w.heap.size A n c fs) (hm : mszLFunc fs ≤ 1048576) (_ : I64 v) :
    Calls Try.prog 43 #[.agg #[.slice A n c], .int .i64 v] w (RetV (.tuple #[.int .i64 (ticksN fs v), .bool (ticksB fs v)]) w) := implTicksFor w 0 _ A n c fs v h (Nat.le_refl _) hm
end Go.Proofs.Ytgagbbhnifkclaa
