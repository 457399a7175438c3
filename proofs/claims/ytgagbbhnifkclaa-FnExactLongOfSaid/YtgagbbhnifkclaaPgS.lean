/- A good program: the reference's walk. -/
import Derived.Test.YtgagbbhnifkclaaPgP
import Derived.Deep.QuietTactic
import Derived.BigQuiet
set_option linter.unusedVariables false
set_option linter.unusedSimpArgs false
set_option maxRecDepth 100000
namespace Go.Proofs.Ytgagbbhnifkclaa
open Go.RowKit
theorem site_in {ps : List Int} {x0 x1 : Int} {body : List Int} {ss : List Stmt} (h : funcS ps x0 x1 body ss = true) {x : Int} (hx : x ∈ sitesF ss) : ∃ j : Nat, x = (j : Int) ∧ j < ss.length ∧ 0 ≤ nOf ss (j : Int) ∧ nOf ss (j : Int) < (ps.length : Int) := by
  obtain ⟨j, hj, rfl, h3⟩ := mem_sitesF.1 hx
  refine ⟨j, rfl, hj, ?_⟩
  unfold funcS at h
  simp only [Bool.and_eq_true] at h
  have h7 := h.2
  rw [List.all_eq_true] at h7
  have := h7 _ (List.getElem_mem hj)
  simp only [stOkS, Bool.and_eq_true] at this
  have h9 := this.1
  unfold stmtS at h9
  rw [h3] at h9
  simp at h9
  have := inB_iff.1 h9.1.2
  simp [nOf, hj]
  omega
/-- What a statement names, out of the cells that hold the statements. -/
theorem n_at {w : World} {lo hi : Nat} {A : Option Addr} {n c k : Nat} {l : List Stmt} (h : Sl StmtR w lo hi A n c l) (hk : k < n) : ∃ b off, A = some ⟨b, off, none⟩ ∧ lo ≤ b ∧ b < hi ∧ w.cell? ⟨b, off + k * 5 + 1, none⟩ = some (.int .i64 (nOf l (k : Int))) := by
  have e1 := h.lenEq
  obtain ⟨b, o, x0, x1, A2, n2, c2, s2, A3, n3, c3, s3, A4, n4, c4, s4, rfl, h1, h2, hl0, _, _, _, _, _, d0, d1, _⟩ := Stmt_at h hk
  refine ⟨b, o, rfl, h1, h2, ?_⟩
  unfold nOf; rw [show ((k : Int)).toNat = k from rfl, List.getElem?_eq_getElem (by omega), hl0]; exact d1
theorem par_at {w : World} {lo hi : Nat} {A : Option Addr} {n c k : Nat} {l : List Func} (h : Sl FuncR w lo hi A n c l) (hk : k < n) : ∃ b off, A = some ⟨b, off, none⟩ ∧ lo ≤ b ∧ b < hi ∧ w.cell? ⟨b, off + k * 4, none⟩ = some (.int .i64 ((paramsF l).getD k 0)) := by
  have e1 := h.lenEq
  obtain ⟨b, o, x0, x1, A2, n2, c2, s2, A3, n3, c3, s3, rfl, h1, h2, hl0, _, _, _, _, d0, _⟩ := Func_at h hk
  refine ⟨b, o, rfl, h1, h2, ?_⟩
  have : (paramsF l).getD k 0 = x0 := by
    have hkl : k < l.length := by omega
    simp only [List.getD, paramsF, List.getElem?_map]
    rw [List.getElem?_eq_getElem hkl, hl0]; rfl
  rw [this]; exact d0
set_option maxHeartbeats 8000000 in
theorem specGoodProg (w : World) (lo hi : Nat) (A : Option Addr) (n c : Nat) (fs : List Func) (h : Sl FuncR w lo hi A n c fs) (hh : hi ≤ w.heap.size) (hm : mszLFunc fs ≤ 1048576) :
    Calls Try.prog 99 #[.agg #[.slice A n c]] w (RetB (goodP fs) w) := by
  have e1 := h.lenEq
  have hml := mszLFunc_len fs
  have hpl : (paramsF fs).length = n := by simp [paramsF, e1]
  by_cases g1 : inB (n : Int) 1 5 = true
  rotate_left
  · have g1 : inB (n : Int) 1 5 = false := by simpa using g1
    have hv := Lib.hid (show goodP fs = false by rw [goodP_S, e1, g1]; rfl)
    go_enter Try.func99, Try.ntmps99
    go_wp2_with (go_at_call 100; ((with_reducible refine (specL1In _ _ _ _).mono ?_); rintro e w3 ⟨rfl, rfl⟩))
    go_ret
    exact RetB.mk hv.out.symm (by (repeat (first | with_reducible exact Below.refl _ _ | with_reducible assumption | with_reducible refine below_alloc ?_ _ | ((with_reducible refine Below.setCell ?_ ?_ _); rotate_left; (· first | exact Nat.le_refl _ | (simp; done) | (simp; omega))) | with_reducible refine below_drewN ?_ _ | with_reducible refine Below.drew ?_ | with_reducible refine below_then ?_ (by with_reducible assumption))))
  have g1' := inB_iff.1 g1
  have hn5 : n ≤ 5 := by omega
  have hn0 : 0 < n := by omega
  obtain ⟨b0, o0, rfl, _, hb0, hc0⟩ := par_at h hn0
  rw [Nat.zero_mul, Nat.add_zero] at hc0
  have hzb : b0 < w.heap.size := by omega
  generalize hx0 : (paramsF fs).getD 0 0 = x0 at hc0
  have hx0H := Lib.hid hx0
  clear hx0
  go_enter Try.func99, Try.ntmps99
  go_wp2_with fail
  refine (specL1In _ _ _ _).mono ?_
  rintro e w3 ⟨rfl, rfl⟩
  go_wp2_with fail
  refine (specL3Params _ lo hi _ n c fs (h.below (show Below w.heap.size w _ by (repeat (first | with_reducible exact Below.refl _ _ | with_reducible assumption | with_reducible refine below_alloc ?_ _ | ((with_reducible refine Below.setCell ?_ ?_ _); rotate_left; (· first | exact Nat.le_refl _ | (simp; done) | (simp; omega))) | with_reducible refine below_drewN ?_ _ | with_reducible refine Below.drew ?_ | with_reducible refine below_then ?_ (by with_reducible assumption)))) hh) (by first | omega | (simp; omega)) (by omega)).mono ?_
  rintro e w2 ⟨F2, Ap, np, cp, rfl, hop, hFp, hb2⟩
  have hS := hop.sl
  have hx2 : Below w.heap.size w w2 := by (repeat (first | with_reducible exact Below.refl _ _ | with_reducible assumption | with_reducible refine below_alloc ?_ _ | ((with_reducible refine Below.setCell ?_ ?_ _); rotate_left; (· first | exact Nat.le_refl _ | (simp; done) | (simp; omega))) | with_reducible refine below_drewN ?_ _ | with_reducible refine Below.drew ?_ | with_reducible refine below_then ?_ (by with_reducible assumption)))
  obtain ⟨hcE, hfE⟩ := bcell hb2
  have p0 : w2.cell? ⟨w.heap.size, 0, none⟩ = some (.slice (some ⟨b0, o0, none⟩) n c) := by simp [hcE, go_sem]
  have hz2 := hb2.size
  simp at hz2
  have hzw : w.heap.size < w2.heap.size := by omega
  have hc2 := below_cell hx2 hc0
  clear hcE hfE hop hFp hb2
  go_wp2_with fail
  refine (specL2Params _ 0 w2.heap.size np cp Ap _ (hS.below (show Below w2.heap.size w2 _ by (repeat (first | with_reducible exact Below.refl _ _ | with_reducible assumption | with_reducible refine below_alloc ?_ _ | ((with_reducible refine Below.setCell ?_ ?_ _); rotate_left; (· first | exact Nat.le_refl _ | (simp; done) | (simp; omega))) | with_reducible refine below_drewN ?_ _ | with_reducible refine Below.drew ?_ | with_reducible refine below_then ?_ (by with_reducible assumption)))) (Nat.le_refl _)) (by simp)).mono ?_
  rintro e w3 ⟨rfl, hb3⟩
  have hx3 : Below w2.heap.size w2 w3 := by (repeat (first | with_reducible exact Below.refl _ _ | with_reducible assumption | with_reducible refine below_alloc ?_ _ | ((with_reducible refine Below.setCell ?_ ?_ _); rotate_left; (· first | exact Nat.le_refl _ | (simp; done) | (simp; omega))) | with_reducible refine below_drewN ?_ _ | with_reducible refine Below.drew ?_ | with_reducible refine below_then ?_ (by with_reducible assumption)))
  have p3 := below_cell hx3 p0
  have hc3 := below_cell hx3 hc2
  have hw3 := below_then hx2 hx3
  have hz3 := hx3.size
  clear hS
  by_cases g2 : parB (paramsF fs) = true
  rotate_left
  · have g2 : parB (paramsF fs) = false := by simpa using g2
    go_wp2_with fail
    go_ret
    exact RetB.mk (by rw [goodP_S, g2]; simp) hw3
  by_cases g3 : x0 = 0
  rotate_left
  · have hv := Lib.hid (show goodP fs = false by rw [goodP_S, hx0H.out]; simp [g3])
    have hd : (x0 != 0) = true := by simpa using g3
    clear g3
    go_wp2_with fail
    go_ret
    exact RetB.mk hv.out.symm hw3
  have hv := Lib.hid (show goodP fs = fs.all (funcOkS (paramsF fs)) by rw [goodP_S, e1, g1, g2, hx0H.out, g3]; rfl)
  subst g3
  have HPL := Lib.hid hpl
  clear hpl
  go_wp2_with fail
  go_loopw [29] (fun i wr => ∃ k : Nat, k ≤ n ∧ i = .int .i64 k ∧ (fs.take k).all (funcOkS (paramsF fs)) = true ∧ Below w3.heap.size w3 wr) (fun i _ => n - (intOf i).toNat)
  case atStart => exact ⟨0, Nat.zero_le _, rfl, rfl, Below.refl _ _⟩
  case round =>
    obtain ⟨k, hk, rfl, ht0, hb⟩ := hrel
    have ht := Lib.hid ht0
    clear ht0
    have hzr := hb.size
    have hxr := below_then hw3 hb
    by_cases hlt : k < n
    · obtain ⟨bb, oo, x0, x1, A2, n2, c2, body, A3, n3, c3, ss, e9, _, _, hl0, i0, i1, h2, h3, d0, d1, d2, d3⟩ := Func_at (h.below hxr hh) hlt
      injection e9 with e9
      injection e9 with e91 e92
      subst e91 e92
      have hm1 := mszFunc_at (l := fs) (k := k) (by omega)
      rw [hl0] at hm1
      simp only [mszFunc] at hm1
      have hok := Lib.hid (fun (hp : funcOkS (paramsF fs) (x0, x1, body, ss) = true) => all_take_succ (p := funcOkS (paramsF fs)) ht.out (by omega) (by rw [hl0]; exact hp))
      have hno := Lib.hid (fun (hp : funcOkS (paramsF fs) (x0, x1, body, ss) = false) => all_false (p := funcOkS (paramsF fs)) (l := fs) (k := k) (by omega) (by rw [hl0]; exact hp))
      have hn2 : body.length ≤ 1048576 := by omega
      have pr := below_cell hb p3
      have hzwr : w.heap.size < wr.heap.size := by omega
      have E3 := Lib.hid h3.lenEq
      clear hl0
      go_wp2_with fail
      go_region_held3 (fun W => W.cell? ⟨wr.heap.size, 0, none⟩ = some (.int .i64 x0) ∧ W.cell? ⟨wr.heap.size, 1, none⟩ = some (.int .i64 x1) ∧ W.cell? ⟨wr.heap.size, 2, none⟩ = some (.slice A2 n2 c2) ∧ W.cell? ⟨wr.heap.size, 3, none⟩ = some (.slice A3 n3 c3) ∧ W.cell? ⟨w.heap.size, 0, none⟩ = some (.slice (some ⟨b0, o0, none⟩) n c))
        (first | exact ⟨by simp [go_sem], by simp [go_sem], by simp [go_sem], by simp [go_sem], by simp [go_sem, hzwr, pr]⟩ | exact ⟨t0, t1, t2, t3, t4⟩ | exact ⟨r0, r1, r2, r3, r4⟩)
        (first
          | (go_at_call 166; ((with_reducible refine (specL3Params _ lo hi _ n c fs (h.below (below_then hxr (show Below wr.heap.size wr _ by (repeat (first | with_reducible exact Below.refl _ _ | with_reducible assumption | with_reducible refine below_alloc ?_ _ | ((with_reducible refine Below.setCell ?_ ?_ _); rotate_left; (· first | exact Nat.le_refl _ | (simp; done) | (simp; omega))) | with_reducible refine below_drewN ?_ _ | with_reducible refine Below.drew ?_ | with_reducible refine below_then ?_ (by with_reducible assumption))))) hh) (Nat.le_trans hh (below_then hxr (show Below wr.heap.size wr _ by (repeat (first | with_reducible exact Below.refl _ _ | with_reducible assumption | with_reducible refine below_alloc ?_ _ | ((with_reducible refine Below.setCell ?_ ?_ _); rotate_left; (· first | exact Nat.le_refl _ | (simp; done) | (simp; omega))) | with_reducible refine below_drewN ?_ _ | with_reducible refine Below.drew ?_ | with_reducible refine below_then ?_ (by with_reducible assumption))))).size) (by omega)).mono ?_); rintro e w4 ⟨F4, A4, n4, c4, rfl, ho4, hF4, hb4⟩; obtain ⟨hcE, hfE⟩ := bcell hb4; have t0 : w4.cell? ⟨wr.heap.size, 0, none⟩ = some (.int .i64 x0) := (by simp [hcE, go_sem]); have t1 : w4.cell? ⟨wr.heap.size, 1, none⟩ = some (.int .i64 x1) := (by simp [hcE, go_sem]); have t2 : w4.cell? ⟨wr.heap.size, 2, none⟩ = some (.slice A2 n2 c2) := (by simp [hcE, go_sem]); have t3 : w4.cell? ⟨wr.heap.size, 3, none⟩ = some (.slice A3 n3 c3) := (by simp [hcE, go_sem]); have hx4 : Below wr.heap.size wr w4 := (by (repeat (first | with_reducible exact Below.refl _ _ | with_reducible assumption | with_reducible refine below_alloc ?_ _ | ((with_reducible refine Below.setCell ?_ ?_ _); rotate_left; (· first | exact Nat.le_refl _ | (simp; done) | (simp; omega))) | with_reducible refine below_drewN ?_ _ | with_reducible refine Below.drew ?_ | with_reducible refine below_then ?_ (by with_reducible assumption)))); have t4 := below_cell hx4 pr; have hz4 := hb4.size; clear hcE hfE))
          | (go_at_call 167; ((with_reducible refine (specL3Func _ lo hi 0 w4.heap.size x0 x1 A2 n2 c2 body A3 n3 c3 ss A4 n4 c4 (paramsF fs) (h2.below (below_then hx4 (show Below w4.heap.size w4 _ by (repeat (first | with_reducible exact Below.refl _ _ | with_reducible assumption | with_reducible refine below_alloc ?_ _ | ((with_reducible refine Below.setCell ?_ ?_ _); rotate_left; (· first | exact Nat.le_refl _ | (simp; done) | (simp; omega))) | with_reducible refine below_drewN ?_ _ | with_reducible refine Below.drew ?_ | with_reducible refine below_then ?_ (by with_reducible assumption))))) (by omega)) (h3.below (below_then hx4 (show Below w4.heap.size w4 _ by (repeat (first | with_reducible exact Below.refl _ _ | with_reducible assumption | with_reducible refine below_alloc ?_ _ | ((with_reducible refine Below.setCell ?_ ?_ _); rotate_left; (· first | exact Nat.le_refl _ | (simp; done) | (simp; omega))) | with_reducible refine below_drewN ?_ _ | with_reducible refine Below.drew ?_ | with_reducible refine below_then ?_ (by with_reducible assumption))))) (by omega)) (ho4.sl.below (show Below w4.heap.size w4 _ by (repeat (first | with_reducible exact Below.refl _ _ | with_reducible assumption | with_reducible refine below_alloc ?_ _ | ((with_reducible refine Below.setCell ?_ ?_ _); rotate_left; (· first | exact Nat.le_refl _ | (simp; done) | (simp; omega))) | with_reducible refine below_drewN ?_ _ | with_reducible refine Below.drew ?_ | with_reducible refine below_then ?_ (by with_reducible assumption)))) (Nat.le_refl _)) (Nat.le_trans (show hi ≤ wr.heap.size by omega) (below_then hx4 (show Below w4.heap.size w4 _ by (repeat (first | with_reducible exact Below.refl _ _ | with_reducible assumption | with_reducible refine below_alloc ?_ _ | ((with_reducible refine Below.setCell ?_ ?_ _); rotate_left; (· first | exact Nat.le_refl _ | (simp; done) | (simp; omega))) | with_reducible refine below_drewN ?_ _ | with_reducible refine Below.drew ?_ | with_reducible refine below_then ?_ (by with_reducible assumption))))).size) ((show Below w4.heap.size w4 _ by (repeat (first | with_reducible exact Below.refl _ _ | with_reducible assumption | with_reducible refine below_alloc ?_ _ | ((with_reducible refine Below.setCell ?_ ?_ _); rotate_left; (· first | exact Nat.le_refl _ | (simp; done) | (simp; omega))) | with_reducible refine below_drewN ?_ _ | with_reducible refine Below.drew ?_ | with_reducible refine below_then ?_ (by with_reducible assumption)))).size) (by omega) (by have := ho4.sl.lenEq; have := HPL.out; omega)).mono ?_); rintro e w5 ⟨rfl, hb5⟩; have hx5 : Below w4.heap.size w4 w5 := (by (repeat (first | with_reducible exact Below.refl _ _ | with_reducible assumption | with_reducible refine below_alloc ?_ _ | ((with_reducible refine Below.setCell ?_ ?_ _); rotate_left; (· first | exact Nat.le_refl _ | (simp; done) | (simp; omega))) | with_reducible refine below_drewN ?_ _ | with_reducible refine Below.drew ?_ | with_reducible refine below_then ?_ (by with_reducible assumption)))); have r0 := below_cell hx5 t0; have r1 := below_cell hx5 t1; have r2 := below_cell hx5 t2; have r3 := below_cell hx5 t3; have r4 := below_cell hx5 t4)))
      have hx45 : Below wr.heap.size wr w5 := below_then hx4 hx5
      have hz5 := hx5.size
      have hz45 := hx45.size
      have hzw5 : wr.heap.size < w5.heap.size := by simp at hz4; omega
      have hzw6 : w.heap.size < w5.heap.size := by omega
      clear t0 t1 t2 t3 t4 ho4 hF4 hb4 hb5
      generalize hf0 : funcS (paramsF fs) x0 x1 body ss = z
      have hfH := Lib.hid hf0
      clear hf0
      cases z
      · have hn9 := Lib.hid (hno.out (by unfold funcOkS; rw [hfH.out]; rfl))
        go_wp2_with fail
        go_ret
        exact RetB.mk (by rw [hv.out, hn9.out]) (below_then hxr hx45)
      have hSI := Lib.hid (fun x (hx : x ∈ sitesF ss) => site_in hfH.out hx)
      have hFI := Lib.hid (show funcOkS (paramsF fs) (x0, x1, body, ss) = (sitesF ss).all fun k => (paramsF fs).getD (nOf ss k).toNat 0 == 0 by unfold funcOkS; rw [hfH.out]; rfl)
      go_wp2_with fail
      refine (specL3Sites _ lo hi x0 x1 _ A3 n3 c3 ss (h3.below hx45 (by omega)) (by omega) (by have := E3.out; have := mszLStmt_len ss; omega)).mono ?_
      rintro e w6 ⟨F6, A6, n6, c6, rfl, ho6, hF6, hb6⟩
      have hO6 := ho6.sl
      have l6 := hO6.lenEq
      have l6' := hO6.lenLe
      have r3 := below_cell hb6 r3
      have r4 := below_cell hb6 r4
      have hx6 := below_then hx45 hb6
      have hz6 := hb6.size
      clear ho6 hF6 r0 r1 r2
      generalize hsit : sitesF ss = sit at hO6 l6 hSI hFI
      clear hsit
      go_wp2_with fail
      go_loopw [41] (fun i wq => ∃ q : Nat, q ≤ n6 ∧ i = .int .i64 q ∧ ((sit.take q).all fun k => (paramsF fs).getD (nOf ss k).toNat 0 == 0) = true ∧ Below w6.heap.size w6 wq) (fun i _ => n6 - (intOf i).toNat)
      case atStart => exact ⟨0, Nat.zero_le _, rfl, rfl, Below.refl _ _⟩
      case round =>
        obtain ⟨q, hq, rfl, hal0, hbq⟩ := hrel
        have hal := Lib.hid hal0
        clear hal0
        have hzq := hbq.size
        by_cases hql : q < n6
        · obtain ⟨b', o', rfl, _, _, hc6, _⟩ := (hO6.below hbq (Nat.le_refl _)).int_at hql
          obtain ⟨j, hxj, hj1, hj2, hj3⟩ := hSI.out (sit[q]'(by omega)) (List.getElem_mem _)
          have hok7 := Lib.hid (fun (hp : ((paramsF fs).getD (nOf ss (sit[q]'(by omega))).toNat 0 == 0) = true) => all_take_succ (p := fun k => (paramsF fs).getD (nOf ss k).toNat 0 == 0) (k := q) hal.out (by omega) hp)
          have hno7 := Lib.hid (fun (hp : ((paramsF fs).getD (nOf ss (sit[q]'(by omega))).toNat 0 == 0) = false) => all_false (p := fun k => (paramsF fs).getD (nOf ss k).toNat 0 == 0) (l := sit) (k := q) (by omega) hp)
          generalize sit[q]'(by omega) = x at hc6 hxj hok7 hno7
          subst hxj
          have hj3' : j < n3 := by have := E3.out; omega
          obtain ⟨b3, o3, rfl, hb31, hb32, hk3⟩ := n_at (h3.below (below_then hx6 hbq) (by omega)) hj3'
          obtain ⟨N, hN⟩ := Int.eq_ofNat_of_zero_le hj2
          rw [hN] at hk3 hj3
          have hNn : N < n := by have := HPL.out; omega
          obtain ⟨b9, o9, e9, _, _, hk9⟩ := par_at (h.below (below_then hxr (below_then hx6 hbq)) hh) hNn
          injection e9 with e9
          injection e9 with e91 e92
          subst e91 e92
          have hNT : (nOf ss (j : Int)).toNat = N := by omega
          rw [hNT] at hok7 hno7
          have r3q := below_cell hbq r3
          have r4q := below_cell hbq r4
          generalize (paramsF fs).getD N 0 = pv at hk9 hok7 hno7
          have hbi1 : (0 : Int) ≤ (N : Int) := by omega
          have hbi2 : (N : Int) < (n : Int) := by omega
          have hbi3 : (0 : Int) ≤ (j : Int) := by omega
          have hbi4 : (j : Int) < (n3 : Int) := by omega
          clear hN hNT hj2 hj3
          by_cases hpv : pv = 0
          · have hy7 := Lib.hid (hok7.out (by simpa using hpv))
            subst hpv
            go_wp2_with fail
            go_quiet (fail)
            go_wp2_with fail
            go_roundw
            case rel => exact ⟨q + 1, by omega, by go_num, hy7.out, by (repeat (first | with_reducible exact Below.refl _ _ | with_reducible assumption | with_reducible refine below_alloc ?_ _ | ((with_reducible refine Below.setCell ?_ ?_ _); rotate_left; (· first | exact Nat.le_refl _ | (simp; done) | (simp; omega))) | with_reducible refine below_drewN ?_ _ | with_reducible refine Below.drew ?_ | with_reducible refine below_then ?_ (by with_reducible assumption)))⟩
            case measure => simp [intOf]; omega
          · have hn2 := Lib.hid (hno.out (by rw [hFI.out, hno7.out (by simpa using hpv)]))
            have hd : (pv != 0) = true := by simpa using hpv
            clear hpv
            go_wp2_with fail
            go_quiet (fail)
            go_wp2_with fail
            go_ret
            exact RetB.mk (by rw [hv.out, hn2.out]) (below_then hxr (below_then hx6 (by (repeat (first | with_reducible exact Below.refl _ _ | with_reducible assumption | with_reducible refine below_alloc ?_ _ | ((with_reducible refine Below.setCell ?_ ?_ _); rotate_left; (· first | exact Nat.le_refl _ | (simp; done) | (simp; omega))) | with_reducible refine below_drewN ?_ _ | with_reducible refine Below.drew ?_ | with_reducible refine below_then ?_ (by with_reducible assumption))))))
        · have hal1 := hal.out
          rw [List.take_of_length_le (by omega)] at hal1
          have hy2 := Lib.hid (hok.out (by rw [hFI.out, hal1]))
          clear hal1
          go_wp2_with fail
          go_roundw
          case rel => exact ⟨k + 1, by omega, by go_num, hy2.out, below_then hb (below_then hx6 hbq)⟩
          case measure => simp [intOf]; omega
    · have hfin := ht.out
      rw [List.take_of_length_le (by omega)] at hfin
      have hF := Lib.hid hfin
      clear hfin
      go_wp2_with fail
      go_ret
      exact RetB.mk (by rw [hv.out, hF.out]) hxr
end Go.Proofs.Ytgagbbhnifkclaa
