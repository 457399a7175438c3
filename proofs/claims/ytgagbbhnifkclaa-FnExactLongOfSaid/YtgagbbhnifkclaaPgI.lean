/- A good program: the program's walk. -/
import Derived.Test.YtgagbbhnifkclaaPgP
set_option linter.unusedVariables false
set_option linter.unusedSimpArgs false
set_option maxRecDepth 100000
namespace Go.Proofs.Ytgagbbhnifkclaa
open Go.RowKit
set_option maxHeartbeats 2000000 in
theorem isProg1 (w : World) (lo hi lo' hi' : Nat) (pf pp : Nat) (u0 fv : Int) (B2 B3 : Option Addr) (m2 d2 m3 d3 : Nat) (k n : Int) (A2 : Option Addr) (n2 c2 : Nat) (ex : List Tok) (A3 A4 : Option Addr) (n3 c3 n4 c4 : Nat) (A : Option Addr) (n' c' : Nat) (ps : List Int)
    (f0 : w.cell? ⟨pf, 0, none⟩ = some (.int .i64 u0)) (f1 : w.cell? ⟨pf, 1, none⟩ = some (.int .i64 fv)) (f2 : w.cell? ⟨pf, 2, none⟩ = some (.slice B2 m2 d2)) (f3 : w.cell? ⟨pf, 3, none⟩ = some (.slice B3 m3 d3)) (q0 : w.cell? ⟨pp, 0, none⟩ = some (.slice A n' c'))
    (h2 : Sl TokR w lo hi A2 n2 c2 ex) (h : Sl intR w lo' hi' A n' c' ps) (hh : hi ≤ w.heap.size) (hh' : hi' ≤ w.heap.size) (hv : 0 ≤ fv ∧ fv ≤ 100) (hp : goodNeeds ps) (hn' : n' ≤ 100) (m3' : n3 ≤ 1048576) (m4' : n4 ≤ 1048576) (i1 : I64 n) :
    Calls Try.prog 173 (#[.agg #[.int .i64 k, .int .i64 n, .slice A2 n2 c2, .slice A3 n3 c3, .slice A4 n4 c4]] ++ #[.pointer (some ⟨pf, 0, none⟩), .pointer (some ⟨pp, 0, none⟩)]) w (RetB (!(decide (0 ≤ n) && stmtI fv ps k n ex n' n2 n3 n4)) w) := by
  show Calls Try.prog 173 #[.agg #[.int .i64 k, .int .i64 n, .slice A2 n2 c2, .slice A3 n3 c3, .slice A4 n4 c4], .pointer (some ⟨pf, 0, none⟩), .pointer (some ⟨pp, 0, none⟩)] w _
  have z1 : pf < w.heap.size := World.block_lt_of_cell? w _ f0
  have z2 : pp < w.heap.size := World.block_lt_of_cell? w _ q0
  have HP := Lib.hid hp
  clear hp
  by_cases hn : n < 0
  · have hd : decide (n < 0) = true := by simpa using hn
    have hv' := Lib.hid (show decide (0 ≤ n) = false by simp; omega)
    clear hn
    go_enter Try.func173, Try.ntmps173
    go_wp2_with fail
    go_ret
    exact RetB.mk (by rw [hv'.out]; rfl) (by (repeat (first | with_reducible exact Below.refl _ _ | with_reducible assumption | with_reducible refine below_alloc ?_ _ | ((with_reducible refine Below.setCell ?_ ?_ _); rotate_left; (· first | exact Nat.le_refl _ | (simp; done) | (simp; omega))) | with_reducible refine below_drewN ?_ _ | with_reducible refine Below.drew ?_ | with_reducible refine below_then ?_ (by with_reducible assumption))))
  · have hd : decide (n < 0) = false := by simpa using hn
    have hv' := Lib.hid (show decide (0 ≤ n) = true by simp; omega)
    clear hn
    go_enter Try.func173, Try.ntmps173
    go_wp2_with fail
    refine (implIsStmt _ lo hi lo' hi' u0 fv _ _ k n A2 n2 c2 ex A3 A4 n3 c3 n4 c4 A n' c' ps (h2.below (show Below w.heap.size w _ by (repeat (first | with_reducible exact Below.refl _ _ | with_reducible assumption | with_reducible refine below_alloc ?_ _ | ((with_reducible refine Below.setCell ?_ ?_ _); rotate_left; (· first | exact Nat.le_refl _ | (simp; done) | (simp; omega))) | with_reducible refine below_drewN ?_ _ | with_reducible refine Below.drew ?_ | with_reducible refine below_then ?_ (by with_reducible assumption)))) hh) (h.below (show Below w.heap.size w _ by (repeat (first | with_reducible exact Below.refl _ _ | with_reducible assumption | with_reducible refine below_alloc ?_ _ | ((with_reducible refine Below.setCell ?_ ?_ _); rotate_left; (· first | exact Nat.le_refl _ | (simp; done) | (simp; omega))) | with_reducible refine below_drewN ?_ _ | with_reducible refine Below.drew ?_ | with_reducible refine below_then ?_ (by with_reducible assumption)))) hh') (by first | omega | (simp; omega)) (by first | omega | (simp; omega)) hv HP.out hn' m3' m4').mono ?_
    rintro e w2 ⟨rfl, hb⟩
    go_wp2_with fail
    go_ret
    exact RetB.mk (by rw [hv'.out, Bool.true_and]) (by (repeat (first | with_reducible exact Below.refl _ _ | with_reducible assumption | with_reducible refine below_alloc ?_ _ | ((with_reducible refine Below.setCell ?_ ?_ _); rotate_left; (· first | exact Nat.le_refl _ | (simp; done) | (simp; omega))) | with_reducible refine below_drewN ?_ _ | with_reducible refine Below.drew ?_ | with_reducible refine below_then ?_ (by with_reducible assumption))))
set_option maxHeartbeats 4000000 in
theorem implIsProg (w : World) (lo hi : Nat) (A : Option Addr) (n c : Nat) (fs : List Func) (h : Sl FuncR w lo hi A n c fs) (hh : hi ≤ w.heap.size) (hm : mszLFunc fs ≤ 1048576) :
    Calls Try.prog 104 #[.agg #[.slice A n c]] w (RetB (goodP fs) w) := by
  have e1 := h.lenEq
  have hml := mszLFunc_len fs
  have hpl : (paramsF fs).length = fs.length := by simp [paramsF]
  go_enter Try.func104, Try.ntmps104
  go_wp2_with fail
  refine (implParamsOf _ lo hi A n c fs (h.below (show Below w.heap.size w _ by (repeat (first | with_reducible exact Below.refl _ _ | with_reducible assumption | with_reducible refine below_alloc ?_ _ | ((with_reducible refine Below.setCell ?_ ?_ _); rotate_left; (· first | exact Nat.le_refl _ | (simp; done) | (simp; omega))) | with_reducible refine below_drewN ?_ _ | with_reducible refine Below.drew ?_ | with_reducible refine below_then ?_ (by with_reducible assumption)))) hh) (by first | omega | (simp; omega)) (by omega)).mono ?_
  rintro e w2 ⟨F2, Ap, np, cp, rfl, hop, hFp, hb2⟩
  have hS := hop.sl
  have lp := hS.lenEq
  have hx2 : Below w.heap.size w w2 := by (repeat (first | with_reducible exact Below.refl _ _ | with_reducible assumption | with_reducible refine below_alloc ?_ _ | ((with_reducible refine Below.setCell ?_ ?_ _); rotate_left; (· first | exact Nat.le_refl _ | (simp; done) | (simp; omega))) | with_reducible refine below_drewN ?_ _ | with_reducible refine Below.drew ?_ | with_reducible refine below_then ?_ (by with_reducible assumption)))
  obtain ⟨hcE, hfE⟩ := bcell hb2
  have p0 : w2.cell? ⟨w.heap.size, 0, none⟩ = some (.slice A n c) := by simp [hcE, go_sem]
  have hz2 := hb2.size
  simp at hz2
  have hzw : w.heap.size < w2.heap.size := by omega
  clear hcE hfE hop hFp hb2
  by_cases g1 : inB (n : Int) 1 5 = true
  rotate_left
  · have g1 : inB (n : Int) 1 5 = false := by simpa using g1
    have hv := Lib.hid (show goodP fs = false by unfold goodP; rw [e1, g1]; rfl)
    go_wp2_with (go_at_call 105; ((with_reducible refine (implWithin _ _ _ _).mono ?_); rintro e w3 ⟨rfl, rfl⟩))
    go_ret
    exact RetB.mk hv.out.symm (by (repeat (first | with_reducible exact Below.refl _ _ | with_reducible assumption | with_reducible refine below_alloc ?_ _ | ((with_reducible refine Below.setCell ?_ ?_ _); rotate_left; (· first | exact Nat.le_refl _ | (simp; done) | (simp; omega))) | with_reducible refine below_drewN ?_ _ | with_reducible refine Below.drew ?_ | with_reducible refine below_then ?_ (by with_reducible assumption))))
  by_cases g2 : parB (paramsF fs) = true
  rotate_left
  · have g2 : parB (paramsF fs) = false := by simpa using g2
    have hv := Lib.hid (show goodP fs = false by unfold goodP; rw [g2]; simp)
    go_wp2_with (first
      | (go_at_call 105; ((with_reducible refine (implWithin _ _ _ _).mono ?_); rintro e w3 ⟨rfl, rfl⟩))
      | (go_at_call 170; ((with_reducible refine (implAreParams _ 0 w2.heap.size np cp Ap _ (hS.below (show Below w2.heap.size w2 _ by (repeat (first | with_reducible exact Below.refl _ _ | with_reducible assumption | with_reducible refine below_alloc ?_ _ | ((with_reducible refine Below.setCell ?_ ?_ _); rotate_left; (· first | exact Nat.le_refl _ | (simp; done) | (simp; omega))) | with_reducible refine below_drewN ?_ _ | with_reducible refine Below.drew ?_ | with_reducible refine below_then ?_ (by with_reducible assumption)))) (Nat.le_refl _)) (by simp)).mono ?_); rintro e w3 ⟨rfl, hb3⟩)))
    go_ret
    exact RetB.mk hv.out.symm (below_then hx2 (by (repeat (first | with_reducible exact Below.refl _ _ | with_reducible assumption | with_reducible refine below_alloc ?_ _ | ((with_reducible refine Below.setCell ?_ ?_ _); rotate_left; (· first | exact Nat.le_refl _ | (simp; done) | (simp; omega))) | with_reducible refine below_drewN ?_ _ | with_reducible refine Below.drew ?_ | with_reducible refine below_then ?_ (by with_reducible assumption)))))
  have g1' := inB_iff.1 g1
  obtain ⟨hgn, _⟩ := parB_good g2
  have hn5 : n ≤ 5 := by omega
  obtain hnp : n = np := by omega
  subst hnp
  have HG := Lib.hid hgn
  clear hgn
  obtain ⟨x0, hx0⟩ : ∃ x, (paramsF fs)[0]'(by omega) = x := ⟨_, rfl⟩
  obtain ⟨b0, o0, rfl, _, _, hc0, _⟩ := hS.int_at (k := 0) (by omega)
  rw [hx0] at hc0
  have hc0 : w2.cell? ⟨b0, o0, none⟩ = some (.int .i64 x0) := hc0
  have hzb : b0 < w2.heap.size := World.block_lt_of_cell? w2 _ hc0
  have hgd : (paramsF fs).getD 0 0 = x0 := by rw [← hx0]; simp only [List.getD]; rw [List.getElem?_eq_getElem (by omega), Option.getD_some]
  have hnp1 : 0 < n := by omega
  by_cases g3 : x0 = 0
  rotate_left
  · have hv := Lib.hid (show goodP fs = false by unfold goodP; rw [hgd]; simp [g3])
    have hd : (x0 != 0) = true := by simpa using g3
    clear hx0 hgd g3
    go_wp2_with fail
    refine (implWithin _ _ _ _).mono ?_
    rintro e w3 ⟨rfl, rfl⟩
    go_wp2_with fail
    refine (implAreParams _ 0 w2.heap.size n cp _ _ (hS.below (show Below w2.heap.size w2 _ by (repeat (first | with_reducible exact Below.refl _ _ | with_reducible assumption | with_reducible refine below_alloc ?_ _ | ((with_reducible refine Below.setCell ?_ ?_ _); rotate_left; (· first | exact Nat.le_refl _ | (simp; done) | (simp; omega))) | with_reducible refine below_drewN ?_ _ | with_reducible refine Below.drew ?_ | with_reducible refine below_then ?_ (by with_reducible assumption)))) (Nat.le_refl _)) (by simp)).mono ?_
    rintro e w3 ⟨rfl, hb3⟩
    have hx3 : Below w2.heap.size w2 w3 := by (repeat (first | with_reducible exact Below.refl _ _ | with_reducible assumption | with_reducible refine below_alloc ?_ _ | ((with_reducible refine Below.setCell ?_ ?_ _); rotate_left; (· first | exact Nat.le_refl _ | (simp; done) | (simp; omega))) | with_reducible refine below_drewN ?_ _ | with_reducible refine Below.drew ?_ | with_reducible refine below_then ?_ (by with_reducible assumption)))
    have hc3 := below_cell hx3 hc0
    have k3 : w3.cell? ⟨w2.heap.size, 0, none⟩ = some (.slice (some ⟨b0, o0, none⟩) n cp) := below_cell hb3 (by simp [go_sem])
    go_wp2_with fail
    go_ret
    exact RetB.mk hv.out.symm (below_then hx2 hx3)
  have hv := Lib.hid (show goodP fs = fs.all (funcOkI (paramsF fs)) by unfold goodP; rw [e1, g1, g2, hgd, g3]; rfl)
  subst g3
  clear hx0 hgd
  go_wp2_with fail
  refine (implWithin _ _ _ _).mono ?_
  rintro e w3 ⟨rfl, rfl⟩
  go_wp2_with fail
  refine (implAreParams _ 0 w2.heap.size n cp _ _ (hS.below (show Below w2.heap.size w2 _ by (repeat (first | with_reducible exact Below.refl _ _ | with_reducible assumption | with_reducible refine below_alloc ?_ _ | ((with_reducible refine Below.setCell ?_ ?_ _); rotate_left; (· first | exact Nat.le_refl _ | (simp; done) | (simp; omega))) | with_reducible refine below_drewN ?_ _ | with_reducible refine Below.drew ?_ | with_reducible refine below_then ?_ (by with_reducible assumption)))) (Nat.le_refl _)) (by simp)).mono ?_
  rintro e w3 ⟨rfl, hb3⟩
  have hx3 : Below w2.heap.size w2 w3 := by (repeat (first | with_reducible exact Below.refl _ _ | with_reducible assumption | with_reducible refine below_alloc ?_ _ | ((with_reducible refine Below.setCell ?_ ?_ _); rotate_left; (· first | exact Nat.le_refl _ | (simp; done) | (simp; omega))) | with_reducible refine below_drewN ?_ _ | with_reducible refine Below.drew ?_ | with_reducible refine below_then ?_ (by with_reducible assumption)))
  have hz3 := hb3.size
  simp at hz3
  have hc3 := below_cell hx3 hc0
  have k3 : w3.cell? ⟨w2.heap.size, 0, none⟩ = some (.slice (some ⟨b0, o0, none⟩) n cp) := below_cell hb3 (by simp [go_sem])
  have p3 := below_cell hx3 p0
  have hS3 := hS.below hx3 (Nat.le_refl _)
  have hw3 := below_then hx2 hx3
  have hz3' : w2.heap.size ≤ w3.heap.size := by omega
  go_wp2_with fail
  have C0 := hc3
  go_loopw [27] (fun i wr => ∃ k : Nat, k ≤ n ∧ i = .int .i64 k ∧ (fs.take k).all (funcOkI (paramsF fs)) = true ∧ Below w3.heap.size w3 wr) (fun i _ => n - (intOf i).toNat)
  case atStart => exact ⟨0, Nat.zero_le _, rfl, rfl, Below.refl _ _⟩
  case round =>
    obtain ⟨k, hk, rfl, ht0, hb⟩ := hrel
    have ht := Lib.hid ht0
    clear ht0
    have hzr := hb.size
    have hxr := below_then hw3 hb
    by_cases hlt : k < n
    · obtain ⟨bb, oo, x0, x1, A2, n2, c2, body, A3, n3, c3, ss, rfl, _, _, hl0, i0, i1, h2, h3, d0, d1, d2, d3⟩ := Func_at (h.below hxr hh) hlt
      have hm1 := mszFunc_at (l := fs) (k := k) (by omega)
      rw [hl0] at hm1
      simp only [mszFunc] at hm1
      have hok := Lib.hid (fun (hp : funcOkI (paramsF fs) (x0, x1, body, ss) = true) => all_take_succ (p := funcOkI (paramsF fs)) ht.out (by omega) (by rw [hl0]; exact hp))
      have hno := Lib.hid (fun (hp : funcOkI (paramsF fs) (x0, x1, body, ss) = false) => all_false (p := funcOkI (paramsF fs)) (l := fs) (k := k) (by omega) (by rw [hl0]; exact hp))
      have q2 := h2.lenEq
      have q3 := h3.lenEq
      have hn2 : n2 ≤ 1048576 := by omega
      have kr := below_cell hb k3
      have pr := below_cell hb p3
      have hSr := hS3.below hb hz3'
      clear hl0
      by_cases hs : shapeI x0 x1 body ss = true
      rotate_left
      · have hs : shapeI x0 x1 body ss = false := by simpa using hs
        have hn9 := Lib.hid (hno.out (by unfold funcOkI; rw [hs]; rfl))
        go_wp2_with fail
        refine (implIsShaped _ lo hi x0 x1 A2 n2 c2 body A3 n3 c3 ss (h2.below (show Below wr.heap.size wr _ by (repeat (first | with_reducible exact Below.refl _ _ | with_reducible assumption | with_reducible refine below_alloc ?_ _ | ((with_reducible refine Below.setCell ?_ ?_ _); rotate_left; (· first | exact Nat.le_refl _ | (simp; done) | (simp; omega))) | with_reducible refine below_drewN ?_ _ | with_reducible refine Below.drew ?_ | with_reducible refine below_then ?_ (by with_reducible assumption)))) (by omega)) (h3.below (show Below wr.heap.size wr _ by (repeat (first | with_reducible exact Below.refl _ _ | with_reducible assumption | with_reducible refine below_alloc ?_ _ | ((with_reducible refine Below.setCell ?_ ?_ _); rotate_left; (· first | exact Nat.le_refl _ | (simp; done) | (simp; omega))) | with_reducible refine below_drewN ?_ _ | with_reducible refine Below.drew ?_ | with_reducible refine below_then ?_ (by with_reducible assumption)))) (by omega)) (by first | omega | (simp; omega)) (by omega) hn2).mono ?_
        rintro e w6 ⟨rfl, hb6⟩
        go_wp2_with fail
        go_ret
        exact RetB.mk (by rw [hv.out, hn9.out]) (below_then hxr (by (repeat (first | with_reducible exact Below.refl _ _ | with_reducible assumption | with_reducible refine below_alloc ?_ _ | ((with_reducible refine Below.setCell ?_ ?_ _); rotate_left; (· first | exact Nat.le_refl _ | (simp; done) | (simp; omega))) | with_reducible refine below_drewN ?_ _ | with_reducible refine Below.drew ?_ | with_reducible refine below_then ?_ (by with_reducible assumption)))))
      have hs1 : inB x0 0 2 = true ∧ inB x1 x0 6 = true := by
        unfold shapeI at hs
        simp only [Bool.and_eq_true] at hs
        exact ⟨hs.1.1.1.1.1.1.1.1, hs.1.1.1.1.1.1.1.2⟩
      have hfv : 0 ≤ x1 ∧ x1 ≤ 100 := by
        have a1 := inB_iff.1 hs1.1
        have a2 := inB_iff.1 hs1.2
        omega
      have hFI := Lib.hid (show funcOkI (paramsF fs) (x0, x1, body, ss) = ss.all (stmtOkI x1 (paramsF fs)) by unfold funcOkI; rw [hs]; rfl)
      have hAny := Lib.hid (any_not_all (stmtOkI x1 (paramsF fs)) ss)
      have lp' : (paramsF fs).length = n := lp
      clear hs1
      go_wp2_with fail
      refine (implIsShaped _ lo hi x0 x1 A2 n2 c2 body A3 n3 c3 ss (h2.below (show Below wr.heap.size wr _ by (repeat (first | with_reducible exact Below.refl _ _ | with_reducible assumption | with_reducible refine below_alloc ?_ _ | ((with_reducible refine Below.setCell ?_ ?_ _); rotate_left; (· first | exact Nat.le_refl _ | (simp; done) | (simp; omega))) | with_reducible refine below_drewN ?_ _ | with_reducible refine Below.drew ?_ | with_reducible refine below_then ?_ (by with_reducible assumption)))) (by omega)) (h3.below (show Below wr.heap.size wr _ by (repeat (first | with_reducible exact Below.refl _ _ | with_reducible assumption | with_reducible refine below_alloc ?_ _ | ((with_reducible refine Below.setCell ?_ ?_ _); rotate_left; (· first | exact Nat.le_refl _ | (simp; done) | (simp; omega))) | with_reducible refine below_drewN ?_ _ | with_reducible refine Below.drew ?_ | with_reducible refine below_then ?_ (by with_reducible assumption)))) (by omega)) (by first | omega | (simp; omega)) (by omega) hn2).mono ?_
      rintro e w6 ⟨rfl, hb6⟩
      have hx6 : Below wr.heap.size wr w6 := by (repeat (first | with_reducible exact Below.refl _ _ | with_reducible assumption | with_reducible refine below_alloc ?_ _ | ((with_reducible refine Below.setCell ?_ ?_ _); rotate_left; (· first | exact Nat.le_refl _ | (simp; done) | (simp; omega))) | with_reducible refine below_drewN ?_ _ | with_reducible refine Below.drew ?_ | with_reducible refine below_then ?_ (by with_reducible assumption)))
      have hz6 := hb6.size
      simp at hz6
      obtain ⟨hcE, hfE⟩ := bcell hb6
      have t0 : w6.cell? ⟨wr.heap.size, 0, none⟩ = some (.int .i64 x0) := by simp [hcE, go_sem]
      have t1 : w6.cell? ⟨wr.heap.size, 1, none⟩ = some (.int .i64 x1) := by simp [hcE, go_sem]
      have t2 : w6.cell? ⟨wr.heap.size, 2, none⟩ = some (.slice A2 n2 c2) := by simp [hcE, go_sem]
      have t3 : w6.cell? ⟨wr.heap.size, 3, none⟩ = some (.slice A3 n3 c3) := by simp [hcE, go_sem]
      clear hcE hfE hb6
      have kr6 := below_cell hx6 kr
      go_wp2_with fail
      refine (conFuncStmt 173 #[.pointer (some ⟨wr.heap.size, 0, none⟩), .pointer (some ⟨w2.heap.size, 0, none⟩)] (fun s => !stmtOkI x1 (paramsF fs) s) _ lo hi n3 c3 A3 ss (h3.below hx6 (by omega)) (by omega) (fun _ _ => by kernel_rfl) (fun W y0 y1 B2 m2 e2 s2 B3 m3 e3 s3 B4 m4 e4 s4 hmem hW j0 j1 T2 T3 T4 => ?_)).mono ?_
      · have E2 := T2.lenEq
        have E3 := T3.lenEq
        have E4 := T4.lenEq
        obtain ⟨kk, hkk, hke⟩ := List.getElem_of_mem hmem
        have hm2 := mszStmt_at (l := ss) (k := kk) hkk
        rw [hke] at hm2
        simp only [mszStmt] at hm2
        have hSW := hSr.below (below_then hx6 hW) (by omega)
        have hzW := hW.size
        have key : stmtOkI x1 (paramsF fs) (y0, y1, s2, s3, s4) = (decide (0 ≤ y1) && stmtI x1 (paramsF fs) y0 y1 s2 n m2 m3 m4) := by unfold stmtOkI; simp only [E2, E3, E4, lp']
        rw [key]
        exact isProg1 W lo hi 0 w2.heap.size wr.heap.size w2.heap.size x0 x1 A2 A3 n2 c2 n3 c3 y0 y1 B2 m2 e2 s2 B3 B4 m3 e3 m4 e4 _ n cp (paramsF fs) (below_cell hW t0) (below_cell hW t1) (below_cell hW t2) (below_cell hW t3) (below_cell hW kr6) T2 hSW (by omega) (by omega) hfv HG.out (by omega) (by omega) (by omega) j1
      rintro e w7 ⟨rfl, hb7⟩
      generalize hvv : ss.any (fun s => !stmtOkI x1 (paramsF fs) s) = v
      have hvH := Lib.hid hvv
      clear hvv
      cases v
      · have hy := Lib.hid (hok.out (by rw [hFI.out, ← hAny.out, hvH.out]; rfl))
        go_wp2_with fail
        go_roundw
        case rel => exact ⟨k + 1, by omega, by go_num, hy.out, below_then hb (below_then hx6 hb7)⟩
        case measure => simp [intOf]; omega
      · have hy := Lib.hid (hno.out (by rw [hFI.out, ← hAny.out, hvH.out]; rfl))
        go_wp2_with fail
        go_ret
        exact RetB.mk (by rw [hv.out, hy.out]) (below_then hxr (below_then hx6 hb7))
    · have hfin := ht.out
      rw [List.take_of_length_le (by omega)] at hfin
      have hF := Lib.hid hfin
      clear hfin
      go_wp2_with fail
      go_ret
      exact RetB.mk (by rw [hv.out, hF.out]) hxr
end Go.Proofs.Ytgagbbhnifkclaa
