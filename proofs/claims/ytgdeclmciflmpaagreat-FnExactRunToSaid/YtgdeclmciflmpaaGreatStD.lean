/- Several texts in one: StepI8, StepI9. -/
import Derived.Test.YtgdeclmciflmpaaGreatStC

/- One step of the program's machine: walks. Printed by stepi6gen.py. -/
set_option linter.unusedVariables false
set_option linter.unusedSimpArgs false
set_option maxRecDepth 100000
namespace Go.Proofs.YtgdeclmciflmpaaGreat
open Go.RowKit
attribute [local irreducible] wpList
theorem MM.apFlag {C : Cfg} {w : World} {s : MS} {j g n c X : Nat} {f : Frame} (h : MM C w (.slice (some ⟨g, 0, none⟩) n c) s) (hj : s.fs.reverse[j]? = some f) (hx : X ∈ C.D) {g5 n5 c5 : Nat} (h5 : w.cell? ⟨g, j * 11 + 5, none⟩ = some (.slice (some ⟨g5, 0, none⟩) n5 c5)) : g5 ≠ X := by
  obtain ⟨Ff, Ft, Fn, vt, vn, h⟩ := h
  obtain ⟨hj1, hj2⟩ := List.getElem?_eq_some_iff.1 hj
  obtain ⟨g', pre, cs, post, Fj, e, hn', hpl, hown, hrow, hg, hgj, hsub, put⟩ := h.frs.focus3 (by decide) hj1
  simp only [Option.some.injEq, Addr.mk.injEq, and_true] at e
  subst e
  rw [hj2] at hown
  obtain ⟨F3, F4, F5, v3, v4, v5, rfl, rfl, hnd, hi, o3, o4, o5⟩ := own_frCells' hown
  have hc := rowCell hrow hpl (i := 5) (show 5 < (frCells f v3 v4 v5).length from (by decide : 5 < 11))
  have he := h5.symm.trans hc
  injection he with he
  have he : Value.slice (some ⟨g5, 0, none⟩) n5 c5 = v5 := he
  intro e2
  have hm : g5 ∈ F5 := o5.ownB g5 (by rw [← he]; rfl)
  exact (h.ap X hx).2 (List.mem_cons_of_mem _ (List.mem_append_left _ (hsub X (e2 ▸ List.mem_append_right _ (List.mem_append_right _ hm)))))
theorem stepI_17 {x : Image} {ins : List Int} {most : Int} {s : MS} {f : Frame} {rest : List Frame} {i : Ins} (h : i.1 = 17) : stepI x ins most s f rest i = (if f.2.2.2.2.2.1.getD i.2.toNat false = true then
      (if most ≤ (s.fs.length : Int) then { s with code := 4 }
       else { callM x most s (fFlags f (f.2.2.2.2.2.1.set i.2.toNat false)) rest ((fCode x f).2.2.1.getD i.2.toNat 0) 0 true with notes := s.notes ++ [(2, f.1, i.2)] })
    else { s with fs := fGo f (f.2.2.1 + 1) (fPile f) :: rest }) := by
  unfold stepI
  simp only
  rw [if_neg (by omega), if_neg (by omega), if_neg (by omega), if_neg (by omega), if_neg (by omega), if_neg (by omega), if_neg (by omega), if_neg (by omega), if_neg (by omega), if_neg (by omega), if_neg (by omega), if_neg (by omega), if_neg (by omega), if_neg (by omega), if_neg (by omega), if_neg (by omega), if_pos h]
set_option maxHeartbeats 4000000 in
theorem implStep4 (C : Cfg) (w : World) (vf : Value) (s : MS) (f : Frame) (rest : List Frame) (N : Nat) (h : MM C w vf s) (R : Rdy C.x C.ins C.most N s f rest) (hK : (fIns C.x f).1 = 4) :
    Calls Tryz.prog 28 #[.pointer (some ⟨C.M, 0, none⟩)] w (RetN C (stepF C.x C.ins C.most s) w) := by
  obtain ⟨g, n, c, rfl, hn, h0, hnc, hcm, hj⟩ := h.opens R.fs
  have hn1 : n ≤ 1000000 := by have := R.ok.many; omega
  have FW := Lib.hid R.fw
  have HIW := Lib.hid R.insW
  have hpl := R.pile
  have HE := Lib.hid (show stepF C.x C.ins C.most s = stepI C.x C.ins C.most s f rest (fIns C.x f) by unfold stepF; rw [R.fs])
  obtain ⟨N2, hN2⟩ : ∃ N2, (fIns C.x f).2 = N2 := ⟨_, rfl⟩
  have i2 : I64 N2 := hN2 ▸ ins64 R.insW.1
  obtain ⟨fb, hfb⟩ := Int.eq_ofNat_of_zero_le FW.out.fn.1
  obtain ⟨pb, hpb⟩ := Int.eq_ofNat_of_zero_le FW.out.at_.1
  have hfbx : fb < C.x.length := by have := FW.out.fn.2; omega
  have hcd : fCode C.x f = codeD C.x (fb : Int) := by unfold fCode; rw [hfb]
  have hpbx : pb < (codeD C.x (fb : Int)).2.2.2.1.length := by have := FW.out.at_.2; rw [hcd, hpb] at this; omega
  have l5 : pb ≤ 1000000 := by have := FW.out.il; have := FW.out.at_.2; omega
  have l6 : fb ≤ 1000000 := by have := FW.out.xl; omega
  have hIe : fIns C.x f = (4, N2) := by rw [← hK, ← hN2]
  have HIE := Lib.hid hIe
  have HN := Lib.hid hn
  have HJ := Lib.hid hj
  have RR := Lib.hid R
  have HH := Lib.hid h
  clear hn hj R h
  go_enter Tryz.func28, Tryz.ntmps28
  go_wp2_with fail
  refine (implTop C _ g n c s HH.out h0 hn1 hnc hcm).mono ?_
  rintro e w1 ⟨rfl, k1, hw1⟩
  have h2 : MM C w1 (.slice (some ⟨g, 0, none⟩) n c) s := by rw [hw1]; exact HH.out.drewN k1
  clear hw1
  obtain ⟨bc, oc, bi, oi, k3, d3, eA, hnx, hk3, hbc, hbi, u3, u5, u6, _, _⟩ := h2.insCells hfbx hpbx
  have hop : insAt (codeD C.x (fb : Int)).2.2.2.1 (pb : Int) = fIns C.x f := by unfold fIns; rw [hcd, hpb]
  rw [hop, hIe] at u5 u6
  obtain ⟨_, _, mv⟩ := h2.mv
  have m0 := mv.m0
  rw [eA] at m0
  obtain ⟨_, _, _, _, _, _, _, _, ho⟩ := h2.opg HJ.out
  have c1 := ho.fv.c1
  have c2 := ho.fv.c2
  rw [hfb] at c1
  rw [hpb] at c2
  have hgl := ho.fv.lt
  have hM3 := mv.lt
  have hgM := ho.fv.gM
  obtain ⟨_, _, hBw⟩ := h2.xs
  have l1 : fb < C.nx := by omega
  have l2 : (fb : Int) < (C.nx : Int) := by omega
  have l3 : pb < k3 := by omega
  have l4 : (pb : Int) < (k3 : Int) := by omega
  have hS := Lib.hid (show ∀ V', Below w1.heap.size w1 V' → V'.cell? ⟨C.M, 0, none⟩ = some (.slice (some ⟨bc, oc, none⟩) C.nx C.cx) ∧ V'.cell? ⟨g, (n - 1) * 11 + 1, none⟩ = some (.int .i64 fb) ∧ V'.cell? ⟨g, (n - 1) * 11 + 2, none⟩ = some (.int .i64 pb) ∧ V'.cell? ⟨bc, oc + fb * 5 + 3, none⟩ = some (.slice (some ⟨bi, oi, none⟩) k3 d3) ∧ V'.cell? ⟨bi, oi + pb * 2, none⟩ = some (.int .i64 4) ∧ V'.cell? ⟨bi, oi + pb * 2 + 1, none⟩ = some (.int .i64 N2) from fun V' hV => ⟨below_cell hV m0, below_cell hV c1, below_cell hV c2, below_cell hV u3, below_cell hV u5, below_cell hV u6⟩)
  have HPB := Lib.hid hpb
  have H2 := Lib.hid h2
  clear mv ho h2 hk3 hnx hcd hpb hfb hop eA hIe hK hN2 m0 c1 c2 u3 u5 u6
  go_upto_region 1 with fail
  obtain ⟨q0, q1, q2, q3, q4, q5⟩ := hS.out w1 (Below.refl _ _)
  go_region_held3 (fun V' => V'.cell? ⟨C.M, 0, none⟩ = some (.slice (some ⟨bc, oc, none⟩) C.nx C.cx) ∧ V'.cell? ⟨g, (n - 1) * 11 + 1, none⟩ = some (.int .i64 fb) ∧ V'.cell? ⟨g, (n - 1) * 11 + 2, none⟩ = some (.int .i64 pb) ∧ V'.cell? ⟨bc, oc + fb * 5 + 3, none⟩ = some (.slice (some ⟨bi, oi, none⟩) k3 d3) ∧ V'.cell? ⟨bi, oi + pb * 2, none⟩ = some (.int .i64 4) ∧ V'.cell? ⟨bi, oi + pb * 2 + 1, none⟩ = some (.int .i64 N2)) (exact hS.out _ (show Below w1.heap.size w1 _ by exact beloA)) (fail)
  obtain ⟨W, hW⟩ : ∃ W, W = (w1.alloc (.cells #[.int .i64 4, .int .i64 N2] 84)).drew := ⟨_, rfl⟩
  have hbW : Below w1.heap.size w1 W := by rw [hW]; exact belA
  have hzW : W.heap.size = w1.heap.size + 1 := by rw [hW]; simp
  have b0 : W.cell? ⟨w1.heap.size, 0, none⟩ = some (.int .i64 4) := by rw [hW]; simp [go_sem]
  have b1 : W.cell? ⟨w1.heap.size, 1, none⟩ = some (.int .i64 N2) := by rw [hW]; simp [go_sem]
  have H3 := Lib.hid (H2.out.apart hbW (Fx := [w1.heap.size]) (fun k hk => by rw [List.mem_singleton.1 hk]; omega))
  have H1 := Lib.hid H3.out.less
  rw [← hW]
  obtain ⟨X, hX⟩ : ∃ X, w1.heap.size = X := ⟨_, rfl⟩
  rw [hX] at H3 hzW b0 b1 ⊢
  have hMX : C.M < X := by omega
  have hgX : g < X := by omega
  clear hW hbW hX H2 hS q0 q1 q2 q3 q4 q5 hgl hM3
  obtain ⟨_, _, _, _, _, _, _, _, ho⟩ := H1.out.opg HJ.out
  have c2 : W.cell? ⟨g, (n - 1) * 11 + 2, none⟩ = some (.int .i64 pb) := by rw [← HPB.out]; exact ho.fv.c2
  have fz2 := ho.fv.fz ((n - 1) * 11 + 2)
  have hgW := ho.fv.lt
  clear ho
  have hpd := padW RR.out.hg RR.out.top.1 (top_ge RR.out.top) (by rw [HIE.out]; rfl)
  have hp2 : 2 ≤ (fPile f).length := by have := HIW.out.2.1; rw [HIE.out, tk2 rfl] at this; omega
  have q1 : (fPile (fGo f f.2.2.1 (fPile f).dropLast)).length = (fPile f).length - 1 := List.length_dropLast
  have s1 := small_lastN FW.out.ps
  have s2 := small_lastN (small_init FW.out.ps)
  have HR4 := Lib.hid (show I64 (recN N2 (lastN (fPile f).dropLast) (lastN (fPile f))) from by have := recN_small N2 (lastN (fPile f).dropLast) (lastN (fPile f)); unfold I32 at this; unfold I64; omega)
  go_upto_region 10 with fail
  go_upto_region 11 with fail
  refine (implPop C W g n c s (n - 1) f H1.out HJ.out (by omega) (by omega)).mono ?_
  rintro e w4 ⟨rfl, k4, v4, hw4, h4⟩
  have hfr : Fr [g] W w4 := by rw [hw4]; exact frcA
  have b1' := cell_fr1 hfr (by simp; omega) b1
  have hX4 : X < w4.heap.size := by have := hfr.size; omega
  have hj4 := MS.put_get (f := fGo f f.2.2.1 (fPile f).dropLast) HJ.out
  have H4 := Lib.hid h4
  clear hw4 h4 b0 b1 c2 fz2 hgW hfr
  have hS := Lib.hid (show ∀ V', Fr [g] w4 V' → V'.cell? ⟨X, 1, none⟩ = some (.int .i64 N2) from fun V' hV => cell_fr1 hV (by simp; omega) b1')
  have hq : lastN (fPile (fGo f f.2.2.1 (fPile f).dropLast)) = lastN (fPile f).dropLast := rfl
  obtain ⟨y, hy⟩ : ∃ y, lastN (fPile f) = y := ⟨_, rfl⟩
  obtain ⟨x1, hx1⟩ : ∃ x1, lastN (fPile f).dropLast = x1 := ⟨_, rfl⟩
  rw [hy] at s1 HR4 ⊢
  rw [hx1] at s2 hq HR4
  have HY := Lib.hid hy
  have HX1 := Lib.hid hx1
  have HQ := Lib.hid hq
  clear hy hx1 hq
  go_upto_region 11 with fail
  go_region_held3 (fun V' => V'.cell? ⟨X, 1, none⟩ = some (.int .i64 N2)) (exact hS.out _ (show Fr [g] w4 _ by exact frcA))
    (first | (go_at_call 51; ((with_reducible refine (implPop C _ g n c _ (n - 1) (fGo f f.2.2.1 (fPile f).dropLast) (H4.out.keep (show Below w4.heap.size w4 _ by exact beloA)) hj4 (by omega) (by omega)).mono ?_); rintro e w5 ⟨rfl, k5, v5, hw5, h5⟩; rw [HQ.out]; have hfr5 : Fr [g] w4 w5 := (by rw [hw5]; exact frcA); have H5 := Lib.hid h5; have hX5 : X < w5.heap.size := (by have := hfr5.size; omega); clear hw5 h5))
           | (go_at_call 52; ((refine (implReckon _ N2 x1 y (I32_small.2 s2) (I32_small.2 s1)).mono ?_); rintro e w6 ⟨rfl, rfl⟩)))
  have hj5 := MS.put_get (f := (fGo (fGo f f.2.2.1 (fPile f).dropLast) f.2.2.1 (fPile f).dropLast.dropLast)) hj4
  have hl2 : (fPile (fGo (fGo f f.2.2.1 (fPile f).dropLast) f.2.2.1 (fPile f).dropLast.dropLast)).length ≤ 1000000 := by
    have : (fPile (fGo (fGo f f.2.2.1 (fPile f).dropLast) f.2.2.1 (fPile f).dropLast.dropLast)).length = (fPile f).length - 1 - 1 := by show (fPile f).dropLast.dropLast.length = _; rw [List.length_dropLast, List.length_dropLast]
    omega
  by_cases hb : recB N2 y = true
  · have HF := Lib.hid (show stepF C.x C.ins C.most s = { s with fs := fGo f ((pb : Int) + 1) ((fPile f).dropLast.dropLast ++ [recN N2 x1 y]) :: rest } by rw [HE.out, HIE.out]; simp [stepI, HPB.out, HY.out, HX1.out, hb])
    go_wp2_with fail
    refine (implPush C w5 g n c _ (n - 1) (fGo (fGo f f.2.2.1 (fPile f).dropLast) f.2.2.1 (fPile f).dropLast.dropLast) (recN N2 x1 y) HR4.out H5.out hj5 hl2).mono ?_
    rintro e w6 ⟨rfl, h6'⟩
    have hj6 := MS.put_get (f := fGo (fGo (fGo f f.2.2.1 (fPile f).dropLast) f.2.2.1 (fPile f).dropLast.dropLast) f.2.2.1 ((fPile f).dropLast.dropLast ++ [recN N2 x1 y])) hj5
    obtain ⟨_, _, _, _, _, _, _, _, ho⟩ := h6'.opg hj6
    have c2 : w6.cell? ⟨g, (n - 1) * 11 + 2, none⟩ = some (.int .i64 pb) := by rw [← HPB.out]; exact ho.fv.c2
    have fz2 := ho.fv.fz ((n - 1) * 11 + 2)
    have hg5 := ho.fv.lt
    have h6 := h6'.pAt hj6 (a := (pb : Int) + 1) (by unfold I64; omega)
    rw [MS.put_put, MS.put_put, MS.put_put, MS.put_top RR.out.fs HN.out] at h6
    have h7 : MM C _ _ { s with fs := fGo f ((pb : Int) + 1) ((fPile f).dropLast.dropLast ++ [recN N2 x1 y]) :: rest } := h6
    have H7 := Lib.hid h7
    clear ho h6 h7 h6'
    go_wp2_with fail
    go_end0
    exact ⟨rfl, _, HF.out ▸ H7.out⟩
  · have HF := Lib.hid (show stepF C.x C.ins C.most s = { s with fs := raiseFr C.x f 2 (-1) :: rest } by rw [HE.out, HIE.out]; simp [stepI, HPB.out, HY.out, HX1.out, hb])
    have hb' : recB N2 y = false := by simpa using hb
    go_wp2_with fail
    refine (implRaise C w5 g n c _ (fGo (fGo f f.2.2.1 (fPile f).dropLast) f.2.2.1 (fPile f).dropLast.dropLast) 2 (-1) (Or.inl rfl) (by unfold I64; omega) H5.out hj5 h0 hn1 hnc hcm FW.out.fn hpd.1 (by have := FW.out.xl; omega) (show (fCode C.x f).2.2.2.2.length ≤ 1048576 by have := FW.out.rl; omega) hpd.2).mono ?_
    rintro e w6 ⟨rfl, h6⟩
    rw [MS.put_put, MS.put_put, MS.put_top RR.out.fs HN.out] at h6
    have H6 := Lib.hid (show MM C w6 (.slice (some ⟨g, 0, none⟩) n c) { s with fs := raiseFr C.x f 2 (-1) :: rest } from h6)
    clear h6
    go_wp2_with fail
    go_end0
    exact ⟨rfl, _, HF.out ▸ H6.out⟩
set_option maxHeartbeats 4000000 in
theorem implStep7 (C : Cfg) (w : World) (vf : Value) (s : MS) (f : Frame) (rest : List Frame) (N : Nat) (h : MM C w vf s) (R : Rdy C.x C.ins C.most N s f rest) (hK : (fIns C.x f).1 = 7) :
    Calls Tryz.prog 28 #[.pointer (some ⟨C.M, 0, none⟩)] w (RetN C (stepF C.x C.ins C.most s) w) := by
  obtain ⟨g, n, c, rfl, hn, h0, hnc, hcm, hj⟩ := h.opens R.fs
  have hn1 : n ≤ 1000000 := by have := R.ok.many; omega
  have FW := Lib.hid R.fw
  have HIW := Lib.hid R.insW
  have hpl := R.pile
  have HE := Lib.hid (show stepF C.x C.ins C.most s = stepI C.x C.ins C.most s f rest (fIns C.x f) by unfold stepF; rw [R.fs])
  obtain ⟨N2, hN2⟩ : ∃ N2, (fIns C.x f).2 = N2 := ⟨_, rfl⟩
  have i2 : I64 N2 := hN2 ▸ ins64 R.insW.1
  obtain ⟨fb, hfb⟩ := Int.eq_ofNat_of_zero_le FW.out.fn.1
  obtain ⟨pb, hpb⟩ := Int.eq_ofNat_of_zero_le FW.out.at_.1
  have hfbx : fb < C.x.length := by have := FW.out.fn.2; omega
  have hcd : fCode C.x f = codeD C.x (fb : Int) := by unfold fCode; rw [hfb]
  have hpbx : pb < (codeD C.x (fb : Int)).2.2.2.1.length := by have := FW.out.at_.2; rw [hcd, hpb] at this; omega
  have l5 : pb ≤ 1000000 := by have := FW.out.il; have := FW.out.at_.2; omega
  have l6 : fb ≤ 1000000 := by have := FW.out.xl; omega
  have hIe : fIns C.x f = (7, N2) := by rw [← hK, ← hN2]
  have HIE := Lib.hid hIe
  have HN := Lib.hid hn
  have HJ := Lib.hid hj
  have RR := Lib.hid R
  have HH := Lib.hid h
  clear hn hj R h
  go_enter Tryz.func28, Tryz.ntmps28
  go_wp2_with fail
  refine (implTop C _ g n c s HH.out h0 hn1 hnc hcm).mono ?_
  rintro e w1 ⟨rfl, k1, hw1⟩
  have h2 : MM C w1 (.slice (some ⟨g, 0, none⟩) n c) s := by rw [hw1]; exact HH.out.drewN k1
  clear hw1
  obtain ⟨bc, oc, bi, oi, k3, d3, eA, hnx, hk3, hbc, hbi, u3, u5, u6, _, _⟩ := h2.insCells hfbx hpbx
  have hop : insAt (codeD C.x (fb : Int)).2.2.2.1 (pb : Int) = fIns C.x f := by unfold fIns; rw [hcd, hpb]
  rw [hop, hIe] at u5 u6
  obtain ⟨_, _, mv⟩ := h2.mv
  have m0 := mv.m0
  rw [eA] at m0
  obtain ⟨_, _, _, _, _, _, _, _, ho⟩ := h2.opg HJ.out
  have c1 := ho.fv.c1
  have c2 := ho.fv.c2
  rw [hfb] at c1
  rw [hpb] at c2
  have hgl := ho.fv.lt
  have hM3 := mv.lt
  have hgM := ho.fv.gM
  obtain ⟨_, _, hBw⟩ := h2.xs
  have l1 : fb < C.nx := by omega
  have l2 : (fb : Int) < (C.nx : Int) := by omega
  have l3 : pb < k3 := by omega
  have l4 : (pb : Int) < (k3 : Int) := by omega
  have hS := Lib.hid (show ∀ V', Below w1.heap.size w1 V' → V'.cell? ⟨C.M, 0, none⟩ = some (.slice (some ⟨bc, oc, none⟩) C.nx C.cx) ∧ V'.cell? ⟨g, (n - 1) * 11 + 1, none⟩ = some (.int .i64 fb) ∧ V'.cell? ⟨g, (n - 1) * 11 + 2, none⟩ = some (.int .i64 pb) ∧ V'.cell? ⟨bc, oc + fb * 5 + 3, none⟩ = some (.slice (some ⟨bi, oi, none⟩) k3 d3) ∧ V'.cell? ⟨bi, oi + pb * 2, none⟩ = some (.int .i64 7) ∧ V'.cell? ⟨bi, oi + pb * 2 + 1, none⟩ = some (.int .i64 N2) from fun V' hV => ⟨below_cell hV m0, below_cell hV c1, below_cell hV c2, below_cell hV u3, below_cell hV u5, below_cell hV u6⟩)
  have HPB := Lib.hid hpb
  have H2 := Lib.hid h2
  clear mv ho h2 hk3 hnx hcd hpb hfb hop eA hIe hK hN2 m0 c1 c2 u3 u5 u6
  go_upto_region 1 with fail
  obtain ⟨q0, q1, q2, q3, q4, q5⟩ := hS.out w1 (Below.refl _ _)
  go_region_held3 (fun V' => V'.cell? ⟨C.M, 0, none⟩ = some (.slice (some ⟨bc, oc, none⟩) C.nx C.cx) ∧ V'.cell? ⟨g, (n - 1) * 11 + 1, none⟩ = some (.int .i64 fb) ∧ V'.cell? ⟨g, (n - 1) * 11 + 2, none⟩ = some (.int .i64 pb) ∧ V'.cell? ⟨bc, oc + fb * 5 + 3, none⟩ = some (.slice (some ⟨bi, oi, none⟩) k3 d3) ∧ V'.cell? ⟨bi, oi + pb * 2, none⟩ = some (.int .i64 7) ∧ V'.cell? ⟨bi, oi + pb * 2 + 1, none⟩ = some (.int .i64 N2)) (exact hS.out _ (show Below w1.heap.size w1 _ by exact beloA)) (fail)
  obtain ⟨W, hW⟩ : ∃ W, W = (w1.alloc (.cells #[.int .i64 7, .int .i64 N2] 84)).drew := ⟨_, rfl⟩
  have hbW : Below w1.heap.size w1 W := by rw [hW]; exact belA
  have hzW : W.heap.size = w1.heap.size + 1 := by rw [hW]; simp
  have b0 : W.cell? ⟨w1.heap.size, 0, none⟩ = some (.int .i64 7) := by rw [hW]; simp [go_sem]
  have b1 : W.cell? ⟨w1.heap.size, 1, none⟩ = some (.int .i64 N2) := by rw [hW]; simp [go_sem]
  have H3 := Lib.hid (H2.out.apart hbW (Fx := [w1.heap.size]) (fun k hk => by rw [List.mem_singleton.1 hk]; omega))
  have H1 := Lib.hid H3.out.less
  rw [← hW]
  obtain ⟨X, hX⟩ : ∃ X, w1.heap.size = X := ⟨_, rfl⟩
  rw [hX] at H3 hzW b0 b1 ⊢
  have hMX : C.M < X := by omega
  have hgX : g < X := by omega
  clear hW hbW hX H2 hS q0 q1 q2 q3 q4 q5 hgl hM3
  obtain ⟨_, _, _, _, _, _, _, _, ho⟩ := H1.out.opg HJ.out
  have c2 : W.cell? ⟨g, (n - 1) * 11 + 2, none⟩ = some (.int .i64 pb) := by rw [← HPB.out]; exact ho.fv.c2
  have fz2 := ho.fv.fz ((n - 1) * 11 + 2)
  have hgW := ho.fv.lt
  clear ho
  obtain ⟨hcdO, _, _, hplO, _⟩ := top_pl RR.out.hg RR.out.top
  have h7i := i7_in RR.out.hg hcdO hplO (by rw [HIE.out])
  rw [HIE.out] at h7i
  simp only at h7i
  obtain ⟨k, hk⟩ := Int.eq_ofNat_of_zero_le h7i.1.1
  subst hk
  have hkx : k < C.x.length := by have := h7i.1.2; omega
  obtain ⟨kp, hkp⟩ := Int.eq_ofNat_of_zero_le (parF_bd0 RR.out.hg (k : Int))
  have hcz : codeSz (codeD C.x (k : Int)) = true := by rw [codeD_at hkx]; exact sizedB_mem (goodI_iff.1 RR.out.hg).1 _ (List.getElem_mem hkx)
  have hkpl : kp ≤ (fPile f).length := by have := HIW.out.2.1; rw [HIE.out, tk7 rfl] at this; simp only at this; omega
  have hkv : kp ≤ (codeD C.x (k : Int)).2.1.toNat := by have := h7i.2; omega
  have hcl : 0 < (codeD C.x (k : Int)).2.2.2.1.length := by have := (codeSz_all hcz).2.2.2.1; omega
  obtain ⟨bc2, oc2, _, _, _, _, eA, hnx, _, hbc2, _, _, _, _, _, u0⟩ := H1.out.insCells hkx hcl
  rw [show (codeD C.x (k : Int)).1 = parF C.x (k : Int) from rfl, hkp] at u0
  obtain ⟨_, _, mv⟩ := H1.out.mv
  have m0 := mv.m0
  rw [eA] at m0
  have hS := Lib.hid (show ∀ V', Below W.heap.size W V' → V'.cell? ⟨C.M, 0, none⟩ = some (.slice (some ⟨bc2, oc2, none⟩) C.nx C.cx) ∧ V'.cell? ⟨X, 1, none⟩ = some (.int .i64 k) ∧ V'.cell? ⟨bc2, oc2 + k * 5, none⟩ = some (.int .i64 kp) from fun V' hV => ⟨below_cell hV m0, below_cell hV b1, below_cell hV u0⟩)
  have l7 : k < C.nx := by omega
  have l8 : (k : Int) < (C.nx : Int) := by omega
  have HF := Lib.hid (show stepF C.x C.ins C.most s = callM C.x C.most s f rest (k : Int) kp false by rw [HE.out, HIE.out]; simp [stepI, hkp])
  have hmd : 0 ≤ s.made ∧ s.made ≤ 1000000 := by have := RR.out.ok.made; have := RR.out.hN; omega
  clear mv m0 eA hnx hkp u0 hplO hcdO h7i
  go_upto_region 23 with fail
  refine wp_region_noPanic ?_
  refine wp_region_cut (S := (fun V' => V'.cell? ⟨C.M, 0, none⟩ = some (.slice (some ⟨bc2, oc2, none⟩) C.nx C.cx) ∧ V'.cell? ⟨X, 1, none⟩ = some (.int .i64 k) ∧ V'.cell? ⟨bc2, oc2 + k * 5, none⟩ = some (.int .i64 kp))) 13 (by kernel_rfl) (by kernel_rfl) (hS.out _ (show Below W.heap.size W _ by exact beloA)) (fun hR0 => ?_)
  simp only [headOps, List.take_succ_cons, List.take_zero]
  refine takeH 0 ?_
  refine takeH 1 ?_
  refine takeH 2 ?_
  refine takeH 3 ?_
  refine takeH 4 ?_
  refine takeH 5 ?_
  refine takeH 6 ?_
  refine takeH 7 ?_
  refine takeH 8 ?_
  refine takeH 9 ?_
  refine takeH 10 ?_
  refine takeH 11 ?_
  refine takeH 12 ?_
  refine wpAnyH_done (by kernel_rfl) ?_ _
  refine lastQ_op rfl (fun K hK => ?_)
  rw [if_pos (by rfl)]
  go_simp
  refine (implCall C _ _ s f rest k kp false (H1.out.keep (show Below W.heap.size W _ by exact beloA)) RR.out.fs (by have := HN.out; omega) (by omega) hkpl hkx hcz hkv hmd).mono ?_
  rintro e w5 ⟨rfl, vf5, h5, _⟩
  have H5 := Lib.hid h5
  clear h5
  refine hK _ _ ?_
  clear hK K
  refine NoPanic.normal ?_
  go_wp2_with fail
  go_end0
  exact ⟨rfl, _, HF.out ▸ H5.out⟩
set_option maxHeartbeats 4000000 in
theorem implStep17 (C : Cfg) (w : World) (vf : Value) (s : MS) (f : Frame) (rest : List Frame) (N : Nat) (h : MM C w vf s) (R : Rdy C.x C.ins C.most N s f rest) (hK : (fIns C.x f).1 = 17) :
    Calls Tryz.prog 28 #[.pointer (some ⟨C.M, 0, none⟩)] w (RetN C (stepF C.x C.ins C.most s) w) := by
  obtain ⟨g, n, c, rfl, hn, h0, hnc, hcm, hj⟩ := h.opens R.fs
  have hn1 : n ≤ 1000000 := by have := R.ok.many; omega
  have FW := Lib.hid R.fw
  have HIW := Lib.hid R.insW
  have hpl := R.pile
  have HE := Lib.hid (show stepF C.x C.ins C.most s = stepI C.x C.ins C.most s f rest (fIns C.x f) by unfold stepF; rw [R.fs])
  obtain ⟨N2, hN2⟩ : ∃ N2, (fIns C.x f).2 = N2 := ⟨_, rfl⟩
  have i2 : I64 N2 := hN2 ▸ ins64 R.insW.1
  obtain ⟨fb, hfb⟩ := Int.eq_ofNat_of_zero_le FW.out.fn.1
  obtain ⟨pb, hpb⟩ := Int.eq_ofNat_of_zero_le FW.out.at_.1
  have hfbx : fb < C.x.length := by have := FW.out.fn.2; omega
  have hcd : fCode C.x f = codeD C.x (fb : Int) := by unfold fCode; rw [hfb]
  have hpbx : pb < (codeD C.x (fb : Int)).2.2.2.1.length := by have := FW.out.at_.2; rw [hcd, hpb] at this; omega
  have l5 : pb ≤ 1000000 := by have := FW.out.il; have := FW.out.at_.2; omega
  have l6 : fb ≤ 1000000 := by have := FW.out.xl; omega
  have hIe : fIns C.x f = (17, N2) := by rw [← hK, ← hN2]
  have HIE := Lib.hid hIe
  have HN := Lib.hid hn
  have HJ := Lib.hid hj
  have RR := Lib.hid R
  have HH := Lib.hid h
  clear hn hj R h
  go_enter Tryz.func28, Tryz.ntmps28
  go_wp2_with fail
  refine (implTop C _ g n c s HH.out h0 hn1 hnc hcm).mono ?_
  rintro e w1 ⟨rfl, k1, hw1⟩
  have h2 : MM C w1 (.slice (some ⟨g, 0, none⟩) n c) s := by rw [hw1]; exact HH.out.drewN k1
  clear hw1
  obtain ⟨bc, oc, bi, oi, k3, d3, eA, hnx, hk3, hbc, hbi, u3, u5, u6, _, _⟩ := h2.insCells hfbx hpbx
  have hop : insAt (codeD C.x (fb : Int)).2.2.2.1 (pb : Int) = fIns C.x f := by unfold fIns; rw [hcd, hpb]
  rw [hop, hIe] at u5 u6
  obtain ⟨_, _, mv⟩ := h2.mv
  have m0 := mv.m0
  rw [eA] at m0
  obtain ⟨_, _, _, _, _, _, _, _, ho⟩ := h2.opg HJ.out
  have c1 := ho.fv.c1
  have c2 := ho.fv.c2
  rw [hfb] at c1
  rw [hpb] at c2
  have hgl := ho.fv.lt
  have hM3 := mv.lt
  have hgM := ho.fv.gM
  obtain ⟨_, _, hBw⟩ := h2.xs
  have l1 : fb < C.nx := by omega
  have l2 : (fb : Int) < (C.nx : Int) := by omega
  have l3 : pb < k3 := by omega
  have l4 : (pb : Int) < (k3 : Int) := by omega
  have hS := Lib.hid (show ∀ V', Below w1.heap.size w1 V' → V'.cell? ⟨C.M, 0, none⟩ = some (.slice (some ⟨bc, oc, none⟩) C.nx C.cx) ∧ V'.cell? ⟨g, (n - 1) * 11 + 1, none⟩ = some (.int .i64 fb) ∧ V'.cell? ⟨g, (n - 1) * 11 + 2, none⟩ = some (.int .i64 pb) ∧ V'.cell? ⟨bc, oc + fb * 5 + 3, none⟩ = some (.slice (some ⟨bi, oi, none⟩) k3 d3) ∧ V'.cell? ⟨bi, oi + pb * 2, none⟩ = some (.int .i64 17) ∧ V'.cell? ⟨bi, oi + pb * 2 + 1, none⟩ = some (.int .i64 N2) from fun V' hV => ⟨below_cell hV m0, below_cell hV c1, below_cell hV c2, below_cell hV u3, below_cell hV u5, below_cell hV u6⟩)
  have HPB := Lib.hid hpb
  have HEA := Lib.hid eA
  have hfb2 := Lib.hid hfb
  have hpbx2 := hpbx
  have H2 := Lib.hid h2
  clear mv ho h2 hk3 hnx hcd hpb hfb hop eA hIe hK hN2 m0 c1 c2 u3 u5 u6
  go_upto_region 1 with fail
  obtain ⟨q0, q1, q2, q3, q4, q5⟩ := hS.out w1 (Below.refl _ _)
  go_region_held3 (fun V' => V'.cell? ⟨C.M, 0, none⟩ = some (.slice (some ⟨bc, oc, none⟩) C.nx C.cx) ∧ V'.cell? ⟨g, (n - 1) * 11 + 1, none⟩ = some (.int .i64 fb) ∧ V'.cell? ⟨g, (n - 1) * 11 + 2, none⟩ = some (.int .i64 pb) ∧ V'.cell? ⟨bc, oc + fb * 5 + 3, none⟩ = some (.slice (some ⟨bi, oi, none⟩) k3 d3) ∧ V'.cell? ⟨bi, oi + pb * 2, none⟩ = some (.int .i64 17) ∧ V'.cell? ⟨bi, oi + pb * 2 + 1, none⟩ = some (.int .i64 N2)) (exact hS.out _ (show Below w1.heap.size w1 _ by exact beloA)) (fail)
  obtain ⟨W, hW⟩ : ∃ W, W = (w1.alloc (.cells #[.int .i64 17, .int .i64 N2] 84)).drew := ⟨_, rfl⟩
  have hbW : Below w1.heap.size w1 W := by rw [hW]; exact belA
  have hzW : W.heap.size = w1.heap.size + 1 := by rw [hW]; simp
  have b0 : W.cell? ⟨w1.heap.size, 0, none⟩ = some (.int .i64 17) := by rw [hW]; simp [go_sem]
  have b1 : W.cell? ⟨w1.heap.size, 1, none⟩ = some (.int .i64 N2) := by rw [hW]; simp [go_sem]
  have H3 := Lib.hid (H2.out.apart hbW (Fx := [w1.heap.size]) (fun k hk => by rw [List.mem_singleton.1 hk]; omega))
  have H1 := Lib.hid H3.out.less
  rw [← hW]
  obtain ⟨X, hX⟩ : ∃ X, w1.heap.size = X := ⟨_, rfl⟩
  rw [hX] at H3 hzW b0 b1 ⊢
  have hMX : C.M < X := by omega
  have hgX : g < X := by omega
  clear hW hbW hX H2 hS q0 q1 q2 q3 q4 q5 hgl hM3
  obtain ⟨_, _, _, _, _, _, _, _, ho⟩ := H1.out.opg HJ.out
  have c2 : W.cell? ⟨g, (n - 1) * 11 + 2, none⟩ = some (.int .i64 pb) := by rw [← HPB.out]; exact ho.fv.c2
  have fz2 := ho.fv.fz ((n - 1) * 11 + 2)
  have hgW := ho.fv.lt
  clear ho
  obtain ⟨k, hk2, hkl, hks⟩ := RR.out.site (by rw [HIE.out]; simp)
  obtain rfl : N2 = (k : Int) := by rw [HIE.out] at hk2; exact hk2
  have hk6 : k ≤ 1000000 := by have := FW.out.sl; omega
  have i1 := I64_of FW.out.id
  have hno : s.notes.length ≤ 4000000 := by have := RR.out.ok.notes; have := RR.out.hN; omega
  have HFI := Lib.hid (show fIns C.x f = (17, (k : Int)) from HIE.out)
  obtain ⟨g5, n5, c5, r5, hn5, d1, d2, hg5, hg5g, _⟩ := H1.out.flagAt HJ.out hkl
  obtain ⟨y, hy⟩ : ∃ y, y = f.2.2.2.2.2.1[k]'hkl := ⟨_, rfl⟩
  rw [← hy] at d1
  have HY := Lib.hid (show f.2.2.2.2.2.1.getD k false = y by rw [hy]; simp [List.getD, hkl])
  have hkn : k < n5 := by omega
  have hkI : (k : Int) < (n5 : Int) := by omega
  clear hn5 hy
  go_upto_region 25 with fail
  go_quiet (fail)
  obtain ⟨W2, hW2⟩ : ∃ W2, W2 = W.drewN nq := ⟨_, rfl⟩
  have hb2 : Below W.heap.size W W2 := by rw [hW2]; exact belA
  rw [← hW2]
  clear hW2
  have hz2 := hb2.size
  have H32 := Lib.hid (H3.out.keep hb2)
  have b1' := below_cell hb2 b1
  clear c2 fz2 b0 b1 hgW d1 d2 r5
  cases y with
  | false =>
    have HF := Lib.hid (show stepF C.x C.ins C.most s = { s with fs := fGo f ((pb : Int) + 1) (fPile f) :: rest } by rw [HE.out, HFI.out, stepI_17 rfl, if_neg (by rw [show ((17 : Int), (k : Int)).2.toNat = k from rfl, HY.out]; simp), HPB.out])
    have h5 := H32.out.less
    have hj5 := HJ.out
    obtain ⟨_, _, _, _, _, _, _, _, ho⟩ := h5.opg hj5
    have c2 : W2.cell? ⟨g, (n - 1) * 11 + 2, none⟩ = some (.int .i64 pb) := by rw [← HPB.out]; exact ho.fv.c2
    have fz2 := ho.fv.fz ((n - 1) * 11 + 2)
    have hg5 := ho.fv.lt
    have h6 := h5.pAt hj5 (a := (pb : Int) + 1) (by unfold I64; omega)
    rw [MS.put_top RR.out.fs HN.out] at h6
    have h7 : MM C _ _ { s with fs := fGo f ((pb : Int) + 1) (fPile f) :: rest } := h6
    have H7 := Lib.hid h7
    clear ho h6 h7 h5
    go_wp2_with fail
    go_end0
    exact ⟨rfl, _, HF.out ▸ H7.out⟩
  | true =>
    obtain ⟨hcdO, _, _, hplO, _⟩ := top_pl RR.out.hg RR.out.top
    have h17i := i17_in hcdO hplO (by rw [HFI.out])
    rw [HFI.out] at h17i
    simp only at h17i
    have hcd2 : fCode C.x f = codeD C.x (fb : Int) := by unfold fCode; rw [hfb2.out]
    obtain ⟨bcn, ocn, _, _, _, _, eA, hnx, _, hbc2, _, _, _, _, ⟨ks, ds, D2, u2, kS⟩, _⟩ := H32.out.insCells (fn := fb) hfbx hpbx2
    have hbc3 := Option.some.inj (eA.symm.trans HEA.out)
    simp only [Addr.mk.injEq, and_true] at hbc3
    rw [hbc3.1, hbc3.2] at u2
    rw [← hcd2] at kS
    obtain ⟨bs, os, rfl, _, qs2, hcs, his⟩ := kS.int_at (k := k) (by have := kS.lenEq; omega)
    have hstn := h17i.2
    have hsv : (fCode C.x f).2.2.1.getD ((k : Int)).toNat 0 = (fCode C.x f).2.2.1[k]'hks := by simp [List.getD, hks]
    rw [hsv] at hstn
    obtain ⟨st, hst⟩ := Int.eq_ofNat_of_zero_le hstn.1
    rw [hst] at hcs hstn hsv
    have hstx : st < C.x.length := by have := hstn.2; omega
    have hcz : codeSz (codeD C.x (st : Int)) = true := by rw [codeD_at hstx]; exact sizedB_mem (goodI_iff.1 RR.out.hg).1 _ (List.getElem_mem hstx)
    obtain ⟨_, _, mv⟩ := H32.out.mv
    have m0 : W2.cell? ⟨C.M, 0, none⟩ = some (.slice (some ⟨bc, oc, none⟩) C.nx C.cx) := by rw [← HEA.out]; exact mv.m0
    obtain ⟨_, _, _, _, _, _, _, _, ho⟩ := H32.out.opg HJ.out
    have c1 : W2.cell? ⟨g, (n - 1) * 11 + 1, none⟩ = some (.int .i64 fb) := by rw [← hfb2.out]; exact ho.fv.c1
    have hS := Lib.hid (show ∀ V', Below W2.heap.size W2 V' → V'.cell? ⟨C.M, 0, none⟩ = some (.slice (some ⟨bc, oc, none⟩) C.nx C.cx) ∧ V'.cell? ⟨g, (n - 1) * 11 + 1, none⟩ = some (.int .i64 fb) ∧ V'.cell? ⟨bc, oc + fb * 5 + 2, none⟩ = some (.slice (some ⟨bs, os, none⟩) ks ds) ∧ V'.cell? ⟨X, 1, none⟩ = some (.int .i64 k) ∧ V'.cell? ⟨bs, os + k, none⟩ = some (.int .i64 st) from fun V' hV => ⟨below_cell hV m0, below_cell hV c1, below_cell hV u2, below_cell hV b1', below_cell hV hcs⟩)
    have hksl : k < ks := by have := kS.lenEq; omega
    have hksI : (k : Int) < (ks : Int) := by omega
    have hmd : 0 ≤ s.made ∧ s.made ≤ 1000000 := by have := RR.out.ok.made; have := RR.out.hN; omega
    have HST := Lib.hid hsv
    clear mv ho m0 c1 u2 hcs kS his eA hnx hst hcdO hplO h17i hstn hsv hcd2
    by_cases hle : C.most ≤ (n : Int)
    · have hdd : decide ((s.fs.length : Int) < C.most) = false := decide_eq_false (by have := HN.out; omega)
      have HF := Lib.hid (show stepF C.x C.ins C.most s = { s with code := 4 } by rw [HE.out, HFI.out, stepI_17 rfl, if_pos (show f.2.2.2.2.2.1.getD ((17 : Int), (k : Int)).2.toNat false = true from HY.out), if_pos (by have := HN.out; omega)])
      have hCM : callM C.x C.most s f rest (st : Int) 0 true = { s with code := 4 } := by unfold callM; rw [if_pos (by have := HN.out; omega)]
      go_upto_region 26 with fail
      refine wp_region_noPanic ?_
      refine wp_region_cut (S := (fun V' => V'.cell? ⟨C.M, 0, none⟩ = some (.slice (some ⟨bc, oc, none⟩) C.nx C.cx) ∧ V'.cell? ⟨g, (n - 1) * 11 + 1, none⟩ = some (.int .i64 fb) ∧ V'.cell? ⟨bc, oc + fb * 5 + 2, none⟩ = some (.slice (some ⟨bs, os, none⟩) ks ds) ∧ V'.cell? ⟨X, 1, none⟩ = some (.int .i64 k) ∧ V'.cell? ⟨bs, os + k, none⟩ = some (.int .i64 st))) 17 (by kernel_rfl) (by kernel_rfl) (hS.out _ (show Below W2.heap.size W2 _ by exact beloA)) (fun hR0 => ?_)
      simp only [headOps, List.take_succ_cons, List.take_zero]
      refine takeH 0 ?_
      refine takeH 1 ?_
      refine takeH 2 ?_
      refine takeH 3 ?_
      refine takeH 4 ?_
      refine takeH 5 ?_
      refine takeH 6 ?_
      refine takeH 7 ?_
      refine takeH 8 ?_
      refine takeH 9 ?_
      refine takeH 10 ?_
      refine takeH 11 ?_
      refine takeH 12 ?_
      refine takeH 13 ?_
      refine takeH 14 ?_
      refine takeH 15 ?_
      refine takeH 16 ?_
      refine wpAnyH_done (by kernel_rfl) ?_ _
      refine lastQ_op rfl (fun K hK => ?_)
      rw [if_pos (by rfl)]
      go_simp
      refine (implCall { C with D := [X] ++ C.D } _ _ s f rest st 0 true (H32.out.keep (show Below W2.heap.size W2 _ by exact beloA)) RR.out.fs (by have := HN.out; omega) (by omega) (Nat.zero_le _) hstx hcz (Nat.zero_le _) hmd).mono ?_
      rintro e w5 ⟨rfl, vf5, h5, hap⟩
      rw [hdd]
      have H5 : Hid (MM C w5 vf5 { s with code := 4 }) := Lib.hid (hCM ▸ h5.less)
      clear h5 hap
      refine hK _ _ ?_
      clear hK K
      refine NoPanic.normal ?_
      go_wp2_with fail
      go_end0
      exact ⟨rfl, _, HF.out ▸ H5.out⟩
    · have hdd : decide ((s.fs.length : Int) < C.most) = true := decide_eq_true (by have := HN.out; omega)
      have hCM : callM C.x C.most s f rest (st : Int) 0 true = { s with fs := newFrm C.x s.made (st : Int) ((fPile f).drop ((fPile f).length - 0)) true :: (fGo f f.2.2.1 ((fPile f).take ((fPile f).length - 0))) :: rest, made := s.made + 1 } := by unfold callM; rw [if_neg (by have := HN.out; omega)]
      have HF := Lib.hid (show stepF C.x C.ins C.most s = { s with fs := newFrm C.x s.made (st : Int) ((fPile f).drop ((fPile f).length - 0)) true :: fFlags (fGo f f.2.2.1 ((fPile f).take ((fPile f).length - 0))) (f.2.2.2.2.2.1.set k false) :: rest, made := s.made + 1, notes := s.notes ++ [(2, f.1, (k : Int))] } by
        rw [HE.out, HFI.out]
        have h9 : ¬ C.most ≤ (s.fs.length : Int) := by have := HN.out; omega
        have h10 := HY.out
        have h11 := HST.out
        rw [stepI_17 rfl, if_pos (show f.2.2.2.2.2.1.getD ((17 : Int), (k : Int)).2.toNat false = true from h10), if_neg h9]
        simp only [show ((k : Int)).toNat = k from rfl] at h11 ⊢
        rw [h11]
        unfold callM
        rw [if_neg h9]
        rfl)
      go_upto_region 26 with fail
      refine wp_region_noPanic ?_
      refine wp_region_cut (S := (fun V' => V'.cell? ⟨C.M, 0, none⟩ = some (.slice (some ⟨bc, oc, none⟩) C.nx C.cx) ∧ V'.cell? ⟨g, (n - 1) * 11 + 1, none⟩ = some (.int .i64 fb) ∧ V'.cell? ⟨bc, oc + fb * 5 + 2, none⟩ = some (.slice (some ⟨bs, os, none⟩) ks ds) ∧ V'.cell? ⟨X, 1, none⟩ = some (.int .i64 k) ∧ V'.cell? ⟨bs, os + k, none⟩ = some (.int .i64 st))) 17 (by kernel_rfl) (by kernel_rfl) (hS.out _ (show Below W2.heap.size W2 _ by exact beloA)) (fun hR0 => ?_)
      simp only [headOps, List.take_succ_cons, List.take_zero]
      refine takeH 0 ?_
      refine takeH 1 ?_
      refine takeH 2 ?_
      refine takeH 3 ?_
      refine takeH 4 ?_
      refine takeH 5 ?_
      refine takeH 6 ?_
      refine takeH 7 ?_
      refine takeH 8 ?_
      refine takeH 9 ?_
      refine takeH 10 ?_
      refine takeH 11 ?_
      refine takeH 12 ?_
      refine takeH 13 ?_
      refine takeH 14 ?_
      refine takeH 15 ?_
      refine takeH 16 ?_
      refine wpAnyH_done (by kernel_rfl) ?_ _
      refine lastQ_op rfl (fun K hK => ?_)
      rw [if_pos (by rfl)]
      go_simp
      refine (implCall { C with D := [X] ++ C.D } _ _ s f rest st 0 true (H32.out.keep (show Below W2.heap.size W2 _ by exact beloA)) RR.out.fs (by have := HN.out; omega) (by omega) (Nat.zero_le _) hstx hcz (Nat.zero_le _) hmd).mono ?_
      rintro e w5 ⟨rfl, vf5, h5, hap⟩
      rw [hdd]
      have H5 := Lib.hid h5
      have HAP := Lib.hid hap
      clear h5 hap
      refine hK _ _ ?_
      clear hK K
      refine NoPanic.normal ?_
      have h5 := H5.out
      rw [hCM] at h5
      obtain ⟨g2, n2, c2, rfl, hm2, h20, hnc2, hcm2, _⟩ := h5.opens rfl
      have hn2 : n2 = n + 1 := by have := HN.out; rw [RR.out.fs] at this; simp at this hm2; omega
      have hjf := MS.get_snd (s := { s with fs := newFrm C.x s.made (st : Int) ((fPile f).drop ((fPile f).length - 0)) true :: (fGo f f.2.2.1 ((fPile f).take ((fPile f).length - 0))) :: rest, made := s.made + 1 }) (n := n2) rfl hm2
      have HM2 := Lib.hid hm2
      have hn22 : 2 ≤ n2 := by omega
      have hn23 : n2 ≤ 1000001 := by omega
      have e21 : ((n2 : Int) - 2) = ((n2 - 2 : Nat) : Int) := by omega
      have e22 : n2 - 2 < n2 := by omega
      have HJF := Lib.hid hjf
      have H6 := Lib.hid h5
      have hXW2 : X < W2.heap.size := by omega
      have b5 : w5.cell? ⟨X, 1, none⟩ = some (.int .i64 k) := (World.cell?_of_block (a := ⟨X, 1, none⟩) (HAP.out X (List.mem_append_left _ (List.mem_singleton.2 rfl)))).trans b1'
      clear hm2 hjf h5 hn2 hCM hdd HAP H5
      obtain ⟨_, _, mv⟩ := H6.out.mv
      have m3 := mv.m3
      have hM5 := mv.lt
      clear mv
      go_upto_region 27 with fail
      go_quiet (fail)
      obtain ⟨V, hV⟩ : ∃ V, V = w5.drewN nq := ⟨_, rfl⟩
      have hbV : Below w5.heap.size w5 V := by rw [hV]; exact belA
      rw [← hV]
      clear hV m3 hM5
      have hzV := hbV.size
      have H7 := Lib.hid (H6.out.keep hbV)
      have b6 := below_cell hbV b5
      have hXV : X < V.heap.size := by have := World.block_lt_of_cell? w5 _ b5; have : X < w5.heap.size := this; omega
      obtain ⟨gf, nf, cf, rf, hnf, d1, d2, hgf, _, _⟩ := H7.out.flagAt HJF.out (k := k) (show k < f.2.2.2.2.2.1.length from hkl)
      have hgfX : gf ≠ X := H7.out.apFlag HJF.out (List.mem_append_left _ (List.mem_singleton.2 rfl)) rf
      obtain ⟨yf, hyf⟩ : ∃ y, y = (fGo f f.2.2.1 ((fPile f).take ((fPile f).length - 0))).2.2.2.2.2.1[k]'(show k < f.2.2.2.2.2.1.length from hkl) := ⟨_, rfl⟩
      rw [← hyf] at d1
      have hkf : k < nf := by rw [hnf]; exact hkl
      have hkfI : (k : Int) < (nf : Int) := by omega
      have hS3 := Lib.hid (show ∀ V', Below V.heap.size V V' → V'.cell? ⟨g2, (n2 - 2) * 11 + 5, none⟩ = some (.slice (some ⟨gf, 0, none⟩) nf cf) ∧ V'.cell? ⟨X, 1, none⟩ = some (.int .i64 k) from fun V' hV' => ⟨below_cell hV' rf, below_cell hV' b6⟩)
      have h8 := H7.out.pFlag HJF.out rf (a := false) (i := k) (show k < f.2.2.2.2.2.1.length from hkl)
      have H8 := Lib.hid h8
      clear hnf hyf rf h8 b5
      go_upto_region 28 with fail
      refine wp_region_noPanic ?_
      refine wp_region_cut (S := (fun V' => V'.cell? ⟨g2, (n2 - 2) * 11 + 5, none⟩ = some (.slice (some ⟨gf, 0, none⟩) nf cf) ∧ V'.cell? ⟨X, 1, none⟩ = some (.int .i64 k))) 7 (by kernel_rfl) (by kernel_rfl) (hS3.out _ (show Below V.heap.size V _ by exact beloA)) (fun hR0 => ?_)
      simp only [headOps, List.take_succ_cons, List.take_zero]
      refine takeH 0 ?_
      refine takeH 1 ?_
      refine takeH 2 ?_
      refine takeH 3 ?_
      refine takeH 4 ?_
      refine takeH 5 ?_
      refine takeH 6 ?_
      refine wpAnyH_done (by kernel_rfl) ?_ _
      refine lastQ_op rfl (fun K hK => ?_)
      rw [if_pos (by rfl)]
      go_simp
      refine hK _ _ ?_
      clear hK K
      refine NoPanic.normal ?_
      obtain ⟨V2, hV2⟩ : ∃ V2, V2 = (V.setCell ⟨gf, k, none⟩ (.bool false)).drew := ⟨_, rfl⟩
      have hfV : Fr [gf] V V2 := by rw [hV2]; exact frcA
      have h9 := H8.out.keep (w' := V2) (by rw [hV2]; exact beloA)
      have b7 := cell_fr1 hfV (by simp; exact fun e => hgfX e.symm) b6
      have hj9 := MS.put_get (f := fFlags (fGo f f.2.2.1 ((fPile f).take ((fPile f).length - 0))) (f.2.2.2.2.2.1.set k false)) HJF.out
      obtain ⟨_, _, _, _, _, _, _, _, ho⟩ := h9.opg hj9
      have c0 : V2.cell? ⟨g2, (n2 - 2) * 11, none⟩ = some (.int .i64 f.1) := ho.fv.c0
      have hg9 := ho.fv.lt
      have H9 := Lib.hid h9
      have hS4 := Lib.hid (show ∀ V', Below V2.heap.size V2 V' → V'.cell? ⟨g2, (n2 - 2) * 11, none⟩ = some (.int .i64 f.1) ∧ V'.cell? ⟨X, 1, none⟩ = some (.int .i64 k) from fun V' hV' => ⟨below_cell hV' c0, below_cell hV' b7⟩)
      rw [← hV2]
      clear hV2 ho c0 h9 b6 b7 hfV d1 d2
      go_upto_region 29 with fail
      refine wp_region_noPanic ?_
      refine wp_region_cut (S := (fun V' => V'.cell? ⟨g2, (n2 - 2) * 11, none⟩ = some (.int .i64 f.1) ∧ V'.cell? ⟨X, 1, none⟩ = some (.int .i64 k))) 7 (by kernel_rfl) (by kernel_rfl) (hS4.out _ (show Below V2.heap.size V2 _ by exact beloA)) (fun hR0 => ?_)
      simp only [headOps, List.take_succ_cons, List.take_zero]
      refine takeH 0 ?_
      refine takeH 1 ?_
      refine takeH 2 ?_
      refine takeH 3 ?_
      refine takeH 4 ?_
      refine takeH 5 ?_
      refine takeH 6 ?_
      refine wpAnyH_done (by kernel_rfl) ?_ _
      refine lastQ_op rfl (fun K hK => ?_)
      rw [if_pos (by rfl)]
      go_simp
      refine (implNote { C with D := [X] ++ C.D } _ (.slice (some ⟨g2, 0, none⟩) n2 c2) _ 2 f.1 k (by unfold I64; omega) i1 (by unfold I64; omega) (H9.out.keep (show Below V2.heap.size V2 _ by exact beloA)) hno).mono ?_
      rintro e w9 ⟨rfl, h10, _⟩
      refine hK _ _ ?_
      clear hK K
      refine NoPanic.normal ?_
      have h11 := h10.less
      rw [MS.put_snd rfl HM2.out] at h11
      have H11 := Lib.hid h11
      clear h10 h11
      go_wp2_with fail
      go_end0
      exact ⟨rfl, _, HF.out ▸ H11.out⟩
end Go.Proofs.YtgdeclmciflmpaaGreat

/- One step of the program's machine: all instructions. -/
set_option linter.unusedVariables false
set_option linter.unusedSimpArgs false
set_option maxRecDepth 100000
namespace Go.Proofs.YtgdeclmciflmpaaGreat
open Go.RowKit
/-- One step of the program's machine. -/
theorem implStep (C : Cfg) (w : World) (vf : Value) (s : MS) (f : Frame) (rest : List Frame) (N : Nat) (h : MM C w vf s) (R : Rdy C.x C.ins C.most N s f rest) :
    Calls Tryz.prog 28 #[.pointer (some ⟨C.M, 0, none⟩)] w (RetN C (stepF C.x C.ins C.most s) w) := by
  have hop := op_range R.insW.1
  have hc : (fIns C.x f).1 = 1 ∨ (fIns C.x f).1 = 2 ∨ (fIns C.x f).1 = 3 ∨ (fIns C.x f).1 = 4 ∨ (fIns C.x f).1 = 5 ∨ (fIns C.x f).1 = 6 ∨ (fIns C.x f).1 = 7 ∨ (fIns C.x f).1 = 8 ∨ (fIns C.x f).1 = 9 ∨ (fIns C.x f).1 = 10 ∨ (fIns C.x f).1 = 11 ∨ (fIns C.x f).1 = 12 ∨ (fIns C.x f).1 = 13 ∨ (fIns C.x f).1 = 14 ∨ (fIns C.x f).1 = 15 ∨ (fIns C.x f).1 = 16 ∨ (fIns C.x f).1 = 17 ∨ (fIns C.x f).1 = 18 := by omega
  rcases hc with e | e | e | e | e | e | e | e | e | e | e | e | e | e | e | e | e | e
  · exact implStep1 C w vf s f rest N h R e
  · exact implStep2 C w vf s f rest N h R e
  · exact implStep3 C w vf s f rest N h R e
  · exact implStep4 C w vf s f rest N h R e
  · exact implStep5 C w vf s f rest N h R e
  · exact implStep6 C w vf s f rest N h R e
  · exact implStep7 C w vf s f rest N h R e
  · exact implStep8 C w vf s f rest N h R e
  · exact implStep9 C w vf s f rest N h R e
  · exact implStep10 C w vf s f rest N h R e
  · exact implStep11 C w vf s f rest N h R e
  · exact implStep12 C w vf s f rest N h R e
  · exact implStep13 C w vf s f rest N h R e
  · exact implStep14 C w vf s f rest N h R e
  · exact implStep15 C w vf s f rest N h R e
  · exact implStep16 C w vf s f rest N h R e
  · exact implStep17 C w vf s f rest N h R e
  · exact implStep18 C w vf s f rest N h R e
end Go.Proofs.YtgdeclmciflmpaaGreat
