/- Programs done with fuel: a statement. The reference's walk. -/
import Derived.Test.YtgoinmdnpaknpaaBigNb
import Derived.Test.YtgoinmdnpaknpaaRegCut
set_option linter.unusedVariables false
set_option linter.unusedSimpArgs false
set_option maxRecDepth 100000
namespace Go.Proofs.Ytgoinmdnpaknpaa
open Go.RowKit
attribute [local irreducible] wpList
/-- The statement's box. -/
def StB (w : World) (S : Nat) (x0 x1 : Int) (v2 v3 v4 : Value) : Prop := w.heap[S]? = some (.cells #[.int .i64 x0, .int .i64 x1, v2, v3, v4] 120)
theorem StB.cells {w : World} {S : Nat} {x0 x1 : Int} {v2 v3 v4 : Value} (h : StB w S x0 x1 v2 v3 v4) : w.cell? ⟨S, 0, none⟩ = some (.int .i64 x0) ∧ w.cell? ⟨S, 1, none⟩ = some (.int .i64 x1) ∧ w.cell? ⟨S, 2, none⟩ = some v2 ∧ w.cell? ⟨S, 3, none⟩ = some v3 ∧ w.cell? ⟨S, 4, none⟩ = some v4 ∧ S < w.heap.size :=
  ⟨by rw [cell_of_row _ _ _ _ _ _ h]; rfl, by rw [cell_of_row _ _ _ _ _ _ h]; rfl, by rw [cell_of_row _ _ _ _ _ _ h]; rfl, by rw [cell_of_row _ _ _ _ _ _ h]; rfl, by rw [cell_of_row _ _ _ _ _ _ h]; rfl, blk_size h⟩
set_option maxHeartbeats 16000000 in
theorem specStmt {M : MCfg} {C : BCfg} {N : Nat} (G : CfgG C) (hN : N ≤ 600) (hE : ∀ L, L < N → ExprJ M C L) (hBl : ∀ L, L < N → BlockJ M C L) (hSt : ∀ L, L < N → StmtJ M C L) : StmtJ M C N := by
  intro B c fn F y w Ft Fv Fo vt vv vo deep fr st x0 x1 A2 A3 A4 n2 c2 n3 c3 n4 c4 s hpre hfu hmem hx0 hx1 i0 i1 g2 g3 g4
  unfold ExprJ at hE
  unfold BlockJ at hBl
  unfold StmtJ at hSt
  have HE := Lib.hid hE
  have HBl := Lib.hid hBl
  have HSt := Lib.hid hSt
  obtain ⟨s0, s1, ts, th, el⟩ := s
  simp only at hx0 hx1
  subst hx0 hx1
  have SG := Lib.hid ((G.funcs _ (fn_mem hpre.fnl).1).stmts _ hmem)
  have HMEM := Lib.hid hmem
  have HPRE := Lib.hid hpre
  have G2 := Lib.hid g2
  have G3 := Lib.hid g3
  have G4 := Lib.hid g4
  have GG := Lib.hid G
  have hk := SG.out.kind
  simp only at hk
  obtain ⟨r, hr⟩ : ∃ r, (big C N).2 (C.fn fn) (s0, s1, ts, th, el) deep fr st = r := ⟨_, rfl⟩
  have HR := Lib.hid hr
  rw [hr]
  have hB := hpre.ctx.le
  clear hpre hE hBl hSt G hmem hr g2 g3 g4
  go_enter Try.func103, Try.ntmps103
  go_wp2_with fail
  obtain ⟨W, hW⟩ : ∃ W, W = (w.alloc (.cells #[.int .i64 s0, .int .i64 s1, .slice A2 n2 c2, .slice A3 n3 c3, .slice A4 n4 c4] 120)).alloc (.cells #[.int .i64 0, .int .i64 0] 89) := ⟨_, rfl⟩
  obtain ⟨S, hS⟩ : ∃ S, w.heap.size = S := ⟨_, rfl⟩
  obtain ⟨X, hX⟩ : ∃ X, S + 1 = X := ⟨_, rfl⟩
  have hbW : Below w.heap.size w W := by rw [hW]; exact belA
  have hXW : W.heap.size = X + 1 := by rw [hW, ← hX, ← hS]; simp
  have HEB := Lib.hid (show EndB W X from by rw [hW]; exact alloc_new' (by simp; omega))
  have HSB := Lib.hid (show StB W S s0 s1 (.slice A2 n2 c2) (.slice A3 n3 c3) (.slice A4 n4 c4) from by rw [hW]; exact below_at (Below.alloc (Below.refl _ _) (Nat.le_refl _) _) (by simp; omega) (alloc_new' hS))
  have HP0 := Lib.hid (HPRE.out.keep hbW)
  have HF0 := Lib.hid (show Fr (GB M Ft c Fv Fo (some y)) w W from Fr.of_below hbW)
  have HLT := Lib.hid (show ∀ k, k ∈ GB M Ft c Fv Fo (some y) → k < S from fun k hk => by have := HPRE.out.lt k hk; omega)
  have hwX : w.heap.size ≤ X := by omega
  have hSX : S < X := by omega
  have HXG := Lib.hid (show X ∉ GB M Ft c Fv Fo (some y) from fun h => by have := HLT.out X h; omega)
  have hXs := Lib.hid (show X < W.heap.size from by omega)
  rw [← hW, hS, hX]
  clear hW hbW hXW
  go_wp2_with fail
  by_cases h0 : st.fuel = 0
  · have HRE := Lib.hid (show ((5, 0), fr, st) = r from by rw [← HR.out]; exact (big_zero h0).symm)
    refine (specCost0 M C.most W vt st.used (h0 ▸ HP0.out.m.run)).mono ?_
    rintro e w2 ⟨rfl, rfl⟩
    obtain ⟨b0, b1, bz0, bz1, hXv⟩ := HEB.out.cells
    clear h0
    go_wp2_with fail
    refine bodyPost_ret (v := .agg #[.int .i64 5, .int .i64 0]) (by simp [results, Try.results103, go_sem, b0, b1, hXv]) rfl ?_
    rw [← HRE.out]
    exact RetStS.fin HP0.out (by unfold I64; omega) (by omega) HF0.out (fun k hk => Or.inl hk) hwX hB HXG.out (by exact frcA)
  obtain ⟨q, hq⟩ : ∃ q, st.fuel = q + 1 := ⟨st.fuel - 1, by omega⟩
  obtain ⟨L, rfl⟩ : ∃ L, N = L + 1 := ⟨N - 1, by omega⟩
  have hLN : L < L + 1 := by omega
  have hqL : q ≤ L := by omega
  have hq6 : q ≤ 600 := by omega
  have HQ := Lib.hid hq
  have hrun : RunS M C.most W vt (q + 1) st.used := hq ▸ HP0.out.m.run
  clear hq h0 hfu
  refine (specCost1 M C.most W vt q st.used hrun hq6).mono ?_
  rintro e w2 ⟨rfl, hR2, hf2⟩
  have HP2 := Lib.hid (HP0.out.burn HQ.out hR2 hf2)
  have HF2 := Lib.hid (FrR.trans HF0.out hf2 (fun k hk => Or.inl (by rw [List.mem_singleton.1 hk]; exact List.mem_cons_self ..)))
  have hRX : X ∉ [M.R] := fun h => HXG.out (by rw [List.mem_singleton.1 h]; exact List.mem_cons_self ..)
  have hRS : S ∉ [M.R] := fun h => by have := HLT.out M.R (List.mem_cons_self ..); rw [List.mem_singleton.1 h] at this; omega
  have HE2 := Lib.hid (show EndB w2 X from fr_atX hf2 hRX HEB.out)
  have HS2 := Lib.hid (show StB w2 S s0 s1 (.slice A2 n2 c2) (.slice A3 n3 c3) (.slice A4 n4 c4) from fr_atX hf2 hRS HSB.out)
  obtain ⟨b0, b1, bz0, bz1, hXv⟩ := HE2.out.cells
  obtain ⟨q0, q1, q2, q3, q4, hSv⟩ := HS2.out.cells
  have hRSt := Lib.hid (show (if s0 = 3 then ((0, 0), { fr with off := fr.off ++ [s1] }, { st with fuel := q }) else if s0 = 6 then ((3, 0), fr, { st with fuel := q }) else
      (if (bExpr C (big C L).1 deep ts [] fr { st with fuel := q }).2.1.1 = 0 then bStmtE (big C L).2 (C.fn fn) (s0, s1, ts, th, el) deep (bExpr C (big C L).1 deep ts [] fr { st with fuel := q }).1 (bExpr C (big C L).1 deep ts [] fr { st with fuel := q }).2.2.1 (bExpr C (big C L).1 deep ts [] fr { st with fuel := q }).2.2.2 else (bExpr C (big C L).1 deep ts [] fr { st with fuel := q }).2)) = r from by
      have h9 := HR.out
      rw [big_succ (by rw [HQ.out]; omega), HQ.out, Nat.add_sub_cancel] at h9
      exact h9)
  have HSPr := Lib.hid (show StmtP C 600 (C.fn fn).2.1 st fr r from by rw [← HR.out]; exact (big_ok GG.out (L + 1) (by omega)).2 600 _ _ deep fr st (fn_mem HPRE.out.fnl).1 SG.out HPRE.out.fok HPRE.out.sok (by rw [HQ.out]; omega))
  clear hrun hR2 hf2 hRX hRS HR HP0 HF0 HEB HSB hXs
  by_cases k6 : s0 = 6
  · subst k6
    have HRE := Lib.hid (show ((3, 0), fr, { st with fuel := q }) = r from by have := hRSt.out; rw [if_neg (by decide), if_pos rfl] at this; exact this)
    clear hRSt hk
    go_wp2_with fail
    refine bodyPost_ret (v := .agg #[.int .i64 3, .int .i64 0]) (by simp [results, Try.results103, go_sem, b0, b1, hXv]) rfl ?_
    rw [← HRE.out]
    exact RetStS.fin HP2.out (by unfold I64; omega) (by omega) HF2.out (fun k hk => Or.inl hk) hwX hB HXG.out (by exact frcA)
  by_cases k3 : s0 = 3
  · subst k3
    have HRX := Lib.hid (show ((0, 0), { fr with off := fr.off ++ [s1] }, { st with fuel := q }) = r from by have := hRSt.out; rw [if_pos rfl] at this; exact this)
    obtain ⟨Ao, no, co, rfl, hno⟩ := HP2.out.f.off.form
    clear hno
    have c5 := HP2.out.f.cl.cell 5
    have hcw := blk_size HP2.out.f.cl
    have hSS := Lib.hid (show ∀ V, Below w2.heap.size w2 V → V.cell? ⟨c, 5, none⟩ = some (.slice Ao no co) ∧ V.cell? ⟨S, 1, none⟩ = some (.int .i64 s1) from fun V hV => ⟨below_cell hV c5, below_cell hV q1⟩)
    have hol : fr.off.length ≤ 600 := by have := HPRE.out.fok.long; omega
    clear hRSt hk
    go_upto_region 5 with fail
    refine wp_region_noPanic ?_
    refine wp_region_cut (S := (fun V => V.cell? ⟨c, 5, none⟩ = some (.slice Ao no co) ∧ V.cell? ⟨S, 1, none⟩ = some (.int .i64 s1))) 11 (by kernel_rfl) (by kernel_rfl) (hSS.out _ (by exact beloA)) (fun hR0 => ?_)
    simp only [headOps, List.take_succ_cons, List.take_zero]
    refine takeH 0 ?_
    refine takeH 1 ?_
    refine takeH 2 ?_
    refine takeH 3 ?_
    refine takeH 4 ?_
    refine takeH 5 ?_
    refine takeH 6 ?_
    refine wpAnyH_ready (rs := [7]) (by kernel_rfl) (by simp) ?_
    refine AllReadyH.cons (i := 7) rfl (fun K hK => ?_) AllReadyH.nil
    go_simp
    refine hK.out _ _ (hSS.out _ (show Below w2.heap.size w2 _ by exact beloA)) (fun hR6 => ?_)
    clear hK K
    try simp only [Act.put, List.getElem_toArray, List.getElem_cons_zero, List.getElem_cons_succ, List.setIfInBounds_toArray, List.set_cons_zero, List.set_cons_succ]
    refine wpAnyH_ready (rs := [8]) (by kernel_rfl) (by simp) ?_
    refine AllReadyH.cons (i := 8) rfl (fun K hK => ?_) AllReadyH.nil
    have bd : Below w2.heap.size w2 ((w2.alloc (.cells #[.int .i64 s1] 3)).drew) := by exact beloA
    have HPd := Lib.hid (HP2.out.keep bd)
    refine step_intB (by rfl) _ _ (by rfl) (.slice Ao no co) fr.off.length fr.off Fo (by rfl) rfl (HP2.out.f.off.below bd) w2.heap.size s1 3 (by rfl) (alloc_new' rfl) i1 (by omega) ?_
    intro A8 n8 c8 w8 F8 HO8 fr8 HF8
    have HPn := Lib.hid (HPd.out.setOff HO8.out fr8 HF8.out (by have := HSPr.out.fok; rw [← HRX.out] at this; exact this))
    have hnc : c ∉ (Value.slice Ao no co).ownBlock.toList := fun hk => HP2.out.sep.parts.2.2.2.2.2.2.1 (HP2.out.f.off.ownB c (by simpa using hk))
    have hSo : ∀ Z, S ≤ Z → Z ∉ (Value.slice Ao no co).ownBlock.toList := fun Z hZ hk => by
      have h9 := HP2.out.f.off.ownB Z (by simpa using hk)
      have := HLT.out Z (by unfold GB; simp [h9]); omega
    have c58 := cell_fr fr8 hnc (hSS.out _ bd).1
    have q18 := cell_fr fr8 (hSo S (Nat.le_refl _)) (hSS.out _ bd).2
    have z58 : w8.frozen? ⟨c, 5, none⟩ = false := blk_frozen (HPd.out.f.cl.fr fr8 hnc) 5
    have hcw8 : c < w8.heap.size := by have := fr8.size; have := bd.size; omega
    have HE8 := Lib.hid (show EndB w8 X from fr_atX fr8 (hSo X (by omega)) (below_at bd hXv HE2.out))
    refine hK.out _ _ ⟨c58, q18⟩ (fun hR8 => ?_)
    clear hK K
    try simp only [Act.put, List.getElem_toArray, List.getElem_cons_zero, List.getElem_cons_succ, List.setIfInBounds_toArray, List.set_cons_zero, List.set_cons_succ]
    refine takeH 9 ?_
    refine takeH 10 ?_
    refine wpAnyH_done (by kernel_rfl) ?_ _
    refine lastQ_op rfl (fun K hK => ?_)
    rw [if_pos (by rfl)]
    go_simp
    refine hK _ _ ?_
    clear hK K
    refine NoPanic.normal ?_
    obtain ⟨m1, m2, m3⟩ := HPn.out
    have HFn := Lib.hid (FrR.trans (FrR.trans HF2.out (Fr.of_below (F := []) bd) (by simp)) m2 (fun k hk => Or.inl hk))
    have HIn := Lib.hid (show ∀ k, k ∈ GB M Ft c Fv F8 (some y) → k ∈ GB M Ft c Fv Fo (some y) ∨ X < k from fun k hk => by
      rcases m3 k hk with h1 | h1
      · exact Or.inl h1
      · exact Or.inr (by have := bd.size; omega))
    have HM1 := Lib.hid m1
    have hXc : X ≠ c := fun e => HXG.out (by rw [e]; unfold GB; simp)
    have HE9 := Lib.hid (show EndB (w8.setCell ⟨c, 5, none⟩ (.slice A8 n8 c8)) X from fr_atX (Fr.one _ _) (by simpa using hXc) HE8.out)
    obtain ⟨w9, hw9⟩ : ∃ w9, w9 = w8.setCell ⟨c, 5, none⟩ (.slice A8 n8 c8) := ⟨_, rfl⟩
    rw [← hw9] at HE9 HM1 HFn ⊢
    clear b0 b1 bz0 bz1 hXv
    obtain ⟨b0, b1, bz0, bz1, hXv⟩ := HE9.out.cells
    clear m1 m2 m3 hR0 hR6 hR8 c58 q18 z58 c5 q0 q1 q2 q3 q4 bd fr8 hnc hSo HPn hw9
    go_wp2_with fail
    refine bodyPost_ret (v := .agg #[.int .i64 0, .int .i64 0]) (by simp [results, Try.results103, go_sem, b0, b1, hXv]) rfl ?_
    rw [← HRX.out]
    exact RetStS.fin HM1.out (by unfold I64; omega) (by omega) HFn.out HIn.out hwX hB HXG.out (by exact frcA)
  obtain ⟨rE, hrE⟩ : ∃ rE, bExpr C (big C L).1 deep ts [] fr { st with fuel := q } = rE := ⟨_, rfl⟩
  have HRE := Lib.hid hrE
  have HRS := Lib.hid (show (if rE.2.1.1 = 0 then bStmtE (big C L).2 (C.fn fn) (s0, s1, ts, th, el) deep rE.1 rE.2.2.1 rE.2.2.2 else rE.2) = r from by have := hRSt.out; rw [if_neg k3, if_neg k6, hrE] at this; exact this)
  have hex := SG.out.ex k3 k6
  simp only at hex
  have HEX := Lib.hid hex
  have hk3 : (s0 == 3) = false := by simpa using k3
  have hk6 : (s0 == 6) = false := by simpa using k6
  clear hRSt hrE hex b0 b1 bz0 bz1
  go_wp2_with fail
  refine (HE.out L hLN B c fn F y w2 Ft Fv Fo vt vv vo deep fr { st with fuel := q } A2 n2 c2 ts HP2.out hqL HEX.out.1 HEX.out.2 (slB G2.out hB HF2.out HPRE.out.sep.ge)).mono ?_
  rw [HRE.out]
  rintro e w3 ⟨xv, nv, vt', Ft', rfl, inx, inn, HV, HM, HFs, HB3, HFR3, HIN3, HSEP3⟩
  obtain ⟨h1, hh1⟩ : ∃ h1, rE.2.1.1 = h1 := ⟨_, rfl⟩
  have HH1 := Lib.hid hh1
  have HRT3 := Lib.hid (show RetStS M C B c fn F y w2 Ft Fv Fo vv deep rE.2 (.returned (.agg #[.int .i64 rE.2.1.1, .int .i64 nv])) w3 from ⟨nv, vt', vo, Ft', Fo, rfl, inn, Lib.hid HV.out.2, HM, HFs, HB3, HFR3, HIN3, HSEP3⟩)
  have EP := Lib.hid (show ExprP C 600 (C.fn fn).2.1 { st with fuel := q } fr rE from by
    rw [← HRE.out]
    exact expr_ok GG.out (big_ok GG.out L (by omega)).1 ts HEX.out.2 (fun n hn => by cases hn) HP2.out.fok HP2.out.sok hqL)
  have hhow := EP.out.how.1
  rw [hh1] at hhow ⊢
  have HE3 := Lib.hid (show EndB w3 X from fr_atX HFR3.out HXG.out HE2.out)
  have HS3 := Lib.hid (show StB w3 S s0 s1 (.slice A2 n2 c2) (.slice A3 n3 c3) (.slice A4 n4 c4) from fr_atX HFR3.out (fun h => by have := HLT.out S h; omega) HS2.out)
  have HFw := Lib.hid (FrR.trans HF2.out HFR3.out (fun k hk => Or.inl hk))
  have HINw := Lib.hid (show ∀ j, j ∈ GB M Ft' c Fv Fo (some y) → j ∈ GB M Ft c Fv Fo (some y) ∨ X < j from fun j hj => by
    rcases HIN3.out j hj with h | h
    · exact Or.inl h
    · exact Or.inr (by omega))
  clear hh1 q0 q1 q2 q3 q4
  obtain ⟨b0, b1, bz0, bz1, hX3⟩ := HE3.out.cells
  by_cases he0 : h1 = 0
  rotate_left
  · have hh4 : h1 > 0 := by omega
    have HRX := Lib.hid (show rE.2 = r from by have := HRS.out; rw [if_neg (by rw [HH1.out]; exact he0)] at this; exact this)
    clear he0 HRS
    go_wp2_with fail
    refine bodyPost_ret (v := .agg #[.int .i64 h1, .int .i64 nv]) (by simp [results, Try.results103, go_sem, b0, b1, hX3]) rfl ?_
    rw [← HRX.out]
    have hret := HRT3.out
    rw [HH1.out] at hret
    exact RetStS.put hret HF2.out (fun k hk => Or.inl hk) hwX hXv HXG.out (by exact frcA)
  subst he0
  have hxv : xv = rE.1 := HV.out.1 HH1.out
  have HP3 := Lib.hid (show PrS M C B c fn F y w3 Ft' Fv Fo vt' vv vo deep rE.2.2.1 rE.2.2.2 from
    ⟨HP2.out.ctx.fr HFR3.out HP2.out.sep.ge, slB HP2.out.code HP2.out.ctx.le HFR3.out HP2.out.sep.ge, HM.out.go (by rw [HH1.out]; omega), HFs.out, HB3.out, HSEP3.out, HP2.out.fnl, EP.out.sok, EP.out.fok, HP2.out.deep⟩)
  have HRT := Lib.hid (show bStmtE (big C L).2 (C.fn fn) (s0, s1, ts, th, el) deep xv rE.2.2.1 rE.2.2.2 = r from by have := HRS.out; rw [if_pos HH1.out, ← hxv] at this; exact this)
  have HX32 := Lib.hid (show I32 xv from hxv ▸ EP.out.val)
  have hqE := Nat.le_trans EP.out.fuel hqL
  obtain ⟨V, hV⟩ : ∃ V, V = w3.alloc (.cells #[.int .i64 0, .int .i64 nv] 89) := ⟨_, rfl⟩
  have bV : Below w3.heap.size w3 V := by rw [hV]; exact belA
  have HPV := Lib.hid (HP3.out.keep bV)
  have HFV := Lib.hid (FrR.trans HFw.out (Fr.of_below (F := []) bV) (by simp))
  have HEV := Lib.hid (show EndB V X from below_at bV hX3 HE3.out)
  have HSV := Lib.hid (show StB V S s0 s1 (.slice A2 n2 c2) (.slice A3 n3 c3) (.slice A4 n4 c4) from below_at bV (blk_size HS3.out) HS3.out)
  have hXV : X < V.heap.size := by have := bV.size; omega
  clear hxv HRS HM HFs HB3 HSEP3 HV HFR3 HIN3 HRT3 HP3 HE3 HS3 HFw bV b0 b1 bz0 bz1 hX3 HP2 HF2 HE2 HS2
  go_upto_region 12 with fail
  rw [← hV]
  clear hV
  obtain ⟨b0, b1, bz0, bz1, _⟩ := HEV.out.cells
  obtain ⟨q0, q1, q2, q3, q4, hSV⟩ := HSV.out.cells
  have hkc : s0 = 1 ∨ s0 = 2 ∨ s0 = 4 ∨ s0 = 5 ∨ s0 = 7 ∨ s0 = 8 ∨ s0 = 9 := by omega
  clear hk k3 k6 hk3 hk6
  rcases hkc with rfl | rfl | rfl | rfl | rfl | rfl | rfl
  · obtain ⟨hs0, hs1⟩ := SG.out.set_ rfl
    simp only at hs0 hs1
    obtain ⟨j, rfl⟩ := Int.eq_ofNat_of_zero_le hs0
    have hvl := HPV.out.fok.vars
    have hj : j < rE.2.2.1.vars.length := by omega
    obtain ⟨Av, nav, cv, rfl, hnv⟩ := HPV.out.f.vars.form
    obtain ⟨g, rfl, hnl, hgF, hcg, hzg, hgw, hset⟩ := HPV.out.f.vars.setInt (x := xv) hj (by have := HX32.out; unfold I32 at this; unfold I64; omega)
    have HRX := Lib.hid (show ((0, 0), { rE.2.2.1 with vars := rE.2.2.1.vars.set j xv }, rE.2.2.2) = r from by rw [← HRT.out]; simp [bStmtE])
    obtain ⟨s5a, s5b⟩ := HPV.out.setVar HX32.out hgF hset
    have S5a := Lib.hid s5a
    have S5b := Lib.hid (FrR.trans HFV.out s5b (fun k hk => by rw [List.mem_singleton.1 hk]; exact HINw.out g (by unfold GB; simp [hgF]) |>.imp id (fun h => by omega)))
    have c4 := HPV.out.f.cl.cell 4
    have hjn : (j : Int) < (nav : Int) := by omega
    have hgc : c ∉ [g] := by
      have h9 := HPV.out.sep.parts.2.2.2.2.2.1
      intro hk; rw [List.mem_singleton.1 hk] at h9; exact h9 hgF
    have hgZ : ∀ Z, S ≤ Z → Z ≤ X → Z ∉ [g] := fun Z h1 h2 hk => by
      rcases HINw.out g (by unfold GB; simp [hgF]) with h3 | h3
      · have := HLT.out g h3; rw [List.mem_singleton.1 hk] at h1; omega
      · rw [List.mem_singleton.1 hk] at h2; omega
    have HEg := Lib.hid (show EndB (V.setCell ⟨g, j, none⟩ (.int .i64 xv)) X from fr_atX s5b (hgZ X (by omega) (Nat.le_refl _)) HEV.out)
    have hfg := s5b
    clear HRT s5a s5b hset hnv hnl hvl hs0 hs1
    go_upto_region 14 with fail
    refine wp_region_noPanic ?_
    refine wp_region_hd (S := (fun V => V.cell? ⟨c, 4, none⟩ = some (.slice (some ⟨g, 0, none⟩) nav cv) ∧ V.cell? ⟨S, 1, none⟩ = some (.int .i64 j))) 9 (by kernel_rfl) (by kernel_rfl) ⟨c4, q1⟩ (fun hR0 => ?_)
    refine takeH 0 ?_
    refine takeH 1 ?_
    refine takeH 2 ?_
    refine takeH 3 ?_
    refine takeH 4 ?_
    refine takeH 5 ?_
    refine takeH 6 ?_
    refine takeH 7 ?_
    refine wpAnyH_ready (rs := [8]) (by kernel_rfl) (by simp) ?_
    refine AllReadyH.cons (i := 8) rfl (fun K hK => ?_) AllReadyH.nil
    go_simp
    have hfd : Fr [g] V ((V.setCell ⟨g, j, none⟩ (.int .i64 xv)).drew) := by exact frcA
    refine hK.out _ _ ⟨cell_fr hfd hgc c4, cell_fr hfd (hgZ S (Nat.le_refl _) (by omega)) q1⟩ (fun hR8 => ?_)
    clear hK K
    try simp only [Act.put, List.getElem_toArray, List.getElem_cons_zero, List.getElem_cons_succ, List.setIfInBounds_toArray, List.set_cons_zero, List.set_cons_succ]
    refine wpAnyH_done (by kernel_rfl) ?_ _
    refine NoPanic.normal ?_
    have bd : Below (V.setCell ⟨g, j, none⟩ (.int .i64 xv)).heap.size (V.setCell ⟨g, j, none⟩ (.int .i64 xv)) (V.setCell ⟨g, j, none⟩ (.int .i64 xv)).drew := by exact belA
    have S6a := Lib.hid (S5a.out.keep bd)
    have S6b := Lib.hid (FrR.trans S5b.out (Fr.of_below (F := []) bd) (by simp))
    obtain ⟨w9, hw9⟩ : ∃ w9, w9 = (V.setCell ⟨g, j, none⟩ (.int .i64 xv)).drew := ⟨_, rfl⟩
    have HE9 := Lib.hid (show EndB w9 X from by rw [hw9]; exact below_at bd (blk_size HEg.out) HEg.out)
    rw [← hw9] at S6a S6b ⊢
    clear b0 b1 bz0 bz1 bd hfd hR0 hR8 c4 hcg hzg hfg hXV q0 q1 q2 q3 q4 hw9
    obtain ⟨b0, b1, bz0, bz1, hXV⟩ := HE9.out.cells
    go_wp2_with fail
    refine bodyPost_ret (v := .agg #[.int .i64 0, .int .i64 0]) (by simp [results, Try.results103, go_sem, b0, b1, hXV]) rfl ?_
    rw [← HRX.out]
    exact RetStS.fin S6a.out (by unfold I64; omega) (by omega) S6b.out HINw.out hwX hB HXG.out (by exact frcA)
  · have HRX := Lib.hid (show ((0, 0), rE.2.2.1, { rE.2.2.2 with tr := rE.2.2.2.tr ++ [xv] }) = r from by rw [← HRT.out]; simp [bStmtE])
    obtain ⟨inf, hif, iz0, iz1, iz2⟩ := info_parts Try.infoIntB
    have HIF := Lib.hid hif
    have IZ0 := Lib.hid iz0
    have IZ1 := Lib.hid iz1
    have IZ2 := Lib.hid iz2
    obtain ⟨At, nt, ct, rfl, hnt⟩ := HPV.out.m.tr.form
    have i64n : I64 xv := by have := HX32.out; unfold I32 at this; unfold I64; omega
    have r5 := HPV.out.m.run.cell 5
    have hRw := blk_size HPV.out.m.run
    have htl : rE.2.2.2.tr.length ≤ 600 := by have := HPV.out.sok.long; omega
    clear HRT hif iz0 iz1 iz2 hnt
    go_wp2_with (at_builtin; refine wpl_own1 _ rfl _ _ 37 rfl intR 3 inf (.int .i64 0) 1 8 Try.underlying37 HIF.out IZ0.out IZ1.out IZ2.out rfl rfl (by decide) (.slice At nt ct) rE.2.2.2.tr.length rE.2.2.2.tr Ft' rfl rfl (HPV.out.m.tr.below (show Below V.heap.size V _ by exact belA)) ⟨V.heap.size, 0, none⟩ 1 [.int .i64 xv] xv [] rfl (cells_new _ _ _ (by simp)) ⟨rfl, rfl, i64n⟩ (by intro u hu; simp at hu; subst hu; rfl) (fun j hj => by cases hj) (by omega) (by decide) ?_)
    intro v8 w8 F8 ho8 hgr hF8
    obtain ⟨A8, n8, c8, rfl, h88⟩ := ho8.form
    clear h88
    have bd : Below V.heap.size V (V.alloc (.cells #[.int .i64 xv] 3)) := by exact belA
    have HPd := Lib.hid (HPV.out.keep bd)
    have hF8' : ∀ k, k ∈ F8 → k ∈ Ft' ∨ k = (V.alloc (.cells #[.int .i64 xv] 3)).heap.size := fun k hk => by
      rcases hF8 k hk with h | h
      · exact Or.inl h
      · exact Or.inr (by first | exact h | (rw [h]; simp))
    have HPn := Lib.hid (HPd.out.setTr ho8 (grown_fr hgr) hF8' (by have := HSPr.out.sok; rw [← HRX.out] at this; exact this))
    have hnR : M.R ∉ (Value.slice At nt ct).ownBlock.toList := fun hk => HPV.out.sep.parts.1 (HPV.out.m.tr.ownB _ (by simpa using hk))
    have hXo : X ∉ (Value.slice At nt ct).ownBlock.toList := fun hk => by
      have h9 := HPV.out.m.tr.ownB X (by simpa using hk)
      rcases HINw.out X (by unfold GB; simp [h9]) with h | h
      · exact HXG.out h
      · omega
    have hr8 := HPd.out.m.run.fr (grown_fr hgr) hnR
    have r58 := hr8.cell 5
    have z58 : w8.frozen? ⟨M.R, 5, none⟩ = false := blk_frozen hr8 5
    have hRw8 := blk_size hr8
    have HE8 := Lib.hid (show EndB w8 X from fr_atX (grown_fr hgr) hXo (below_at bd hXV HEV.out))
    have hRX : X ∉ [M.R] := fun h => HXG.out (by rw [List.mem_singleton.1 h]; exact List.mem_cons_self ..)
    obtain ⟨m1, m2, m3⟩ := HPn.out
    have S7a := Lib.hid m1
    have S7b := Lib.hid (FrR.trans (FrR.trans HFV.out (Fr.of_below (F := []) bd) (by simp)) m2 (fun k hk => HINw.out k hk |>.imp id (fun h => by omega)))
    have S7d := Lib.hid (show ∀ k, k ∈ GB M F8 c Fv Fo (some y) → k ∈ GB M Ft c Fv Fo (some y) ∨ X < k from fun k hk => by
      rcases m3 k hk with h1 | h1
      · exact HINw.out k h1
      · exact Or.inr (by have := bd.size; omega))
    have HE9 := Lib.hid (show EndB (w8.setCell ⟨M.R, 5, none⟩ (.slice A8 n8 c8)) X from fr_atX (Fr.one _ _) hRX HE8.out)
    clear m1 m2 m3 ho8 hgr hF8 hF8' bd hnR hr8 HPn r5 q0 q1 q2 q3 q4 b0 b1 bz0 bz1 hXo hRX HPd
    go_upto_region 33 with fail
    obtain ⟨w9, hw9⟩ : ∃ w9, w9 = w8.setCell ⟨M.R, 5, none⟩ (.slice A8 n8 c8) := ⟨_, rfl⟩
    rw [← hw9] at S7a S7b HE9 ⊢
    clear hw9 r58 z58 hRw8 hXV
    obtain ⟨b0, b1, bz0, bz1, hXV⟩ := HE9.out.cells
    go_wp2_with fail
    refine bodyPost_ret (v := .agg #[.int .i64 0, .int .i64 0]) (by simp [results, Try.results103, go_sem, b0, b1, hXV]) rfl ?_
    rw [← HRX.out]
    exact RetStS.fin S7a.out (by unfold I64; omega) (by omega) S7b.out S7d.out hwX hB HXG.out (by exact frcA)
  · have HRX := Lib.hid (show ((2, xv), rE.2.2.1, rE.2.2.2) = r from by rw [← HRT.out]; simp [bStmtE])
    clear HRT
    go_wp2_with fail
    refine bodyPost_ret (v := .agg #[.int .i64 2, .int .i64 xv]) (by simp [results, Try.results103, go_sem, b0, b1, hXV]) rfl ?_
    rw [← HRX.out]
    exact RetStS.fin HPV.out inx (fun _ => rfl) HFV.out HINw.out hwX hB HXG.out (by exact frcA)
  · have HRX := Lib.hid (show ((1, 0), { rE.2.2.1 with res := xv }, rE.2.2.2) = r from by rw [← HRT.out]; simp [bStmtE])
    obtain ⟨s5a, s5b⟩ := HPV.out.setRes HX32.out
    have S5a := Lib.hid s5a
    have S5b := Lib.hid (FrR.trans HFV.out s5b (fun k hk => by rw [List.mem_singleton.1 hk]; exact Or.inl (by unfold GB; simp)))
    have c6 := HPV.out.f.cl.cell 6
    have z6 := blk_frozen HPV.out.f.cl 6
    have hcw := blk_size HPV.out.f.cl
    have hXc : X ∉ [c] := fun h => HXG.out (by rw [List.mem_singleton.1 h]; unfold GB; simp)
    have HE9 := Lib.hid (show EndB (V.setCell ⟨c, 6, none⟩ (.int .i64 xv)) X from fr_atX s5b hXc HEV.out)
    clear HRT s5a s5b
    go_upto_region 21 with fail
    obtain ⟨w9, hw9⟩ : ∃ w9, w9 = V.setCell ⟨c, 6, none⟩ (.int .i64 xv) := ⟨_, rfl⟩
    rw [← hw9] at S5a S5b HE9 ⊢
    clear hw9 c6 z6 hcw hXV b0 b1 bz0 bz1 q0 q1 q2 q3 q4
    obtain ⟨b0, b1, bz0, bz1, hXV⟩ := HE9.out.cells
    go_wp2_with fail
    refine bodyPost_ret (v := .agg #[.int .i64 1, .int .i64 0]) (by simp [results, Try.results103, go_sem, b0, b1, hXV]) rfl ?_
    rw [← HRX.out]
    exact RetStS.fin S5a.out (by unfold I64; omega) (by omega) S5b.out HINw.out hwX hB HXG.out (by exact frcA)
  · by_cases hn0 : xv = 0
    · subst hn0
      have HRX := Lib.hid (show bBlock (big C L).2 (C.fn fn) deep el rE.2.2.1 rE.2.2.2 = r from by rw [← HRT.out]; simp [bStmtE])
      go_wp2_with fail
      refine (HBl.out L hLN B c fn F y V Ft' Fv Fo vt' vv vo deep rE.2.2.1 rE.2.2.2 A4 n4 c4 el HPV.out hqE (fun k hk => SG.out.blocks k (Or.inr hk)) (slB G4.out hB HFV.out HPRE.out.sep.ge)).mono ?_
      rw [HRX.out]
      rintro e w5 hret
      have HRET := Lib.hid hret
      obtain ⟨n5, vt5, vo5, Ft5, Fo5, rfl, in5, _, HM5, HF5, HB5, HFR5, HIN5, HSEP5⟩ := hret
      have HE5 := Lib.hid (show EndB w5 X from fr_atX HFR5.out (fun h => by rcases HINw.out X h with h | h; exact HXG.out h; omega) HEV.out)
      obtain ⟨h5, hh5⟩ : ∃ h5, r.1.1 = h5 := ⟨_, rfl⟩
      have HH5 := Lib.hid hh5
      rw [hh5]
      clear hh5 b0 b1 bz0 bz1 q0 q1 q2 q3 q4
      obtain ⟨b0, b1, bz0, bz1, hX5⟩ := HE5.out.cells
      go_wp2_with fail
      refine bodyPost_ret (v := .agg #[.int .i64 h5, .int .i64 n5]) (by simp [results, Try.results103, go_sem, b0, b1, hX5]) rfl ?_
      rw [← HH5.out]
      exact RetStS.put HRET.out HFV.out HINw.out hwX hXV HXG.out (by exact frcA)
    · have HRX := Lib.hid (show bBlock (big C L).2 (C.fn fn) deep th rE.2.2.1 rE.2.2.2 = r from by rw [← HRT.out]; simp [bStmtE, hn0])
      have hnb : (xv != 0) = true := bne_iff_ne.2 hn0
      clear hn0
      go_wp2_with fail
      refine (HBl.out L hLN B c fn F y V Ft' Fv Fo vt' vv vo deep rE.2.2.1 rE.2.2.2 A3 n3 c3 th HPV.out hqE (fun k hk => SG.out.blocks k (Or.inl hk)) (slB G3.out hB HFV.out HPRE.out.sep.ge)).mono ?_
      rw [HRX.out]
      rintro e w5 hret
      have HRET := Lib.hid hret
      obtain ⟨n5, vt5, vo5, Ft5, Fo5, rfl, in5, _, HM5, HF5, HB5, HFR5, HIN5, HSEP5⟩ := hret
      have HE5 := Lib.hid (show EndB w5 X from fr_atX HFR5.out (fun h => by rcases HINw.out X h with h | h; exact HXG.out h; omega) HEV.out)
      obtain ⟨h5, hh5⟩ : ∃ h5, r.1.1 = h5 := ⟨_, rfl⟩
      have HH5 := Lib.hid hh5
      rw [hh5]
      clear hh5 b0 b1 bz0 bz1 q0 q1 q2 q3 q4
      obtain ⟨b0, b1, bz0, bz1, hX5⟩ := HE5.out.cells
      go_wp2_with fail
      refine bodyPost_ret (v := .agg #[.int .i64 h5, .int .i64 n5]) (by simp [results, Try.results103, go_sem, b0, b1, hX5]) rfl ?_
      rw [← HH5.out]
      exact RetStS.put HRET.out HFV.out HINw.out hwX hXV HXG.out (by exact frcA)
  · by_cases hn0 : xv = 0
    · subst hn0
      have HRX := Lib.hid (show ((0, 0), rE.2.2.1, rE.2.2.2) = r from by rw [← HRT.out]; simp [bStmtE])
      clear HRT
      go_wp2_with fail
      refine bodyPost_ret (v := .agg #[.int .i64 0, .int .i64 0]) (by simp [results, Try.results103, go_sem, b0, b1, hXV]) rfl ?_
      rw [← HRX.out]
      exact RetStS.fin HPV.out (by unfold I64; omega) (by omega) HFV.out HINw.out hwX hB HXG.out (by exact frcA)
    obtain ⟨rB, hrB⟩ : ∃ rB, bBlock (big C L).2 (C.fn fn) deep th rE.2.2.1 rE.2.2.2 = rB := ⟨_, rfl⟩
    have HRX := Lib.hid (show (if rB.1.1 = 0 then (big C L).2 (C.fn fn) (8, s1, ts, th, el) deep rB.2.1 rB.2.2 else rB) = r from by rw [← HRT.out]; simp [bStmtE, hn0, hrB])
    have HRB := Lib.hid hrB
    have hnb : (xv == 0) = false := beq_eq_false_iff_ne.2 hn0
    have BP := Lib.hid (show StmtP C 600 (C.fn fn).2.1 rE.2.2.2 rE.2.2.1 rB from by
      rw [← HRB.out]
      exact block_ok GG.out (big_ok GG.out L (by omega)).2 (fn_mem HPRE.out.fnl).1 th (fun k hk => SG.out.blocks k (Or.inl hk)) HPV.out.fok HPV.out.sok hqE)
    clear hn0 hrB HRT
    go_wp2_with fail
    refine (HBl.out L hLN B c fn F y V Ft' Fv Fo vt' vv vo deep rE.2.2.1 rE.2.2.2 A3 n3 c3 th HPV.out hqE (fun k hk => SG.out.blocks k (Or.inl hk)) (slB G3.out hB HFV.out HPRE.out.sep.ge)).mono ?_
    rw [HRB.out]
    rintro e w5 hret
    have HRET := Lib.hid hret
    obtain ⟨n5, vt5, vo5, Ft5, Fo5, rfl, in5, HV5, HM5, HF5, HB5, HFR5, HIN5, HSEP5⟩ := hret
    have hXn : ∀ Z, S ≤ Z → Z ≤ X → Z ∉ GB M Ft' c Fv Fo (some y) := fun Z h1 h2 h => by rcases HINw.out Z h with h | h; (have := HLT.out Z h; omega); omega
    have HE5 := Lib.hid (show EndB w5 X from fr_atX HFR5.out (hXn X (by omega) (Nat.le_refl _)) HEV.out)
    have HS5 := Lib.hid (show StB w5 S 8 s1 (.slice A2 n2 c2) (.slice A3 n3 c3) (.slice A4 n4 c4) from fr_atX HFR5.out (hXn S (Nat.le_refl _) (by omega)) HSV.out)
    obtain ⟨h5, hh5⟩ : ∃ h5, rB.1.1 = h5 := ⟨_, rfl⟩
    have HH5 := Lib.hid hh5
    have hhow5 := BP.out.how.1
    rw [hh5] at hhow5 ⊢
    clear hh5 b0 b1 bz0 bz1 q0 q1 q2 q3 q4 hXn
    obtain ⟨b0, b1, bz0, bz1, hX5⟩ := HE5.out.cells
    by_cases hb0 : h5 = 0
    rotate_left
    · have HRZ := Lib.hid (show rB = r from by have := HRX.out; rw [if_neg (by rw [HH5.out]; exact hb0)] at this; exact this)
      have hh5 : h5 > 0 := by omega
      clear hb0 HRX
      go_wp2_with fail
      refine bodyPost_ret (v := .agg #[.int .i64 h5, .int .i64 n5]) (by simp [results, Try.results103, go_sem, b0, b1, hX5]) rfl ?_
      rw [← HRZ.out, ← HH5.out]
      exact RetStS.put HRET.out HFV.out HINw.out hwX hXV HXG.out (by exact frcA)
    subst hb0
    have HRN := Lib.hid (show (big C L).2 (C.fn fn) (8, s1, ts, th, el) deep rB.2.1 rB.2.2 = r from by have := HRX.out; rw [if_pos HH5.out] at this; exact this)
    have HP5 := Lib.hid (show PrS M C B c fn F y w5 Ft5 Fv Fo5 vt5 vv vo5 deep rB.2.1 rB.2.2 from
      ⟨HPV.out.ctx.fr HFR5.out HPV.out.sep.ge, slB HPV.out.code HPV.out.ctx.le HFR5.out HPV.out.sep.ge, HM5.out.go (by rw [HH5.out]; omega), HF5.out, HB5.out, HSEP5.out, HPV.out.fnl, BP.out.sok, BP.out.fok, HPV.out.deep⟩)
    have hfL := Nat.le_trans BP.out.fuel hqE
    have HF5w := Lib.hid (FrR.trans HFV.out HFR5.out (fun k hk => by rcases HINw.out k hk with h | h; exact Or.inl h; exact Or.inr (by omega)))
    have HIN5w := Lib.hid (show ∀ j, j ∈ GB M Ft5 c Fv Fo5 (some y) → j ∈ GB M Ft c Fv Fo (some y) ∨ X < j from fun j hj => by
      rcases HIN5.out j hj with h | h
      · exact HINw.out j h
      · exact Or.inr (by omega))
    obtain ⟨V5, hV5⟩ : ∃ V5, V5 = w5.alloc (.cells #[.int .i64 0, .int .i64 n5] 89) := ⟨_, rfl⟩
    have bV5 : Below w5.heap.size w5 V5 := by rw [hV5]; exact belA
    have HPV5 := Lib.hid (HP5.out.keep bV5)
    have HFV5 := Lib.hid (FrR.trans HF5w.out (Fr.of_below (F := []) bV5) (by simp))
    have HEV5 := Lib.hid (show EndB V5 X from below_at bV5 hX5 HE5.out)
    have HSV5 := Lib.hid (show StB V5 S 8 s1 (.slice A2 n2 c2) (.slice A3 n3 c3) (.slice A4 n4 c4) from below_at bV5 (blk_size HS5.out) HS5.out)
    have hXV5 : X < V5.heap.size := by have := bV5.size; omega
    clear HRX HRET HM5 HF5 HB5 HSEP5 HFR5 HIN5 HV5 HP5 HF5w HE5 HS5 bV5 b0 b1 bz0 bz1 hX5
    go_upto_region 32 with fail
    rw [← hV5]
    clear hV5
    obtain ⟨q0, q1, q2, q3, q4, hSV5⟩ := HSV5.out.cells
    go_wp2_with fail
    refine (HSt.out L hLN B c fn F y V5 Ft5 Fv Fo5 vt5 vv vo5 deep rB.2.1 rB.2.2 8 s1 A2 A3 A4 n2 c2 n3 c3 n4 c4 (8, s1, ts, th, el) HPV5.out hfL HMEM.out rfl rfl i0 i1 (slB G2.out hB HFV5.out HPRE.out.sep.ge) (slB G3.out hB HFV5.out HPRE.out.sep.ge) (slB G4.out hB HFV5.out HPRE.out.sep.ge)).mono ?_
    rw [HRN.out]
    rintro e w7 hret
    have HRET := Lib.hid hret
    obtain ⟨n7, vt7, vo7, Ft7, Fo7, rfl, in7, _, _, _, _, HFR7, _, _⟩ := hret
    have HE7 := Lib.hid (show EndB w7 X from fr_atX HFR7.out (fun h => by rcases HIN5w.out X h with h | h; exact HXG.out h; omega) HEV5.out)
    obtain ⟨h7, hh7⟩ : ∃ h7, r.1.1 = h7 := ⟨_, rfl⟩
    have HH7 := Lib.hid hh7
    rw [hh7]
    clear hh7 q0 q1 q2 q3 q4
    obtain ⟨b0, b1, bz0, bz1, hX7⟩ := HE7.out.cells
    go_wp2_with fail
    refine bodyPost_ret (v := .agg #[.int .i64 h7, .int .i64 n7]) (by simp [results, Try.results103, go_sem, b0, b1, hX7]) rfl ?_
    rw [← HH7.out]
    exact RetStS.put HRET.out HFV5.out HIN5w.out hwX hXV5 HXG.out (by exact frcA)
  · have HRX := Lib.hid (show ((0, 0), rE.2.2.1, rE.2.2.2) = r from by rw [← HRT.out]; simp [bStmtE])
    clear HRT
    go_wp2_with fail
    refine bodyPost_ret (v := .agg #[.int .i64 0, .int .i64 0]) (by simp [results, Try.results103, go_sem, b0, b1, hXV]) rfl ?_
    rw [← HRX.out]
    exact RetStS.fin HPV.out (by unfold I64; omega) (by omega) HFV.out HINw.out hwX hB HXG.out (by exact frcA)
end Go.Proofs.Ytgoinmdnpaknpaa
