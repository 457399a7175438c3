/- Programs done with fuel: a call. The reference's walk. -/
import Derived.Test.YtgoinmdnpaknpaaBigZ
set_option linter.unusedVariables false
set_option linter.unusedSimpArgs false
set_option maxRecDepth 100000
namespace Go.Proofs.Ytgoinmdnpaknpaa
open Go.RowKit
attribute [local irreducible] wpList
set_option maxHeartbeats 16000000 in
theorem specCall {M : MCfg} {C : BCfg} {K : Nat} (G : CfgG C) (hN : K ≤ 600) (hBl : ∀ L, L + 1 = K → BlockJ M C L) (hCl : ∀ L, L + 1 = K → CallJ M C L) : CallJ M C K := by
  intro B fn y b w Ft vt deep st A n cc given hctx hm hy hb hnd hge hfn hlen hsm hs hfu hdeep hsl hAR
  have HBL0 := Lib.hid hBl
  have HCL0 := Lib.hid hCl
  have GG := Lib.hid G
  have HCTX := Lib.hid hctx
  have HM := Lib.hid hm
  have HY := Lib.hid hy
  have HB := Lib.hid hb
  have HND := Lib.hid hnd
  have HGE := Lib.hid hge
  have HSM := Lib.hid hsm
  have HS := Lib.hid hs
  have HSL := Lib.hid hsl
  have HAR := Lib.hid hAR
  have HLEN := Lib.hid hsl.lenEq
  obtain ⟨r, hr⟩ : ∃ r, (big C K).1 fn given (deep + 1) b st = r := ⟨_, rfl⟩
  have HR := Lib.hid hr
  rw [hr]
  have hB := hctx.le
  have hRlt := blk_size hm.run
  have hylt := hy.lt
  have hFlt := Lib.hid hm.tr.lt
  clear hBl hCl G hctx hm hy hb hnd hge hsm hs hsl hAR hr
  go_enter Try.func54, Try.ntmps54
  go_wp2_with fail
  obtain ⟨W, hW⟩ : ∃ W, W = w.alloc (.cells #[.int .i64 0, .int .i64 0] 89) := ⟨_, rfl⟩
  obtain ⟨X, hX⟩ : ∃ X, w.heap.size = X := ⟨_, rfl⟩
  have hbW : Below w.heap.size w W := by rw [hW]; exact belA
  have hXW : W.heap.size = X + 1 := by rw [hW, ← hX]; simp
  have HEB := Lib.hid (show EndB W X from by rw [hW]; exact alloc_new' hX)
  have HF0 := Lib.hid (show Fr [] w W from Fr.of_below hbW)
  have HM0 := Lib.hid (HM.out.fr HF0.out (by simp) (by simp))
  have HX := Lib.hid hX
  have HXN := Lib.hid (show X ∉ M.R :: (Ft ++ [y]) from fun h => by
    simp only [List.mem_cons, List.mem_append, List.mem_nil_iff, or_false] at h
    rcases h with h | h | h
    · omega
    · have := hFlt.out X h; omega
    · omega)
  rw [← hW, hX]
  clear hW hbW hX
  by_cases h0 : st.fuel = 0
  · have HRE := Lib.hid (show (0, (5, 0), b, st) = r from by rw [← HR.out]; exact (bCall_0 h0).symm)
    refine (specCost0 M C.most W vt st.used (h0 ▸ HM0.out.run)).mono ?_
    rintro e w2 ⟨rfl, rfl⟩
    obtain ⟨b0, b1, bz0, bz1, hXv⟩ := HEB.out.cells
    clear h0
    go_wp2_with fail
    refine bodyPost_ret (v := .tuple #[.int .i64 0, .agg #[.int .i64 5, .int .i64 0]]) (by simp [results, Try.results54, go_sem, b0, b1, hXv]) rfl ?_
    rw [← HRE.out]
    exact RetClS.fin (MwS.of HM0.out) (HY.out.fr HF0.out (by simp)) (by unfold I64; omega) (by unfold I64; omega) ⟨fun h => by omega, fun h => by omega⟩ (HF0.out.more (by simp)) (fun k hk => Or.inl hk) HND.out (Nat.le_of_eq HX.out) HXN.out (by exact frcA)
  obtain ⟨q, hq⟩ : ∃ q, st.fuel = q + 1 := ⟨st.fuel - 1, by omega⟩
  have HQ := Lib.hid hq
  obtain ⟨N, rfl⟩ : ∃ N, K = N + 1 := ⟨K - 1, by omega⟩
  have hBl := HBL0.out N rfl
  have hCl := HCL0.out N rfl
  unfold BlockJ at hBl
  unfold CallJ at hCl
  have HBL := Lib.hid hBl
  have HCL := Lib.hid hCl
  have hqN : q ≤ N := by omega
  have hq6 : q ≤ 600 := by omega
  have hrun : RunS M C.most W vt (q + 1) st.used := hq ▸ HM0.out.run
  have H0 := Lib.hid h0
  clear hBl hCl HBL0 HCL0 hq h0 hfu
  refine (specCost1 M C.most W vt q st.used hrun hq6).mono ?_
  rintro e w2 ⟨rfl, hR2, hf2⟩
  have HR2 := Lib.hid hR2
  have HFW2 := Lib.hid hf2
  have HF2 := Lib.hid (show Fr [M.R] w w2 from FrR.trans (HF0.out.more (F' := [M.R]) (by simp)) hf2 (fun k hk => Or.inl hk))
  have hRn := HND.out
  rw [List.nodup_cons] at hRn
  have hRt : ∀ k, k ∈ Ft → k ∉ [M.R] := not_one (fun h => hRn.1 (List.mem_append_left _ h))
  have hRy : y ∉ [M.R] := fun h => hRn.1 (List.mem_append_right _ (by rw [← List.mem_singleton.1 h]; simp))
  have HE2 := Lib.hid (show EndB w2 X from fr_atX hf2 (by have := HX.out; simp; omega) HEB.out)
  obtain ⟨b0, b1, bz0, bz1, hX2⟩ := HE2.out.cells
  have r4 := hR2.cell 4
  have HTR2 := Lib.hid (show OwnSl intR w2 3 Ft vt st.tr from HM.out.tr.fr HF2.out hRt)
  have HY2 := Lib.hid (HY.out.fr HF2.out hRy)
  clear hrun hR2 hf2 hRn hRt hRy HEB HM0
  by_cases hd : deep = C.most
  · have hdm : (deep : Int) + 1 > (C.most : Int) := by omega
    have HRE := Lib.hid (show (0, (4, 0), b, st) = r from by rw [← HR.out]; exact (bCall_1 H0.out (by omega)).symm)
    clear hd
    go_wp2_with fail
    refine bodyPost_ret (v := .tuple #[.int .i64 0, .agg #[.int .i64 4, .int .i64 0]]) (by simp [results, Try.results54, go_sem, b0, b1, hX2]) rfl ?_
    rw [← HRE.out]
    exact RetClS.fin ⟨q, ⟨HR2.out, HTR2.out⟩, fun h => by omega⟩ HY2.out (by unfold I64; omega) (by unfold I64; omega) ⟨fun h => by omega, fun h => by omega⟩ (HF2.out.more (fun k hk => by rw [List.mem_singleton.1 hk]; exact List.mem_cons_self ..)) (fun k hk => Or.inl hk) HND.out (Nat.le_of_eq HX.out) HXN.out (by exact frcA)
  have hdm : ¬ (deep : Int) + 1 > (C.most : Int) := by omega
  obtain ⟨bf, of, f0, f1, A2, n2, c2, s2, A3, n3, c3, s3, hA, _, hbf, hfe, _, _, hbody, hstm, d0, d1, d2, d3⟩ := Func_at HCTX.out.pg (k := fn) (by have := HCTX.out.pg.lenEq; omega)
  have hfc : C.fn fn = (f0, f1, s2, s3) := by rw [fnAt hfn]; exact hfe
  have hvb := (GG.out.funcs _ (fn_mem hfn).1).vars
  have hpb := (GG.out.funcs _ (fn_mem hfn).1).par
  rw [hfc] at hvb hpb hlen
  simp only at hvb hpb hlen
  obtain ⟨v, rfl⟩ := Int.eq_ofNat_of_zero_le (show 0 ≤ f1 by omega)
  simp only [Int.toNat_natCast] at hlen
  have hvf : (C.fn fn).2.1.toNat = v := by rw [hfc]; simp
  have HVF := Lib.hid hvf
  have HFB := Lib.hid (show (C.fn fn).2.2.1 = s2 from by rw [hfc])
  have HBODY := Lib.hid hbody
  have HSTM := Lib.hid (show Sl StmtR w 0 B A3 n3 c3 (C.fn fn).2.2.2 from by rw [hfc]; exact hstm)
  have hbR : bf ∉ [M.R] := fun h => by have := HGE.out M.R (List.mem_cons_self ..); rw [List.mem_singleton.1 h] at hbf; omega
  have hr0 : w2.cell? ⟨M.R, 0, none⟩ = some (.slice (some ⟨bf, of, none⟩) M.np M.cp) := by rw [← hA]; exact HR2.out.cell 0
  have e0 := cell_fr HF2.out hbR d0
  have e1 := cell_fr HF2.out hbR d1
  have e2 := cell_fr HF2.out hbR d2
  have e3 := cell_fr HF2.out hbR d3
  have hnp : (fn : Int) < (M.np : Int) := by have := HCTX.out.pg.lenEq; omega
  have HRE := Lib.hid (show callEnd (big C N).1 (deep + 1) (bBlock (big C N).2 (C.fn fn) (deep + 1) s2 ⟨varsOf given v, [], 0, b⟩ { st with fuel := q }) = r from by
    rw [← HR.out, bCall_2 H0.out (by omega) hvf, HFB.out, HQ.out, Nat.add_sub_cancel])
  obtain ⟨inf, hif, iz0, iz1, iz2⟩ := info_parts Try.infoIntB
  have HIF := Lib.hid hif
  have IZ0 := Lib.hid iz0
  have IZ1 := Lib.hid iz1
  have IZ2 := Lib.hid iz2
  have hv6 : v ≤ 6 := by omega
  have hdl : deep + 1 ≤ C.most := by omega
  have HC12 := GG.out.most
  obtain ⟨vF, hvF⟩ : ∃ F : FCf, F = ⟨f0, v, A2, n2, c2, A3, n3, c3⟩ := ⟨_, rfl⟩
  have HVFF := Lib.hid hvF
  clear hd hA hfe hfc hvb hpb hvf hbody hstm hif iz0 iz1 iz2 d0 d1 d2 d3 hdeep hvF
  go_upto_region 6 with fail
  obtain ⟨w3, hw3⟩ : ∃ w3, w3 = w2.alloc (.cells #[.int .i64 f0, .int .i64 v, .slice A2 n2 c2, .slice A3 n3 c3] 97) := ⟨_, rfl⟩
  have hb3 : Below w2.heap.size w2 w3 := by rw [hw3]; exact belA
  have hz3 : w3.heap.size = w2.heap.size + 1 := by rw [hw3]; simp
  have hSF := Lib.hid (show ∀ V, Below w3.heap.size w3 V → V.cell? ⟨w2.heap.size, 0, none⟩ = some (.int .i64 f0) ∧ V.cell? ⟨w2.heap.size, 1, none⟩ = some (.int .i64 v) ∧ V.cell? ⟨w2.heap.size, 2, none⟩ = some (.slice A2 n2 c2) ∧ V.cell? ⟨w2.heap.size, 3, none⟩ = some (.slice A3 n3 c3) from fun V hV => ⟨below_cell hV (by rw [hw3]; simp [go_sem]), below_cell hV (by rw [hw3]; simp [go_sem]), below_cell hV (by rw [hw3]; simp [go_sem]), below_cell hV (by rw [hw3]; simp [go_sem])⟩)
  have HB3 := Lib.hid hb3
  have HZ3 := Lib.hid hz3
  rw [← hw3]
  clear hw3 hr0 e0 e1 e2 e3 r4 hb3 b0 b1 bz0 bz1 hz3
  refine wp_region_noPanic ?_
  refine wp_region_hd (S := (fun V => V.cell? ⟨w2.heap.size, 0, none⟩ = some (.int .i64 f0) ∧ V.cell? ⟨w2.heap.size, 1, none⟩ = some (.int .i64 v) ∧ V.cell? ⟨w2.heap.size, 2, none⟩ = some (.slice A2 n2 c2) ∧ V.cell? ⟨w2.heap.size, 3, none⟩ = some (.slice A3 n3 c3))) 9 (by kernel_rfl) (by kernel_rfl) (hSF.out _ (by exact beloA)) (fun hR0 => ?_)
  refine takeH 0 ?_
  refine takeH 1 ?_
  refine takeH 2 ?_
  refine takeH 4 ?_
  refine takeH 5 ?_
  refine wpAnyH_ready (rs := [3]) (by kernel_rfl) (by simp) ?_
  refine AllReadyH.cons (i := 3) rfl (fun K hK => ?_) AllReadyH.nil
  go_simp
  refine upon_makeZ w3.drew 37 3 inf (.int .i64 0) 1 Try.underlying37 HIF.out IZ0.out IZ1.out v (by rw [IZ2.out]; omega) (by unfold maxLen; omega) ?_
  intro w4 hown hgr
  have hb4 : Below w3.heap.size w3 w4 := (show Below w3.heap.size w3 w3.drew by exact beloA).grown hgr (Nat.le_refl _) (fun k hk => by cases hk)
  rw [Nat.mul_one, show (Value.int IntKind.i64 0).cells = #[.int .i64 0] from rfl] at hown
  have hg4 := made_heap hown
  have hgw4 : w3.heap.size < w4.heap.size := blk_size hg4
  have HG4 := Lib.hid hg4
  have HB4 := Lib.hid hb4
  refine hK.out _ _ (hSF.out _ hb4) (fun hR3 => ?_)
  clear hK K hown hgr hg4 hb4
  try simp only [Act.put, List.getElem_toArray, List.getElem_cons_zero, List.getElem_cons_succ, List.setIfInBounds_toArray, List.set_cons_zero, List.set_cons_succ]
  refine takeH 6 ?_
  refine wpAnyH_ready (rs := [7]) (by kernel_rfl) (by simp) ?_
  refine AllReadyH.cons (i := 7) rfl (fun K hK => ?_) AllReadyH.nil
  go_simp
  refine hK.out _ _ (hSF.out _ (HB4.out.trans ((show Below w4.heap.size w4 _ by exact belA).mono HB4.out.size))) (fun hR7 => ?_)
  clear hK K
  try simp only [Act.put, List.getElem_toArray, List.getElem_cons_zero, List.getElem_cons_succ, List.setIfInBounds_toArray, List.set_cons_zero, List.set_cons_succ]
  refine takeH 8 ?_
  refine wpAnyH_done (by kernel_rfl) ?_ _
  refine NoPanic.normal ?_
  clear hR0 hR3 hR7
  obtain ⟨g, hg⟩ : ∃ g, w3.heap.size = g := ⟨_, rfl⟩
  obtain ⟨c, hc⟩ : ∃ c, w4.heap.size = c := ⟨_, rfl⟩
  obtain ⟨w5, hw5⟩ : ∃ w5, w5 = w4.alloc (.cells #[.int .i64 f0, .int .i64 v, .slice A2 n2 c2, .slice A3 n3 c3, .slice (some ⟨g, 0, none⟩) v v, .slice none 0 0, .int .i64 0, .int .i64 ((deep : Int) + 1), .pointer (some ⟨y, 0, none⟩)] 124) := ⟨_, rfl⟩
  have hgdr : w3.drew.heap.size = g := hg
  have hg4' : w4.heap[g]? = some (.cells (List.replicate v (Value.int .i64 0)).toArray 3 (0, 0)) := by rw [← hgdr]; exact HG4.out
  have hb5 : Below w4.heap.size w4 w5 := by rw [hw5]; exact belA
  have hcl5 : ClS w5 c vF (.slice (some ⟨g, 0, none⟩) v v) (.slice none 0 0) 0 (deep + 1) y := by rw [hw5, HVFF.out]; exact alloc_new' hc
  have hF5 : Fr [M.R] w w5 := FrR.trans HF2.out (Fr.of_below (F := []) (below_then HB3.out (below_then HB4.out hb5))) (by simp)
  have hg5 : w5.heap[g]? = some (.cells (List.replicate v (Value.int .i64 0)).toArray 3 (0, 0)) := below_at hb5 (by rw [← hg]; exact hgw4) hg4'
  have hwg : w.heap.size < g := by have := HF2.out.size; have := HZ3.out; omega
  have hgc : g < c := by omega
  have hcz : c < w5.heap.size := by rw [hw5, ← hc]; simp
  have hsl5 : Sl intR w5 0 w.heap.size A n cc given := by
    obtain ⟨e1, e2, e3, e4⟩ := HSL.out
    refine ⟨e1, e2, e3, fun h => ?_⟩
    obtain ⟨b', o', rfl, l1, l2, l3⟩ := e4 h
    refine ⟨b', o', rfl, l1, l2, fun i hi => ?_⟩
    obtain ⟨cs, h1, h2⟩ := l3 i hi
    obtain ⟨rfl, h1b⟩ := h1
    exact ⟨_, ⟨rfl, h1b⟩, fun j hj => by
      rw [World.cell?_of_block (w := w) (a := ⟨b', o' + i * intR.size + j, none⟩) (hF5.block b' l2 (by simpa using HAR.out _ rfl))]
      exact h2 j hj⟩
  have HSL5 := Lib.hid hsl5
  have HG5 := Lib.hid hg5
  have HCL5 := Lib.hid hcl5
  have HF5 := Lib.hid hF5
  have HSZ := Lib.hid (show (Try.prog.info? 3).map (·.size) = some 1 from by rw [HIF.out]; simp [IZ1.out])
  have hpv : n ≤ v := by have := HLEN.out; omega
  have hsf := hSF.out w5 (below_then HB4.out hb5)
  have HSF5 := Lib.hid hsf
  have k4 := hcl5.cell 4
  have HE5 := Lib.hid (show EndB w5 X from below_at (below_then HB3.out (below_then HB4.out hb5)) hX2 HE2.out)
  have hR5 : RunS M C.most w5 vt q st.used := RunS.fr HR2.out (Fr.of_below (F := []) (below_then HB3.out (below_then HB4.out hb5))) (by simp)
  have HR5 := Lib.hid hR5
  have hFb : w2.heap.size < g := by have := HZ3.out; omega
  go_upto_region 7 with fail
  try rw [hgdr]
  try rw [hg]
  try rw [hc]
  rw [← hw5]
  clear hw5 hgdr hg4' hb5 hcl5 hF5 hg5 hsl5 hsf hgw4 hR5 HG4 HB4 HB3 HZ3 hc hg
  go_wp2_with (refine wpl_copyInts rfl (.tmp 49) (.tmp 50) 37 37 rfl 3 Try.underlying37 HSZ.out g v n cc 0 w.heap.size A given rfl rfl HSL5.out hpv 3 HG5.out ?_)
  intro w6 kc hg6 hf6
  have hcl6 : ClS w6 c vF (.slice (some ⟨g, 0, none⟩) v v) (.slice none 0 0) 0 (deep + 1) y := HCL5.out.fr hf6 (by simp; omega)
  have hF6 : Fr [M.R] w w6 := FrR.trans HF5.out hf6 (fun k hk => Or.inr (by rw [List.mem_singleton.1 hk]; omega))
  have hR6 : RunS M C.most w6 vt q st.used := HR5.out.fr hf6 (by simp; omega)
  have hcode : Sl StmtR w 0 B vF.As vF.ns vF.cs (C.fn fn).2.2.2 := by rw [HVFF.out]; exact HSTM.out
  have hpre := callStartS (c := c) GG.out HCTX.out hcode HM.out HY.out HB.out HND.out HGE.out hfn HVF.out hlen HSM.out HS.out HQ.out hdl hR6 hcl6 (vars_own hg6 HSM.out hlen (by omega)) hF6 (by omega) hgc
  have HPRE := Lib.hid hpre
  have HF6 := Lib.hid hF6
  obtain ⟨u0, u1, u2, u3⟩ := HSF5.out
  have t2 := cell_fr hf6 (by simp; omega) u2
  have HE6 := Lib.hid (show EndB w6 X from fr_atX hf6 (by have := HX.out; simp; omega) HE5.out)
  have hcw : w.heap.size ≤ c := by omega
  have hcz6 : c < w6.heap.size := by have := hf6.size; omega
  clear hpre hF6 hR6 hcl6 hf6 hg6 HG5 HSL5 HCL5 HE5 HSF5 HR5 u0 u1 u2 u3 k4 hcode hX2
  go_wp2_with fail
  obtain ⟨rB, hrB⟩ : ∃ rB, bBlock (big C N).2 (C.fn fn) (deep + 1) s2 ⟨varsOf given v, [], 0, b⟩ { st with fuel := q } = rB := ⟨_, rfl⟩
  have HRB := Lib.hid hrB
  have HRC := Lib.hid (show callEnd (big C N).1 (deep + 1) rB = r from by rw [← hrB]; exact HRE.out)
  have hns : ∀ k, k ∈ s2 → 0 ≤ k ∧ k < ((C.fn fn).2.2.2.length : Int) := by rw [← HFB.out]; exact (GG.out.funcs _ (fn_mem hfn).1).body
  have BP := Lib.hid (show StmtP C 600 (C.fn fn).2.1 { st with fuel := q } ⟨varsOf given v, [], 0, b⟩ rB from by
    rw [← hrB]
    exact block_ok GG.out (big_ok GG.out N (by omega)).2 (fn_mem hfn).1 s2 hns HPRE.out.fok HPRE.out.sok hqN)
  have HNS := Lib.hid hns
  clear hrB hns
  refine (HBL.out B c fn vF y w6 Ft [g] [] vt _ _ (deep + 1) _ _ A2 n2 c2 s2 HPRE.out hqN HNS.out (slB HBODY.out hB HF6.out (fun k hk => by rw [List.mem_singleton.1 hk]; exact HGE.out _ (List.mem_cons_self ..)))).mono ?_
  rw [HRB.out]
  rintro e w7 ⟨nv, vt', vo', Ft', Fo', rfl, inv, HV, HM7, HF7, HB7, HFR7, HIN7, HSEP7⟩
  obtain ⟨h4, hh4⟩ : ∃ h4, rB.1.1 = h4 := ⟨_, rfl⟩
  have HH4 := Lib.hid hh4
  have hbh := BP.out.how.1
  rw [hh4] at HM7 HV hbh ⊢
  have hmemG : ∀ k, k ∈ GB M Ft c [g] [] (some y) ↔ k = M.R ∨ k ∈ Ft ∨ k = c ∨ k = g ∨ k = y := fun k => by unfold GB; simp
  have HFRW := Lib.hid (show Fr (M.R :: (Ft ++ [y])) w w7 from FrR.trans (HF6.out.more (fun k hk => by rw [List.mem_singleton.1 hk]; exact List.mem_cons_self ..)) HFR7.out (fun k hk => by
    rcases (hmemG k).1 hk with rfl | h | rfl | rfl | rfl
    · exact Or.inl (List.mem_cons_self ..)
    · exact Or.inl (by simp [h])
    · exact Or.inr hcw
    · exact Or.inr (by omega)
    · exact Or.inl (by simp)))
  have HINW := Lib.hid (show ∀ k, k ∈ Ft' → k ∈ Ft ∨ w.heap.size ≤ k from fun k hk => by
    obtain ⟨p1, p2, p3, p4, p5, p6, p7, p8, p9, p10⟩ := HSEP7.out.parts
    rcases HIN7.out k (by unfold GB; simp [hk]) with h | h
    · rcases (hmemG k).1 h with rfl | h | rfl | rfl | rfl
      · exact absurd hk p1
      · exact Or.inl h
      · exact Or.inr hcw
      · exact Or.inr (by omega)
      · exact absurd hk (p10 _ rfl).2.2.1
    · exact Or.inr (Nat.le_trans HF6.out.size h))
  have hX6 := blk_size HE6.out
  have HXG := Lib.hid (show X ∉ GB M Ft' c [g] Fo' (some y) from fun h => by
    rcases HIN7.out X h with h | h
    · rcases (hmemG X).1 h with h | h | h | h | h
      · exact HXN.out (by simp [h])
      · exact HXN.out (by simp [h])
      · have := HX.out; omega
      · have := HX.out; omega
      · exact HXN.out (by simp [h])
    · omega)
  have HE7 := Lib.hid (show EndB w7 X from fr_atX HFR7.out (fun h => by
    rcases (hmemG X).1 h with h | h | h | h | h
    · exact HXN.out (by simp [h])
    · exact HXN.out (by simp [h])
    · have := HX.out; omega
    · have := HX.out; omega
    · exact HXN.out (by simp [h])) HE6.out)
  obtain ⟨E, hE⟩ : ∃ E, w7.heap.size = E := ⟨_, rfl⟩
  obtain ⟨V7, hV7⟩ : ∃ V7, V7 = w7.alloc (.cells #[.int .i64 h4, .int .i64 nv] 89) := ⟨_, rfl⟩
  have bV7 : Below w7.heap.size w7 V7 := by rw [hV7]; exact belA
  have HEE := Lib.hid (show V7.heap[E]? = some (.cells #[.int .i64 h4, .int .i64 nv] 89) from by rw [hV7]; exact alloc_new' hE)
  have HBV := Lib.hid bV7
  have HEL := Lib.hid (show ∀ k, k ∈ GB M Ft' c [g] Fo' (some y) → k < E from fun k hk => by
    unfold GB at hk
    simp only [List.mem_cons, List.mem_append, Option.toList_some, List.mem_nil_iff, or_false] at hk
    obtain ⟨ff, hm1, _⟩ := HM7.out
    rw [← hE]
    rcases hk with rfl | hk | rfl | rfl | hk | rfl
    · exact blk_size hm1.run
    · exact hm1.tr.lt k hk
    · exact blk_size HF7.out.cl
    · exact HF7.out.vars.lt k (by simp)
    · exact HF7.out.off.lt k hk
    · exact HB7.out.lt)
  have hEX : X < E := by have := blk_size HE7.out; omega
  have hEw : w.heap.size ≤ E := by have := HFRW.out.size; omega
  have y0 : V7.cell? ⟨E, 0, none⟩ = some (.int .i64 h4) := by rw [cell_of_row _ _ _ _ _ _ HEE.out]; rfl
  have y1 : V7.cell? ⟨E, 1, none⟩ = some (.int .i64 nv) := by rw [cell_of_row _ _ _ _ _ _ HEE.out]; rfl
  have yz0 : V7.frozen? ⟨E, 0, none⟩ = false := blk_frozen HEE.out 0
  have hEV : E < V7.heap.size := blk_size HEE.out
  clear hh4 hmemG t2 HE6 hX6 bV7
  go_upto_region 9 with fail
  rw [← hV7]
  clear hV7 hE
  obtain ⟨how, hhow⟩ : ∃ how, (if h4 = 0 then 1 else h4) = how := ⟨_, rfl⟩
  have HHOW := Lib.hid hhow
  go_upto_if 59 with fail
  go_cut [13] (fun cv wx => cv = .pointer (some ⟨c, 0, none⟩) ∧ Hid (wx.heap[E]? = some (.cells #[.int .i64 how, .int .i64 nv] 89)) ∧ Fr [E] V7 wx)
  case first =>
    by_cases hz : h4 = 0
    · have hhw : how = 1 := by rw [← hhow, if_pos hz]
      subst hz hhw
      clear hhow
      go_wp2_with fail
      go_meet
      case rel => exact ⟨rfl, Lib.hid (by rw [heapPut HEE.out]; rfl), by exact frcA⟩
    · have h40 : (h4 == 0) = false := beq_eq_false_iff_ne.2 hz
      have hhw : h4 = how := by rw [← hhow, if_neg hz]
      subst hhw
      clear hz hhow
      go_wp2_with fail
      go_meet
      case rel => exact ⟨rfl, HEE, Fr.refl _ _⟩
  case rest =>
    obtain ⟨rfl, HEC, hfc⟩ := hcut
    obtain ⟨wb, hwb⟩ : ∃ wb, wb = wc := ⟨_, rfl⟩
    subst hwb
    have HFE := Lib.hid (show Fr [E] w7 wb from FrR.trans (Fr.of_below HBV.out) hfc (fun k hk => Or.inl hk))
    clear y0 y1 yz0 hEV hfc HEE
    have y0 : wb.cell? ⟨E, 0, none⟩ = some (.int .i64 how) := by rw [cell_of_row _ _ _ _ _ _ HEC.out]; rfl
    have y1 : wb.cell? ⟨E, 1, none⟩ = some (.int .i64 nv) := by rw [cell_of_row _ _ _ _ _ _ HEC.out]; rfl
    have hEV : E < wb.heap.size := blk_size HEC.out
    have hnE : ∀ k, k ∈ GB M Ft' c [g] Fo' (some y) → k ∉ [E] := fun k hk h2 => by have := HEL.out k hk; rw [List.mem_singleton.1 h2] at this; omega
    have HEX := Lib.hid (show EndB wb X from fr_atX HFE.out (by simp; omega) HE7.out)
    obtain ⟨b0, b1, bz0, bz1, hXc⟩ := HEX.out.cells
    have HFRC := Lib.hid (FrR.trans HFRW.out HFE.out (fun k hk => Or.inr (by rw [List.mem_singleton.1 hk]; exact hEw)))
    have HMC := Lib.hid (show MwS M C wb vt' Ft' h4 rB.2.2 from by
      obtain ⟨ff, hm1, hm2⟩ := HM7.out
      exact ⟨ff, hm1.fr HFE.out (hnE _ (by unfold GB; simp)) (fun k hk => hnE k (by unfold GB; simp [hk])), hm2⟩)
    have HFC := Lib.hid (HF7.out.fr HFE.out (hnE _ (by unfold GB; simp)) (fun k hk => hnE k (by unfold GB; simp at hk ⊢; simp [hk])) (fun k hk => hnE k (by unfold GB; simp [hk])))
    have HBC := Lib.hid (HB7.out.fr HFE.out (hnE _ (by unfold GB; simp)))
    have HXC := Lib.hid (show X ∉ M.R :: (Ft' ++ [y]) from fun h => HXG.out (by
      simp only [List.mem_cons, List.mem_append, List.mem_nil_iff, or_false] at h
      unfold GB
      rcases h with h | h | h <;> simp [h]))
    have hXE : ¬ E = X := by omega
    clear hnE HM7 HF7 HB7 HFRW HE7
    by_cases hb4 : 4 ≤ how
    · have hh : h4 = how := by rw [← hhow] at hb4 ⊢; split at hb4 <;> omega
      have HRX := Lib.hid (show (0, (how, rB.1.2), rB.2.1.by_, rB.2.2) = r from by rw [← HRC.out]; unfold callEnd; rw [if_pos (by rw [HH4.out, hh]; exact hb4), ← hh, ← HH4.out])
      have hge : how ≥ 4 := hb4
      rw [hh] at HMC HV
      have iz : I64 0 := by unfold I64; omega
      have HB4 := Lib.hid hb4
      clear hb4 hhow hbh hh
      go_upto_region 12 with fail
      refine wp_region_noPanic ?_
      refine wp_region_hd (S := (fun V' => V'.cell? ⟨E, 0, none⟩ = some (.int .i64 how) ∧ V'.cell? ⟨E, 1, none⟩ = some (.int .i64 nv))) 3 (by kernel_rfl) (by kernel_rfl) ⟨y0, y1⟩ (fun hR0 => ?_)
      refine takeH 0 ?_
      refine takeH 1 ?_
      refine wpAnyH_ready (rs := [2]) (by kernel_rfl) (by simp) ?_
      refine AllReadyH.cons (i := 2) rfl (fun K hK => ?_) AllReadyH.nil
      go_simp
      refine hK.out _ _ ⟨cell_fr (show Fr [X] wb _ by exact frcA) (by simpa using hXE) y0, cell_fr (show Fr [X] wb _ by exact frcA) (by simpa using hXE) y1⟩ (fun hR2 => ?_)
      clear hK K
      try simp only [Act.put, List.getElem_toArray, List.getElem_cons_zero, List.getElem_cons_succ, List.setIfInBounds_toArray, List.set_cons_zero, List.set_cons_succ]
      refine wpAnyH_done (by kernel_rfl) ?_ _
      refine NoPanic.normal ?_
      clear hR0 hR2
      go_wp2_with fail
      refine bodyPost_ret (v := .tuple #[.int .i64 0, .agg #[.int .i64 how, .int .i64 nv]]) (by simp [results, Try.results54, go_sem, b0, b1, hXc]) rfl ?_
      have h9 := HB4.out
      rw [← HRX.out]
      exact RetClS.fin HMC.out HBC.out iz inv ⟨fun h => by omega, fun h => by omega⟩ HFRC.out HINW.out (sep_ndS HSEP7.out) (Nat.le_of_eq HX.out) HXC.out (by exact frcA)
    have hw13 : 1 ≤ how ∧ how ≤ 3 := by rw [← hhow] at hb4 ⊢; split at hb4 <;> omega
    have h43 : h4 < 4 := by rw [← hhow] at hb4; split at hb4 <;> omega
    have hb4' : ¬ how ≥ 4 := hb4
    clear hb4
    obtain ⟨xb, hxb⟩ : ∃ xb, wb.heap.size = xb := ⟨_, rfl⟩
    obtain ⟨V8, hV8⟩ : ∃ V8, V8 = wb.alloc (.cells #[.int .i64 how, .int .i64 nv, .int .i64 1] 94) := ⟨_, rfl⟩
    have bV8 : Below wb.heap.size wb V8 := by rw [hV8]; exact belA
    have HEN := Lib.hid (show EnS V8 xb how nv 1 from by rw [hV8]; exact alloc_new' hxb)
    have HB8 := Lib.hid bV8
    have HW13 := Lib.hid hw13
    have H43 := Lib.hid h43
    have HXB := Lib.hid hxb
    have n0 : V8.cell? ⟨xb, 0, none⟩ = some (.int .i64 how) := HEN.out.cell 0
    have n2 : V8.cell? ⟨xb, 2, none⟩ = some (.int .i64 1) := HEN.out.cell 2
    have nz2 : V8.frozen? ⟨xb, 2, none⟩ = false := blk_frozen HEN.out 2
    have hxb8 : xb < V8.heap.size := blk_size HEN.out
    have e08 := below_cell bV8 y0
    have hEV8 : E < V8.heap.size := by have := bV8.size; omega
    go_upto_region 14 with fail
    rw [← hV8]
    clear hV8 bV8 hxb y0 y1 hhow hw13 h43 hEV
    go_upto_if 70 with fail
    go_cut [15] (fun xv wx => xv = .pointer (some ⟨xb, 0, none⟩) ∧ Hid (EnS wx xb how nv (if (how == 3) = true then 3 else 1)) ∧ Fr [xb] V8 wx)
    case first =>
      by_cases h3 : how = 3
      · have h3b : (how == 3) = true := by rw [h3]; rfl
        have H3 := Lib.hid h3b
        clear h3
        go_wp2_with fail
        go_meet
        case rel => exact ⟨rfl, Lib.hid (by rw [if_pos H3.out]; exact HEN.out.putBase 3), by exact frcA⟩
      · have h3b : (how == 3) = false := beq_eq_false_iff_ne.2 h3
        have H3 := Lib.hid h3b
        clear h3
        go_wp2_with fail
        go_meet
        case rel => exact ⟨rfl, Lib.hid (by rw [if_neg (by rw [H3.out]; simp)]; exact HEN.out), Fr.refl _ _⟩
    case rest =>
      obtain ⟨rfl, HEN9, hf9⟩ := hcut
      have HF9 := Lib.hid (show Fr [xb] wb wc from FrR.trans (Fr.of_below HB8.out) hf9 (fun k hk => Or.inl hk))
      clear n0 n2 nz2 hxb8 e08 hEV8 hf9 HEN b0 b1 bz0 bz1
      have HLB := Lib.hid (show ∀ k, k ∈ GB M Ft' c [g] Fo' (some y) → k < xb from fun k hk => by have := HEL.out k hk; have := HXB.out; have := blk_size HEC.out; omega)
      have hsub : ∀ k, k ∈ GB M Ft' c [] Fo' (some y) → k ∈ GB M Ft' c [g] Fo' (some y) := fun k hk => by
        rcases memG.1 hk with h | h | h | h | h <;> (unfold GB; simp [h])
      have hnx : ∀ k, k ∈ GB M Ft' c [g] Fo' (some y) → k ∉ [xb] := fun k hk h2 => by have := HLB.out k hk; rw [List.mem_singleton.1 h2] at this; omega
      have hwx : w.heap.size ≤ xb := by have := HFRC.out.size; have := HXB.out; omega
      have hXx : X < xb := by have := blk_size HEX.out; have := HXB.out; omega
      have hfw := FrR.trans HFRC.out HF9.out (fun k hk => Or.inr (by rw [List.mem_singleton.1 hk]; exact hwx))
      have hsep8 : Sep M B Ft' c [] Fo' (some y) := ⟨by
        have h1 := HSEP7.out.nd
        unfold GB at h1 ⊢
        refine List.Sublist.nodup ?_ h1
        exact List.Sublist.cons_cons _ (List.Sublist.append (List.Sublist.refl _) (List.Sublist.cons_cons _ (by rw [List.nil_append]; exact List.sublist_append_right _ _))), fun k hk => HSEP7.out.ge k (hsub k hk)⟩
      obtain ⟨A8, n8, c8, hvo8, hn8⟩ := HFC.out.off.form
      subst hvo8
      obtain ⟨vv, hvv⟩ : ∃ vv, Value.slice (some ⟨g, 0, none⟩) v v = vv := ⟨_, rfl⟩
      have HO8 := Lib.hid (show OfS M C N B c fn vF y w Ft vv rB.2.1.res rB.2.1.by_ deep X xb (.slice A8 n8 c8) Fo' rB.2.1.off wc Ft' vt' ⟨how, rB.1.2, how == 3⟩ rB.2.2 from by
        refine ⟨HCTX.out.fr hfw HGE.out, (HMC.out.go H43.out).fr HF9.out (hnx _ (by unfold GB; simp)) (fun k hk => hnx k (by unfold GB; simp [hk])), by rw [← hvv]; exact HFC.out.cl.fr HF9.out (hnx _ (by unfold GB; simp)), ⟨nv, HEN9.out, fun h => ?_, inv⟩, HFC.out.off.fr HF9.out (fun k hk => hnx k (by unfold GB; simp [hk])), fun e he => ?_, BP.out.sok, Nat.le_trans BP.out.fuel hqN, BP.out.fok.off, hfw, HINW.out, HBC.out.fr HF9.out (hnx _ (by unfold GB; simp)), hsep8, hcw, ⟨hwx, fun h => by have := HLB.out _ (hsub _ h); omega⟩, fr_atX HF9.out (by simp; omega) HEX.out, ⟨Nat.le_of_eq HX.out, fun h => HXG.out (hsub _ h), by omega⟩, BP.out.fok.res, hB⟩
        · simp only at h
          exact HV.out (by have := HHOW.out; split at this <;> omega)
        · injection he with he
          subst he
          exact ⟨HW13.out, BP.out.how.2⟩)
      obtain ⟨qq, hqq⟩ : ∃ qq, bOff (big C N).1 (deep + 1) rB.2.1.off.reverse ⟨how, rB.1.2, how == 3⟩ rB.2.2 = qq := ⟨_, rfl⟩
      have HQQ := Lib.hid (show bOff (big C N).1 (deep + 1) (rB.2.1.off.take n8).reverse ⟨how, rB.1.2, how == 3⟩ rB.2.2 = qq from by rw [List.take_of_length_le (Nat.le_of_eq hn8.symm)]; exact hqq)
      have HRQ := Lib.hid (show (if qq.1.1 = 0 then ((if qq.2.1.how = 1 then rB.2.1.res else 0), (qq.2.1.how, qq.2.1.val), rB.2.1.by_, qq.2.2) else (0, qq.1, rB.2.1.by_, qq.2.2)) = r from by
        have h43 := H43.out
        have hce : callEnd (big C N).1 (deep + 1) rB = (if qq.1.1 = 0 then ((if qq.2.1.how = 1 then rB.2.1.res else 0), (qq.2.1.how, qq.2.1.val), rB.2.1.by_, qq.2.2) else (0, qq.1, rB.2.1.by_, qq.2.2)) := by
          unfold callEnd; rw [HH4.out, if_neg (by omega), HHOW.out, hqq]
        rw [← hce]; exact HRC.out)
      obtain ⟨x0, hx0⟩ : ∃ x0 : BEnd, (⟨how, rB.1.2, how == 3⟩ : BEnd) = x0 := ⟨_, rfl⟩
      obtain ⟨offs, hoffs⟩ : ∃ offs0, rB.2.1.off = offs0 := ⟨_, rfl⟩
      obtain ⟨st0, hst0⟩ : ∃ st0, rB.2.2 = st0 := ⟨_, rfl⟩
      obtain ⟨by1, hby1⟩ : ∃ by1, rB.2.1.by_ = by1 := ⟨_, rfl⟩
      obtain ⟨res1, hres1⟩ : ∃ res1, rB.2.1.res = res1 := ⟨_, rfl⟩
      rw [hx0, hoffs, hst0] at HO8 HQQ
      rw [hby1, hres1] at HO8 HRQ
      rw [hoffs] at hn8
      have HN8 := Lib.hid hn8
      have c5 := HO8.out.cl.cell 5
      have hn6 := HO8.out.off.sl.lenLe
      clear hsub hnx hfw hsep8 hvv hqq hx0 hoffs hst0 hby1 hres1 hn8 HMC HFC HBC HFRC HSEP7 HEX HEC HEN9 HF9 HV HHOW HW13 H43 BP HPRE HINW HIN7 HFR7 HXG HEL HLB HFE HXC HB8 inv hXE hEw hEX hb4'
      go_wp2_with fail
      go_loopw [16] (fun kv wr => ∃ (kk : Nat) (Ft1 : List Nat) (vt1 : Value) (x : BEnd) (st1 : BSt), kk ≤ n8 ∧ kv = .int .i64 ((kk : Int) - 1) ∧ Hid (OfS M C N B c fn vF y w Ft vv res1 by1 deep X xb (.slice A8 n8 c8) Fo' offs wr Ft1 vt1 x st1) ∧ Hid (bOff (big C N).1 (deep + 1) (offs.take kk).reverse x st1 = qq)) (fun kv _ => (intOf kv + 1).toNat)
      case atStart => exact ⟨n8, Ft', vt', x0, st0, Nat.le_refl _, rfl, HO8, HQQ⟩
      case round =>
        clear HO8 HQQ c5
        obtain ⟨kk, Ft1, vt1, x, st1, hkk, rfl, HO, HQ1⟩ := hrel
        obtain ⟨b0, b1, bz0, bz1, hXr⟩ := HO.out.end_.cells
        obtain ⟨ev, hen, hev, hev64⟩ := HO.out.en
        have HEN := Lib.hid hen
        have HEV := Lib.hid hev
        obtain ⟨xh, xv, xe⟩ := x
        simp only at hen
        have n0 : wr.cell? ⟨xb, 0, none⟩ = some (.int .i64 xh) := hen.cell 0
        have n1 : wr.cell? ⟨xb, 1, none⟩ = some (.int .i64 ev) := hen.cell 1
        have hxbr := blk_size hen
        clear hen hev
        by_cases hk0 : kk = 0
        · subst hk0
          have HRX := Lib.hid (show ((if xh = 1 then res1 else 0), (xh, xv), by1, st1) = r from by
            rw [← HRQ.out, ← HQ1.out]; simp [bOff])
          have k6 := HO.out.cl.cell 6
          have HXN1 := Lib.hid (show X ∉ M.R :: (Ft1 ++ [y]) from fun h => HO.out.Xnew.2.1 (by
            simp only [List.mem_cons, List.mem_append, List.mem_nil_iff, or_false] at h
            rcases h with h | h | h
            · exact memG.2 (Or.inl h)
            · exact memG.2 (by simp [h])
            · exact memG.2 (by simp [h])))
          have hXx := HO.out.Xnew.2.2
          have hXc : X ≠ c := fun e => HO.out.Xnew.2.1 (memG.2 (by simp [e]))
          have hxb1 : ¬ xb = X := fun e => hXx e.symm
          have hxc1 : ¬ c = X := fun e => hXc e.symm
          have iz : I64 0 := by unfold I64; omega
          have hr64 : I64 res1 := by have := HO.out.res32; unfold I32 at this; unfold I64; omega
          clear HQ1 HRQ hXx hXc
          by_cases hx1 : xh = 1
          · subst hx1
            go_upto_region 30 with fail
            refine wp_region_noPanic ?_
            refine wp_region_hd (S := (fun V' => V'.cell? ⟨c, 6, none⟩ = some (.int .i64 res1) ∧ V'.cell? ⟨xb, 0, none⟩ = some (.int .i64 1) ∧ V'.cell? ⟨xb, 1, none⟩ = some (.int .i64 ev))) 10 (by kernel_rfl) (by kernel_rfl) ⟨k6, n0, n1⟩ (fun hR0 => ?_)
            refine takeH 0 ?_
            refine takeH 1 ?_
            refine takeH 2 ?_
            refine takeH 3 ?_
            refine takeH 4 ?_
            refine takeH 5 ?_
            refine takeH 6 ?_
            refine takeH 7 ?_
            refine takeH 8 ?_
            refine wpAnyH_ready (rs := [9]) (by kernel_rfl) (by simp) ?_
            refine AllReadyH.cons (i := 9) rfl (fun K hK => ?_) AllReadyH.nil
            go_simp
            refine hK.out _ _ ⟨cell_fr (show Fr [X] wr _ by exact frcA) (by simpa using hxc1) k6, cell_fr (show Fr [X] wr _ by exact frcA) (by simpa using hxb1) n0, cell_fr (show Fr [X] wr _ by exact frcA) (by simpa using hxb1) n1⟩ (fun hR9 => ?_)
            clear hK K
            try simp only [Act.put, List.getElem_toArray, List.getElem_cons_zero, List.getElem_cons_succ, List.setIfInBounds_toArray, List.set_cons_zero, List.set_cons_succ]
            refine wpAnyH_done (by kernel_rfl) ?_ _
            refine NoPanic.normal ?_
            clear hR0 hR9
            go_wp2_with fail
            refine bodyPost_ret (v := .tuple #[.int .i64 res1, .agg #[.int .i64 1, .int .i64 ev]]) (by simp [results, Try.results54, go_sem, b0, b1, hXr]) rfl ?_
            rw [← HRX.out]
            exact RetClS.fin (MwS.of HO.out.m) HO.out.by_ hr64 hev64 ⟨fun _ => by simp, fun h => by omega⟩ HO.out.fr_ HO.out.inn (sep_ndS HO.out.sep) (Nat.le_of_eq HX.out) HXN1.out (by exact frcA)
          · have hx1b : (xh == 1) = false := beq_eq_false_iff_ne.2 hx1
            have HX1 := Lib.hid hx1
            clear hx1
            go_upto_region 31 with fail
            refine wp_region_noPanic ?_
            refine wp_region_hd (S := (fun V' => V'.cell? ⟨xb, 0, none⟩ = some (.int .i64 xh) ∧ V'.cell? ⟨xb, 1, none⟩ = some (.int .i64 ev))) 6 (by kernel_rfl) (by kernel_rfl) ⟨n0, n1⟩ (fun hR0 => ?_)
            refine takeH 0 ?_
            refine takeH 1 ?_
            refine takeH 2 ?_
            refine takeH 3 ?_
            refine takeH 4 ?_
            refine wpAnyH_ready (rs := [5]) (by kernel_rfl) (by simp) ?_
            refine AllReadyH.cons (i := 5) rfl (fun K hK => ?_) AllReadyH.nil
            go_simp
            refine hK.out _ _ ⟨cell_fr (show Fr [X] wr _ by exact frcA) (by simpa using hxb1) n0, cell_fr (show Fr [X] wr _ by exact frcA) (by simpa using hxb1) n1⟩ (fun hR9 => ?_)
            clear hK K
            try simp only [Act.put, List.getElem_toArray, List.getElem_cons_zero, List.getElem_cons_succ, List.setIfInBounds_toArray, List.set_cons_zero, List.set_cons_succ]
            refine wpAnyH_done (by kernel_rfl) ?_ _
            refine NoPanic.normal ?_
            clear hR0 hR9
            go_wp2_with fail
            refine bodyPost_ret (v := .tuple #[.int .i64 0, .agg #[.int .i64 xh, .int .i64 ev]]) (by simp [results, Try.results54, go_sem, b0, b1, hXr]) rfl ?_
            rw [← HRX.out]
            exact RetClS.fin (MwS.of HO.out.m) HO.out.by_ iz hev64 ⟨fun h => absurd h HX1.out, fun h => HEV.out h⟩ HO.out.fr_ HO.out.inn (sep_ndS HO.out.sep) (Nat.le_of_eq HX.out) HXN1.out (by exact frcA)
        obtain ⟨j, rfl⟩ : ∃ j, kk = j + 1 := ⟨kk - 1, by omega⟩
        have hjn : (j : Int) < (n8 : Int) := by omega
        have hjl : j < offs.length := by have := HN8.out; omega
        rcases (own_addr HO.out.off).2 with ⟨_, h, _⟩ | ⟨g8, rfl, _⟩
        · omega
        obtain ⟨b', o', he', _, _, hcj, _⟩ := HO.out.off.sl.int_at (k := j) (by omega)
        simp only [Option.some.injEq, Addr.mk.injEq, and_true] at he'
        obtain ⟨rfl, rfl⟩ := he'
        rw [Nat.zero_add] at hcj
        obtain ⟨hfo1, hfo2, hfo3⟩ := HO.out.offs _ (List.getElem_mem hjl)
        obtain ⟨f, hf⟩ : ∃ f : Nat, offs[j] = (f : Int) := ⟨(offs[j]).toNat, by omega⟩
        have HREV := Lib.hid (show (offs.take (j + 1)).reverse = (f : Int) :: (offs.take j).reverse from by
          rw [List.take_succ_eq_append_getElem hjl, hf]; simp)
        rw [hf] at hcj hfo2 hfo3
        have hfl : f < C.p.length := by omega
        have c5 := HO.out.cl.cell 5
        have hjw : IntKind.i64.wrap (j : Int) = (j : Int) := IntWalk.i64_in _ (by omega)
        obtain ⟨r9, hr9⟩ : ∃ r9, (big C N).1 f [] (deep + 1 + 1) (some ⟨xh, xv, xe⟩) st1 = r9 := ⟨_, rfl⟩
        have hcall : Calls Try.prog 54 #[.pointer (some ⟨M.R, 0, none⟩), .int .i64 f, .slice none 0 0, .int .i64 ((deep : Int) + 1 + 1), .pointer (some ⟨xb, 0, none⟩)] wr (RetClS M C xb wr Ft1 r9) := by
          have hsp := sepO HO.out.sep
          have hx2 := HO.out.xnew.2
          have hndc : (M.R :: (Ft1 ++ [xb])).Nodup := by
            rw [List.nodup_cons, List.nodup_append]
            exact ⟨by simp only [List.mem_append, List.mem_singleton, not_or]; exact ⟨hsp.1, fun e => hx2 (memG.2 (Or.inl e.symm))⟩, ownB_nd HO.out.m.tr, by simp, fun a ha d hd e => by rw [List.mem_singleton.1 hd] at e; exact hx2 (memG.2 (by simp [← e, ha]))⟩
          have h := HCL.out B f xb (some ⟨xh, xv, xe⟩) wr Ft1 vt1 (deep + 1) st1 none 0 0 [] HO.out.ctx HO.out.m HO.out.en HO.out.ok hndc (fun k hk => by
            simp only [List.mem_cons, List.mem_append, List.mem_nil_iff, or_false] at hk
            rcases hk with rfl | hk | rfl
            · exact HO.out.sep.ge _ (memG.2 (Or.inl rfl))
            · exact HO.out.sep.ge _ (memG.2 (by simp [hk]))
            · have := HO.out.xnew.1; have := HO.out.base; omega) hfl (by simp) (fun x hx => by cases hx) HO.out.sok HO.out.fuel hdl (Sl.nil_ ..) (fun a e => by cases e)
          rw [hr9] at h
          exact h
        have HCALL := Lib.hid hcall
        have HCP := Lib.hid (show CallP C 600 st1 (some ⟨xh, xv, xe⟩) r9 from by
          rw [← hr9]
          exact (big_ok GG.out N (by omega)).1 600 f [] (deep + 1 + 1) (some ⟨xh, xv, xe⟩) st1 hfl (by simp) (fun x hx => by cases hx) HO.out.ok HO.out.sok HO.out.fuel)
        obtain ⟨x, hxe⟩ : ∃ x : BEnd, (⟨xh, xv, xe⟩ : BEnd) = x := ⟨_, rfl⟩
        rw [hxe] at HO HQ1 HCP hr9
        have HST := Lib.hid (show (if r9.2.1.1 = 1 then bOff (big C N).1 (deep + 1) (offs.take j).reverse (r9.2.2.1.getD x) r9.2.2.2 else if r9.2.1.1 = 2 then bOff (big C N).1 (deep + 1) (offs.take j).reverse ⟨2, r9.2.1.2, (r9.2.2.1.getD x).ex⟩ r9.2.2.2 else if r9.2.1.1 = 3 then bOff (big C N).1 (deep + 1) (offs.take j).reverse ⟨3, 0, true⟩ r9.2.2.2 else (r9.2.1, r9.2.2.1.getD x, r9.2.2.2)) = qq from by
          rw [← HQ1.out, HREV.out]; exact (bOff_step (by simpa using hr9)).symm)
        clear hcall hr9 HQ1 HREV hfo1 hfo2 hfo3 hf hk0 b0 b1 bz0 bz1 n0 n1 hxe HEN HEV
        go_wp2_with fail
        refine HCALL.out.mono ?_
        rintro e wa ⟨xv9, nv9, vt9, Ft9, rfl, ix9, in9, HV9, HM9, HB9, HFR9, HIN9, HND9⟩
        obtain ⟨h9, hh9⟩ : ∃ h9, r9.2.1.1 = h9 := ⟨_, rfl⟩
        rw [hh9] at HM9 HV9
        rw [hh9]
        have HH9 := Lib.hid hh9
        clear hh9
        have hb9 : 1 ≤ h9 ∧ h9 ≤ 5 := by rw [← HH9.out]; exact HCP.out.how
        have HOC := Lib.hid (HO.out.called HFR9.out HIN9.out HND9.out)
        obtain ⟨Y, hY⟩ : ∃ Y, wa.heap.size = Y := ⟨_, rfl⟩
        obtain ⟨Va, hVa⟩ : ∃ Va, Va = wa.alloc (.cells #[.int .i64 h9, .int .i64 nv9] 89) := ⟨_, rfl⟩
        have bVa : Below wa.heap.size wa Va := by rw [hVa]; exact belA
        have HBVa := Lib.hid bVa
        have hYc : Va.heap[Y]? = some (.cells #[.int .i64 h9, .int .i64 nv9] 89) := by rw [hVa]; exact alloc_new' hY
        have y0 : Va.cell? ⟨Y, 0, none⟩ = some (.int .i64 h9) := by rw [cell_of_row _ _ _ _ _ _ hYc]; rfl
        have y1 : Va.cell? ⟨Y, 1, none⟩ = some (.int .i64 nv9) := by rw [cell_of_row _ _ _ _ _ _ hYc]; rfl
        have hYV : Y < Va.heap.size := blk_size hYc
        have HEX := Lib.hid (show EndB Va X from below_at bVa (blk_size HOC.out.2.2.2.2.2.2.2.1) HOC.out.2.2.2.2.2.2.2.1)
        obtain ⟨b0, b1, bz0, bz1, hXa⟩ := HEX.out.cells
        have hYX : ¬ Y = X := fun e => by have := blk_size HOC.out.2.2.2.2.2.2.2.1; omega
        have iz : I64 0 := by unfold I64; omega
        have HYN := Lib.hid hY
        go_upto_region 20 with fail
        rw [← hVa]
        clear hVa hYc bVa hY
        have h12345 : h9 = 1 ∨ h9 = 2 ∨ h9 = 3 ∨ h9 = 4 ∨ h9 = 5 := by omega
        clear hb9
        by_cases hs4 : 4 ≤ h9
        · have HMV := Lib.hid (show MwS M C Va vt9 Ft9 h9 r9.2.2.2 from by
            obtain ⟨ff, hm1, hm2⟩ := HM9.out
            exact ⟨ff, hm1.fr (Fr.of_below (F := []) HBVa.out) (by simp) (fun k _ => by simp), hm2⟩)
          have HBV := Lib.hid (show ByS Va y by1 from HOC.out.2.2.2.2.2.1.fr (Fr.of_below (F := []) HBVa.out) (by simp))
          have HFV := Lib.hid (show Fr (M.R :: (Ft ++ [y])) w Va from FrR.trans HOC.out.2.2.2.1 (Fr.of_below (F := []) HBVa.out) (fun k hk => by simp at hk))
          have HINV := Lib.hid HOC.out.2.2.2.2.1
          have HNDV := Lib.hid (sep_ndS HOC.out.2.2.2.2.2.2.1)
          have HXV := Lib.hid (show X ∉ M.R :: (Ft9 ++ [y]) from fun h => HOC.out.2.2.2.2.2.2.2.2.2 (by
            simp only [List.mem_cons, List.mem_append, List.mem_nil_iff, or_false] at h
            rcases h with h | h | h
            · exact memG.2 (Or.inl h)
            · exact memG.2 (by simp [h])
            · exact memG.2 (by simp [h])))
          clear HM9 HB9 HFR9 HIN9 HND9 HOC HCP
          have h45 : h9 = 4 ∨ h9 = 5 := by omega
          clear h12345 hs4
          rcases h45 with rfl | rfl
          · skip
            have HRX := Lib.hid (show (0, (4, r9.2.1.2), by1, r9.2.2.2) = r from by
              have hq9 : qq = (r9.2.1, r9.2.2.1.getD x, r9.2.2.2) := by rw [← HST.out, HH9.out, if_neg (by omega), if_neg (by omega), if_neg (by omega)]
              rw [← HRQ.out, hq9]
              simp only
              rw [HH9.out, if_neg (by omega), ← HH9.out])
            go_upto_region 23 with fail
            refine wp_region_noPanic ?_
            refine wp_region_hd (S := (fun V' => V'.cell? ⟨Y, 0, none⟩ = some (.int .i64 4) ∧ V'.cell? ⟨Y, 1, none⟩ = some (.int .i64 nv9))) 3 (by kernel_rfl) (by kernel_rfl) ⟨y0, y1⟩ (fun hR0 => ?_)
            refine takeH 0 ?_
            refine takeH 1 ?_
            refine wpAnyH_ready (rs := [2]) (by kernel_rfl) (by simp) ?_
            refine AllReadyH.cons (i := 2) rfl (fun K hK => ?_) AllReadyH.nil
            go_simp
            refine hK.out _ _ ⟨cell_fr (show Fr [X] Va _ by exact frcA) (by simpa using hYX) y0, cell_fr (show Fr [X] Va _ by exact frcA) (by simpa using hYX) y1⟩ (fun hR2 => ?_)
            clear hK K
            try simp only [Act.put, List.getElem_toArray, List.getElem_cons_zero, List.getElem_cons_succ, List.setIfInBounds_toArray, List.set_cons_zero, List.set_cons_succ]
            refine wpAnyH_done (by kernel_rfl) ?_ _
            refine NoPanic.normal ?_
            clear hR0 hR2
            go_wp2_with fail
            refine bodyPost_ret (v := .tuple #[.int .i64 0, .agg #[.int .i64 4, .int .i64 nv9]]) (by simp [results, Try.results54, go_sem, b0, b1, hXa]) rfl ?_
            rw [← HRX.out]
            exact RetClS.fin (HMV.out) HBV.out iz in9 ⟨fun h => by omega, fun h => by omega⟩ HFV.out HINV.out HNDV.out (Nat.le_of_eq HX.out) HXV.out (by exact frcA)
          · skip
            have HRX := Lib.hid (show (0, (5, r9.2.1.2), by1, r9.2.2.2) = r from by
              have hq9 : qq = (r9.2.1, r9.2.2.1.getD x, r9.2.2.2) := by rw [← HST.out, HH9.out, if_neg (by omega), if_neg (by omega), if_neg (by omega)]
              rw [← HRQ.out, hq9]
              simp only
              rw [HH9.out, if_neg (by omega), ← HH9.out])
            go_upto_region 23 with fail
            refine wp_region_noPanic ?_
            refine wp_region_hd (S := (fun V' => V'.cell? ⟨Y, 0, none⟩ = some (.int .i64 5) ∧ V'.cell? ⟨Y, 1, none⟩ = some (.int .i64 nv9))) 3 (by kernel_rfl) (by kernel_rfl) ⟨y0, y1⟩ (fun hR0 => ?_)
            refine takeH 0 ?_
            refine takeH 1 ?_
            refine wpAnyH_ready (rs := [2]) (by kernel_rfl) (by simp) ?_
            refine AllReadyH.cons (i := 2) rfl (fun K hK => ?_) AllReadyH.nil
            go_simp
            refine hK.out _ _ ⟨cell_fr (show Fr [X] Va _ by exact frcA) (by simpa using hYX) y0, cell_fr (show Fr [X] Va _ by exact frcA) (by simpa using hYX) y1⟩ (fun hR2 => ?_)
            clear hK K
            try simp only [Act.put, List.getElem_toArray, List.getElem_cons_zero, List.getElem_cons_succ, List.setIfInBounds_toArray, List.set_cons_zero, List.set_cons_succ]
            refine wpAnyH_done (by kernel_rfl) ?_ _
            refine NoPanic.normal ?_
            clear hR0 hR2
            go_wp2_with fail
            refine bodyPost_ret (v := .tuple #[.int .i64 0, .agg #[.int .i64 5, .int .i64 nv9]]) (by simp [results, Try.results54, go_sem, b0, b1, hXa]) rfl ?_
            rw [← HRX.out]
            exact RetClS.fin (HMV.out) HBV.out iz in9 ⟨fun h => by omega, fun h => by omega⟩ HFV.out HINV.out HNDV.out (Nat.le_of_eq HX.out) HXV.out (by exact frcA)
        obtain ⟨x2, hx2⟩ : ∃ x2, r9.2.2.1 = some x2 := by
          have := HCP.out.same
          exact Option.isSome_iff_exists.1 (by rw [this]; rfl)
        have hgx : r9.2.2.1.getD x = x2 := by rw [hx2]; rfl
        have HOA := Lib.hid (show OfS M C N B c fn vF y w Ft vv res1 by1 deep X xb (.slice (some ⟨g8, 0, none⟩) n8 c8) Fo' offs wa Ft9 vt9 x2 r9.2.2.2 from by
          obtain ⟨q1, q2, q3, q4, q5, q6, q7, q8, q9, q10⟩ := HOC.out
          exact ⟨q1, HM9.out.go (by omega), q2, by have := HB9.out; rw [hx2] at this; exact this, q3, by have := HCP.out.by_; rw [hx2] at this; exact this, HCP.out.sok, Nat.le_trans HCP.out.fuel HO.out.fuel, HO.out.offs, q4, q5, q6, q7, HO.out.cnew, ⟨HO.out.xnew.1, q9⟩, q8, ⟨HO.out.Xnew.1, q10, HO.out.Xnew.2.2⟩, HO.out.res32, HO.out.base⟩)
        have HOV := Lib.hid (HOA.out.below HBVa.out)
        rw [hgx, HH9.out] at HST
        have HVX := Lib.hid (show h9 = 2 → nv9 = r9.2.1.2 from HV9.out.2)
        have HC32 := Lib.hid (show I32 r9.2.1.2 from HCP.out.val)
        have h123 : h9 = 1 ∨ h9 = 2 ∨ h9 = 3 := by omega
        clear h12345 hs4 hgx hx2 HM9 HB9 HFR9 HIN9 HND9 HOC HOA HV9 HCP HO iz
        rcases h123 with rfl | rfl | rfl
        · have HSX := Lib.hid (show bOff (big C N).1 (deep + 1) (offs.take j).reverse x2 r9.2.2.2 = qq from by have := HST.out; rw [if_pos rfl] at this; exact this)
          clear HST
          go_wp2_with fail
          go_roundw
          case rel => exact ⟨j, Ft9, vt9, x2, r9.2.2.2, by omega, by go_num, HOV, HSX⟩
          case measure => simp [intOf]
        · have HSX := Lib.hid (show bOff (big C N).1 (deep + 1) (offs.take j).reverse ⟨2, r9.2.1.2, x2.ex⟩ r9.2.2.2 = qq from by have := HST.out; rw [if_neg (by omega), if_pos rfl] at this; exact this)
          clear HST
          obtain ⟨ev2, hen2, hev2, hev264⟩ := HOV.out.en
          have HEN := Lib.hid hen2
          have n0 : Va.cell? ⟨xb, 0, none⟩ = some (.int .i64 x2.how) := hen2.cell 0
          have n1 : Va.cell? ⟨xb, 1, none⟩ = some (.int .i64 ev2) := hen2.cell 1
          have nz0 : Va.frozen? ⟨xb, 0, none⟩ = false := blk_frozen hen2 0
          have nz1 : Va.frozen? ⟨xb, 1, none⟩ = false := blk_frozen hen2 1
          have hxbV := blk_size hen2
          have HPUT := Lib.hid (HEN.out.put 2 nv9)
          clear hen2 hev2 hev264
          go_upto_region 18 with fail
          obtain ⟨Vb, hVb⟩ : ∃ Vb, Vb = (Va.setCell ⟨xb, 0, none⟩ (.int .i64 2)).setCell ⟨xb, 1, none⟩ (.int .i64 nv9) := ⟨_, rfl⟩
          have HOB := Lib.hid (show OfS M C N B c fn vF y w Ft vv res1 by1 deep X xb (.slice (some ⟨g8, 0, none⟩) n8 c8) Fo' offs Vb Ft9 vt9 ⟨2, r9.2.1.2, x2.ex⟩ r9.2.2.2 from
            HOV.out.put (G := [xb]) (by rw [hVb]; exact frcA) (fun k hk => by rw [List.mem_singleton.1 hk]; exact ⟨HOV.out.xnew.1, HOV.out.xnew.2, fun e => HOV.out.Xnew.2.2 e.symm⟩) (by rw [hVb]; exact ⟨nv9, HPUT.out, fun _ => HVX.out rfl, in9⟩) (fun e he => by
              injection he with he
              subst he
              exact ⟨⟨by simp, by simp⟩, HC32.out⟩))
          rw [← hVb]
          clear hVb HOV HEN n0 n1 nz0 nz1 HPUT y0 y1
          go_wp2_with fail
          go_roundw
          case rel => exact ⟨j, Ft9, vt9, _, r9.2.2.2, by omega, by go_num, HOB, HSX⟩
          case measure => simp [intOf]
        · have HSX := Lib.hid (show bOff (big C N).1 (deep + 1) (offs.take j).reverse ⟨3, 0, true⟩ r9.2.2.2 = qq from by have := HST.out; rw [if_neg (by omega), if_neg (by omega), if_pos rfl] at this; exact this)
          clear HST
          obtain ⟨ev2, hen2, hev2, hev264⟩ := HOV.out.en
          have HEN := Lib.hid hen2
          have n0 : Va.cell? ⟨xb, 0, none⟩ = some (.int .i64 x2.how) := hen2.cell 0
          have n1 : Va.cell? ⟨xb, 1, none⟩ = some (.int .i64 ev2) := hen2.cell 1
          have n2 : Va.cell? ⟨xb, 2, none⟩ = some (.int .i64 (if x2.ex = true then 3 else 1)) := hen2.cell 2
          have nz0 : Va.frozen? ⟨xb, 0, none⟩ = false := blk_frozen hen2 0
          have nz1 : Va.frozen? ⟨xb, 1, none⟩ = false := blk_frozen hen2 1
          have nz2 : Va.frozen? ⟨xb, 2, none⟩ = false := blk_frozen hen2 2
          have hxbV := blk_size hen2
          have HPUT := Lib.hid ((HEN.out.put 3 nv9).putBase 3)
          clear hen2 hev2 hev264
          go_upto_region 18 with fail
          obtain ⟨Vb, hVb⟩ : ∃ Vb, Vb = ((Va.setCell ⟨xb, 0, none⟩ (.int .i64 3)).setCell ⟨xb, 1, none⟩ (.int .i64 nv9)).setCell ⟨xb, 2, none⟩ (.int .i64 3) := ⟨_, rfl⟩
          have HOB := Lib.hid (show OfS M C N B c fn vF y w Ft vv res1 by1 deep X xb (.slice (some ⟨g8, 0, none⟩) n8 c8) Fo' offs Vb Ft9 vt9 ⟨3, 0, true⟩ r9.2.2.2 from
            HOV.out.put (G := [xb]) (by rw [hVb]; exact frcA) (fun k hk => by rw [List.mem_singleton.1 hk]; exact ⟨HOV.out.xnew.1, HOV.out.xnew.2, fun e => HOV.out.Xnew.2.2 e.symm⟩) (by rw [hVb]; exact ⟨nv9, HPUT.out, fun h => by simp at h, in9⟩) (fun e he => by
              injection he with he
              subst he
              exact ⟨⟨by simp, by simp⟩, by unfold I32; simp⟩))
          rw [← hVb]
          clear hVb HOV HEN n0 n1 n2 nz0 nz1 nz2 HPUT y0 y1
          go_wp2_with fail
          go_roundw
          case rel => exact ⟨j, Ft9, vt9, _, r9.2.2.2, by omega, by go_num, HOB, HSX⟩
          case measure => simp [intOf]
end Go.Proofs.Ytgoinmdnpaknpaa
