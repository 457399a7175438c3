/- Programs done with fuel: a call. The program's walk. -/
import Derived.Test.YtgoinmdnpaknpaaBigF
import Derived.Test.YtgoinmdnpaknpaaRegCut
import Derived.Deep.QuietTactic
import Derived.BigQuiet
set_option linter.unusedVariables false
set_option linter.unusedSimpArgs false
set_option maxRecDepth 100000
namespace Go.Proofs.Ytgoinmdnpaknpaa
open Go.RowKit
attribute [local irreducible] wpList
theorem bCall_0 {C : BCfg} {K fn : Nat} {given : List Int} {deep : Nat} {b : Option BEnd} {st : BSt} (h : st.fuel = 0) : (big C K).1 fn given deep b st = (0, (5, 0), b, st) := by
  cases K with
  | zero => rfl
  | succ N => show bCall C (big C N).1 (big C N).2 fn given deep b st = _; unfold bCall; rw [if_pos h]
theorem bCall_1 {C : BCfg} {N fn : Nat} {given : List Int} {deep : Nat} {b : Option BEnd} {st : BSt} (h : st.fuel ≠ 0) (h2 : C.most < deep) : (big C (N + 1)).1 fn given deep b st = (0, (4, 0), b, st) := by
  show bCall C (big C N).1 (big C N).2 fn given deep b st = _; unfold bCall; rw [if_neg h, if_pos h2]
/-- What a call tells, where its body and what it put off are known. -/
def callEnd (call : CallF) (deep : Nat) (r : BRes × BFr × BSt) : Int × BRes × Option BEnd × BSt :=
  if 4 ≤ r.1.1 then (0, r.1, r.2.1.by_, r.2.2)
  else
    let q := bOff call deep r.2.1.off.reverse ⟨if r.1.1 = 0 then 1 else r.1.1, r.1.2, (if r.1.1 = 0 then 1 else r.1.1) == 3⟩ r.2.2
    if q.1.1 = 0 then ((if q.2.1.how = 1 then r.2.1.res else 0), (q.2.1.how, q.2.1.val), r.2.1.by_, q.2.2) else (0, q.1, r.2.1.by_, q.2.2)
theorem bCall_2 {C : BCfg} {N fn : Nat} {given : List Int} {deep : Nat} {b : Option BEnd} {st : BSt} (h : st.fuel ≠ 0) (h2 : ¬ C.most < deep) {v : Nat} (hv : (C.fn fn).2.1.toNat = v) :
    (big C (N + 1)).1 fn given deep b st = callEnd (big C N).1 deep (bBlock (big C N).2 (C.fn fn) deep (C.fn fn).2.2.1 ⟨varsOf given v, [], 0, b⟩ { st with fuel := st.fuel - 1 }) := by
  show bCall C (big C N).1 (big C N).2 fn given deep b st = _
  subst hv
  unfold bCall callEnd varsOf; rw [if_neg h, if_neg h2]
theorem bOff_step {call : CallF} {deep : Nat} {g : Int} {gs : List Int} {x : BEnd} {st : BSt} {r : Int × BRes × Option BEnd × BSt} (h : call g.toNat [] (deep + 1) (some x) st = r) : bOff call deep (g :: gs) x st = (if r.2.1.1 = 1 then bOff call deep gs (r.2.2.1.getD x) r.2.2.2 else if r.2.1.1 = 2 then bOff call deep gs ⟨2, r.2.1.2, (r.2.2.1.getD x).ex⟩ r.2.2.2 else if r.2.1.1 = 3 then bOff call deep gs ⟨3, 0, true⟩ r.2.2.2 else (r.2.1, r.2.2.1.getD x, r.2.2.2)) := by
  rw [bOff, h]
theorem rev_snoc {l : List Int} {j : Nat} {g : Int} (hl : l.length = j + 1) (hg : l[j]'(by omega) = g) : l.reverse = g :: (l.take j).reverse := by
  have h1 : l = l.take j ++ [g] := by
    rw [← hg, ← List.take_succ_eq_append_getElem (by omega), List.take_of_length_le (by omega)]
  conv => lhs; rw [h1]
  simp
theorem sep_nd2 {M : MCfg} {B c : Nat} {Ft1 Fv Fo1 : List Nat} {y : Option Nat} (h : Sep M B Ft1 c Fv Fo1 y) : (M.R :: (Ft1 ++ y.toList)).Nodup := by
  have h1 := h.nd
  unfold GB at h1
  refine List.Sublist.nodup ?_ h1
  exact List.Sublist.cons_cons _ (List.Sublist.append (List.Sublist.refl _) (List.Sublist.cons _ (List.Sublist.trans (List.sublist_append_right _ _) (List.sublist_append_right _ _))))
theorem made_heap {w : World} {g v : Nat} {t : TypeId} (h : w.ownsRow 0 t 1 (.slice (some ⟨g, 0, none⟩) v v) v (madeCells #[Value.int .i64 0] v).toList) : w.heap[g]? = some (.cells (List.replicate v (Value.int .i64 0)).toArray t (0, 0)) := by
  rw [toList_madeCells_one] at h
  rcases h.2 with ⟨e, _⟩ | ⟨g', cap', cur, e, _, hg, _, _, hsz, htk⟩
  · cases e
  · injection e with e1 _ e3
    injection e1 with e1
    injection e1 with e1
    subst e1 e3
    rw [Nat.mul_one] at hsz htk
    rw [List.take_of_length_le (by simpa using Nat.le_of_eq hsz)] at htk
    rw [hg, ← htk]
set_option maxHeartbeats 16000000 in
theorem implCall {M : MCfg} {C : BCfg} {K : Nat} (G : CfgG C) (hN : K ≤ 600) (hBl : ∀ L, L + 1 = K → BlockI M C L) (hCl : ∀ L, L + 1 = K → CallI M C L) : CallI M C K := by
  intro B fn y b w Ft vt deep st A n cc given hctx hm hy hb hnd hge hfn hlen hsm hs hfu hdeep hsl hAR
  have HBL0 := Lib.hid hBl
  have HCL0 := Lib.hid hCl
  have GG := Lib.hid G
  have HCTX := Lib.hid hctx
  have HM := Lib.hid hm
  have HY := Lib.hid hy
  have HB := Lib.hid hb
  have HND := Lib.hid hnd
  have HGE := Lib.hid hge
  have HSM := Lib.hid hsm
  have HS := Lib.hid hs
  have HSL := Lib.hid hsl
  have HAR := Lib.hid hAR
  have HLEN := Lib.hid hsl.lenEq
  obtain ⟨r, hr⟩ : ∃ r, (big C K).1 fn given (deep + 1) b st = r := ⟨_, rfl⟩
  have HR := Lib.hid hr
  rw [hr]
  have hnd' := hnd
  rw [List.nodup_cons] at hnd'
  have hRt : ∀ k, k ∈ Ft → k ∉ [M.R] := not_one (fun h => hnd'.1 (List.mem_append_left _ h))
  have hRy : ∀ k, y = some k → k ∉ [M.R] := fun k hk hk2 => hnd'.1 (List.mem_append_right _ (by rw [← List.mem_singleton.1 hk2]; simpa using hk))
  have HRT := Lib.hid hRt
  have HRY := Lib.hid hRy
  have hRw := blk_size hm.run
  have r3 := hm.run.cell 3
  have r4 := hm.run.cell 4
  have r2 := hm.run.cell 2
  have z5 := blk_frozen hm.run 5
  have r5 := hm.run.cell 5
  clear hBl hCl G hctx hm hy hb hnd hge hsm hs hsl hAR hr hnd' hRt hRy
  by_cases h0 : st.fuel = 0
  · rw [h0] at r3
    have hrun : RunB M C.most w deep 0 vt 0 st.used := h0 ▸ HM.out.run
    have HRUN := Lib.hid hrun
    have HRE := Lib.hid (show (0, (5, 0), b, st) = r from by rw [← HR.out]; exact (bCall_0 h0).symm)
    have H0 := Lib.hid h0
    clear hrun h0
    go_enter Try.func60, Try.ntmps60
    go_upto_region 1 with fail
    go_quiet (fail)
    go_wp2_with fail
    have bq : Below w.heap.size w (w.drewN nq) := below_drewN (Below.refl _ _) _
    have hf0 : Fr [] w (w.drewN nq) := Fr.of_below bq
    refine (implBurn0 M C.most _ deep 0 vt st.used (HRUN.out.fr hf0 (by simp))).mono ?_
    rintro e w2 ⟨rfl, hR2, hf2⟩
    have HR2 := Lib.hid hR2
    have HF2 := Lib.hid (FrR.trans (hf0.more (F' := [M.R]) (by simp)) hf2 (fun k hk => Or.inl hk))
    clear hR2 hf2 bq hf0 r3 r4 r2 z5 r5
    go_wp2_with fail
    refine bodyPost_ret (v := .tuple #[.int .i64 4, .int .i64 0]) (by simp [results, Try.results60, go_sem]) rfl ?_
    rw [← HRE.out]
    exact ⟨0, deep, 5, vt, Ft, rfl, by unfold I64; omega, Lib.hid (by simp), Lib.hid ⟨H0.out ▸ HR2.out, HM.out.tr.fr HF2.out HRT.out⟩, Lib.hid (ByUp.fr HY.out HF2.out HRY.out), Lib.hid ⟨fun h => by simp at h, fun _ => rfl⟩, Lib.hid (HF2.out.more (fun k hk => by rw [List.mem_singleton.1 hk]; exact List.mem_cons_self ..)), Lib.hid (fun k hk => Or.inl hk), HND⟩
  obtain ⟨q, hq⟩ : ∃ q, st.fuel = q + 1 := ⟨st.fuel - 1, by omega⟩
  have HQ := Lib.hid hq
  rw [hq] at r3
  obtain ⟨N, rfl⟩ : ∃ N, K = N + 1 := ⟨K - 1, by omega⟩
  have hBl := HBL0.out N rfl
  have hCl := HCL0.out N rfl
  unfold BlockI at hBl
  unfold CallI at hCl
  have HBL := Lib.hid hBl
  have HCL := Lib.hid hCl
  clear hBl hCl HBL0 HCL0
  have hq0 : (q : Int) + 1 > 0 := by omega
  have hqN : q ≤ N := by omega
  have hq6 : q ≤ 600 := by omega
  by_cases hd : deep = C.most
  · have hdm : ((deep : Int) == (C.most : Int)) = true := by rw [hd]; simp
    have HRE := Lib.hid (show (0, (4, 0), b, st) = r from by rw [← HR.out]; exact (bCall_1 h0 (by omega)).symm)
    clear h0 hq hd hfu
    go_enter Try.func60, Try.ntmps60
    go_upto_region 1 with fail
    go_quiet (fail)
    have bq : Below w.heap.size w (w.drewN nq) := below_drewN (Below.refl _ _) _
    have hf0 : Fr [] w (w.drewN nq) := Fr.of_below bq
    have HR2 := Lib.hid ((HM.out.run.fr hf0 (by simp)).putCode 4)
    have HF2 := Lib.hid (FrR.trans (hf0.more (F' := [M.R]) (by simp)) (Fr.one (c := M.R) (i := 5) (w.drewN nq) (.int .i64 4)) (fun k hk => Or.inl hk))
    clear bq hf0
    go_wp2_with fail
    refine bodyPost_ret (v := .tuple #[.int .i64 4, .int .i64 0]) (by simp [results, Try.results60, go_sem]) rfl ?_
    rw [← HRE.out]
    exact ⟨0, deep, 4, vt, Ft, rfl, by unfold I64; omega, Lib.hid (by simp), Lib.hid ⟨HR2.out, HM.out.tr.fr HF2.out HRT.out⟩, Lib.hid (ByUp.fr HY.out HF2.out HRY.out), Lib.hid ⟨fun h => by simp at h, fun _ => rfl⟩, Lib.hid (HF2.out.more (fun k hk => by rw [List.mem_singleton.1 hk]; exact List.mem_cons_self ..)), Lib.hid (fun k hk => Or.inl hk), HND⟩
  have hdm : ((deep : Int) == (C.most : Int)) = false := beq_eq_false_iff_ne.2 (by omega)
  obtain ⟨bf, of, f0, f1, A2, n2, c2, s2, A3, n3, c3, s3, hA, _, hbf, hfe, _, _, hbody, _, d0, d1, d2, d3⟩ := Func_at HCTX.out.pg (k := fn) (by have := HCTX.out.pg.lenEq; omega)
  have hfc : C.fn fn = (f0, f1, s2, s3) := by rw [fnAt hfn]; exact hfe
  have hvb := (GG.out.funcs _ (fn_mem hfn).1).vars
  have hpb := (GG.out.funcs _ (fn_mem hfn).1).par
  rw [hfc] at hvb hpb hlen
  simp only at hvb hpb hlen
  obtain ⟨v, rfl⟩ := Int.eq_ofNat_of_zero_le (show 0 ≤ f1 by omega)
  simp only [Int.toNat_natCast] at hlen
  have hvf : (C.fn fn).2.1.toNat = v := by rw [hfc]; simp
  have HVF := Lib.hid hvf
  have HFB := Lib.hid (show (C.fn fn).2.2.1 = s2 from by rw [hfc])
  have HBODY := Lib.hid hbody
  have hr0 : w.cell? ⟨M.R, 0, none⟩ = some (.slice (some ⟨bf, of, none⟩) M.np M.cp) := by rw [← hA]; exact HM.out.run.cell 0
  have hnp : (fn : Int) < (M.np : Int) := by have := HCTX.out.pg.lenEq; omega
  have hbR : bf ∉ [M.R] := fun h => by have := HGE.out M.R (List.mem_cons_self ..); rw [List.mem_singleton.1 h] at hbf; omega
  have HRE := Lib.hid (show callEnd (big C N).1 (deep + 1) (bBlock (big C N).2 (C.fn fn) (deep + 1) s2 ⟨varsOf given v, [], 0, b⟩ { st with fuel := q }) = r from by
    rw [← HR.out, bCall_2 h0 (by omega) hvf, HFB.out, hq, Nat.add_sub_cancel])
  obtain ⟨inf, hif, iz0, iz1, iz2⟩ := info_parts Try.infoIntB
  have HIF := Lib.hid hif
  have IZ0 := Lib.hid iz0
  have IZ1 := Lib.hid iz1
  have IZ2 := Lib.hid iz2
  have hv6 : v ≤ 6 := by omega
  have hdl : deep + 1 ≤ C.most := by omega
  have HC12 := GG.out.most
  have HD1 := Lib.hid d1
  have HD2 := Lib.hid d2
  have HR0 := Lib.hid hr0
  clear h0 hq hd hfu hA hfe hfc hvb hpb hvf hbody hif iz0 iz1 iz2 d0 d1 d2 d3 hr0 hdeep
  go_enter Try.func60, Try.ntmps60
  go_upto_region 1 with fail
  go_quiet (fail)
  go_wp2_with fail
  have bq : Below w.heap.size w (w.drewN nq) := below_drewN (Below.refl _ _) _
  have hf0 : Fr [] w (w.drewN nq) := Fr.of_below bq
  have hrun0 : RunB M C.most (w.drewN nq) deep 0 vt (q + 1) st.used := by have := HM.out.run.fr hf0 (by simp); rw [HQ.out] at this; exact this
  refine (implBurn1 M C.most _ deep 0 vt q st.used hrun0 hq6).mono ?_
  rintro e w2 ⟨rfl, hR2, hf2⟩
  have HR2 := Lib.hid hR2
  have HF2 := Lib.hid (FrR.trans (hf0.more (F' := [M.R]) (by simp)) hf2 (fun k hk => Or.inl hk))
  clear hrun0 hR2 hf2 bq hf0 r3 r4 r2 z5 r5
  have r4 := HR2.out.cell 4
  have z4 := blk_frozen HR2.out 4
  have hRw2 := blk_size HR2.out
  have HR3 := Lib.hid (HR2.out.putDeep (deep + 1 : Nat))
  have HF3 := Lib.hid (FrR.trans HF2.out (Fr.one (c := M.R) (i := 4) w2 (.int .i64 (deep + 1 : Nat))) (fun k hk => Or.inl hk))
  go_upto_region 7 with fail
  obtain ⟨w3, hw3⟩ : ∃ w3, w3 = w2.setCell ⟨M.R, 4, none⟩ (.int .i64 ((deep : Int) + 1)) := ⟨_, rfl⟩
  have HR3' := Lib.hid (show RunB M C.most w3 (deep + 1 : Nat) 0 vt q st.used from by rw [hw3]; exact HR3.out)
  have HF3' := Lib.hid (show Fr [M.R] w w3 from by rw [hw3]; exact HF3.out)
  rw [← hw3]
  clear hw3 HR3 HF3 r4 z4 hRw2 HR2 HF2
  have r0 := cell_fr HF3'.out hbR HD1.out
  have q0 := HR3'.out.cell 0
  rw [show M.Ap = some ⟨bf, of, none⟩ from by have := HR0.out; rw [HM.out.run.cell 0] at this; simpa using this] at q0
  have hz3 := blk_size HR3'.out
  go_wp2_with (at_make; refine wpList_make_full _ rfl _ _ 37 rfl 0 3 inf (.int .i64 0) 1 Try.underlying37 HIF.out IZ0.out IZ1.out _ _ _ _ v rfl rfl rfl rfl (by rw [IZ2.out]; omega) (by unfold maxLen; omega) (Nat.zero_le _) ?_)
  intro w4 hown hgr
  obtain ⟨g, hgd⟩ : ∃ g, w3.heap.size = g := ⟨_, rfl⟩
  have hb4 : Below w3.heap.size w3 w4 := (Below.refl _ _).grown hgr (Nat.le_refl _) (fun k hk => by cases hk)
  rw [hgd] at hown
  have hg4 := made_heap hown
  have hgw4 : g < w4.heap.size := blk_size hg4
  have hwg : w.heap.size ≤ g := by have := HF3'.out.size; omega
  have HGD := Lib.hid hgd
  rw [hgd]
  clear hown hgr
  have HF4 := Lib.hid (FrR.trans HF3'.out (Fr.of_below (F := []) hb4) (by simp))
  have HB4 := Lib.hid hb4
  have HG4 := Lib.hid hg4
  clear hgd hb4 hg4 r0 q0 hz3
  have HSZ := Lib.hid (show (Try.prog.info? 3).map (·.size) = some 1 from by rw [HIF.out]; simp [IZ1.out])
  have HNR := Lib.hid (show ∀ j, j < w.heap.size → j ≠ M.R → w4.heap[j]? = w.heap[j]? from fun j hj hne => HF4.out.block j hj (by simpa using hne))
  have hb5 : Below w4.heap.size w4 (w4.alloc (.cells #[.int .i64 fn, .slice (some ⟨g, 0, none⟩) v v, .int .i64 0, .slice none 0 0, .int .i64 0, .int .i64 0, .bool false, .pointer (y.map fun k => ⟨k, 0, none⟩)] 134)) := by exact belA
  have hg5 := below_at hb5 hgw4 HG4.out
  have hsl5 : Sl intR (w4.alloc (.cells #[.int .i64 fn, .slice (some ⟨g, 0, none⟩) v v, .int .i64 0, .slice none 0 0, .int .i64 0, .int .i64 0, .bool false, .pointer (y.map fun k => ⟨k, 0, none⟩)] 134)) 0 w.heap.size A n cc given := by
    have hF5 := FrR.trans HF4.out (Fr.of_below (F := []) hb5) (by simp)
    obtain ⟨e1, e2, e3, e4⟩ := HSL.out
    refine ⟨e1, e2, e3, fun h => ?_⟩
    obtain ⟨b', o', rfl, l1, l2, l3⟩ := e4 h
    refine ⟨b', o', rfl, l1, l2, fun i hi => ?_⟩
    obtain ⟨cs, h1, h2⟩ := l3 i hi
    obtain ⟨rfl, h1b⟩ := h1
    exact ⟨_, ⟨rfl, h1b⟩, fun j hj => by
      rw [World.cell?_of_block (w := w) (a := ⟨b', o' + i * intR.size + j, none⟩) (hF5.block b' l2 (by simpa using HAR.out _ rfl))]
      exact h2 j hj⟩
  have HSL5 := Lib.hid hsl5
  have HG5 := Lib.hid hg5
  have hpv : n ≤ v := by have := HLEN.out; omega
  clear hsl5 hg5 hb5
  go_wp2_with (refine wpl_copyInts rfl (.tmp 64) (.tmp 65) 37 37 rfl 3 Try.underlying37 HSZ.out g v n cc 0 w.heap.size A given rfl rfl HSL5.out hpv 3 HG5.out ?_)
  intro w6 kc hg6 hf6
  obtain ⟨c, hcd⟩ : ∃ c, w4.heap.size = c := ⟨_, rfl⟩
  have hb5 : Below w4.heap.size w4 (w4.alloc (.cells #[.int .i64 fn, .slice (some ⟨g, 0, none⟩) v v, .int .i64 0, .slice none 0 0, .int .i64 0, .int .i64 0, .bool false, .pointer (y.map fun k => ⟨k, 0, none⟩)] 134)) := by exact belA
  have hcl6 : ClB w6 c fn (.slice (some ⟨g, 0, none⟩) v v) 0 (.slice none 0 0) 0 0 false y := by
    refine (hf6.block c (by rw [← hcd]; simp) (by simp; omega)).trans ?_
    exact alloc_new' hcd
  have hf6w : Fr [M.R] w w6 := by
    have h1 := FrR.trans (FrR.trans HF4.out (Fr.of_below (F := []) hb5) (by simp)) hf6 (fun k hk => Or.inr (by rw [List.mem_singleton.1 hk]; exact hwg))
    exact h1
  have hrun6 : RunB M C.most w6 (deep + 1 : Nat) 0 vt q st.used := by
    have hR3w := blk_size HR3'.out
    have hgR : M.R < g := by have := HGD.out; omega
    refine (RunB.fr (RunB.fr (RunB.fr HR3'.out (Fr.of_below (F := []) HB4.out) (by simp)) (Fr.of_below (F := []) hb5) (by simp)) hf6 (by simp; omega))
  obtain ⟨hpre, hup⟩ := callStart (c := c) GG.out HCTX.out HM.out HY.out HB.out HND.out HGE.out hfn HVF.out hlen HSM.out HS.out HQ.out hdl hrun6 hcl6 (vars_own hg6 HSM.out hlen (by omega)) hf6w hwg (by omega)
  have HPRE := Lib.hid hpre
  have HUP := Lib.hid hup
  have HF6 := Lib.hid hf6w
  have q0 := hrun6.cell 0
  rw [show M.Ap = some ⟨bf, of, none⟩ from by have := HR0.out; rw [HM.out.run.cell 0] at this; simpa using this] at q0
  have q2 := cell_fr hf6w hbR HD2.out
  have hcw : w.heap.size ≤ c := by omega
  have HCG := Lib.hid (show g < c from by omega)
  clear hpre hup hf6w hrun6 hcl6 hb5 hf6 hg6 HG5 HSL5 HG4 HB4 HF4 HR3' HF3' hgw4
  rw [hcd]
  clear hcd HGD
  go_wp2_with fail
  obtain ⟨rB, hrB⟩ : ∃ rB, bBlock (big C N).2 (C.fn fn) (deep + 1) s2 ⟨varsOf given v, [], 0, b⟩ { st with fuel := q } = rB := ⟨_, rfl⟩
  have HRB := Lib.hid hrB
  have HRC := Lib.hid (show callEnd (big C N).1 (deep + 1) rB = r from by rw [← hrB]; exact HRE.out)
  have hns : ∀ k, k ∈ s2 → 0 ≤ k ∧ k < ((C.fn fn).2.2.2.length : Int) := by rw [← HFB.out]; exact (GG.out.funcs _ (fn_mem hfn).1).body
  have BP := Lib.hid (show StmtP C 600 (C.fn fn).2.1 { st with fuel := q } ⟨varsOf given v, [], 0, b⟩ rB from by
    rw [← hrB]
    exact block_ok GG.out (big_ok GG.out N (by omega)).2 (fn_mem hfn).1 s2 hns HPRE.out.fok HPRE.out.sok hqN)
  have HNS := Lib.hid hns
  clear hrB hns
  refine (HBL.out B c fn y w6 Ft [g] [] vt _ _ (deep + 1) _ _ A2 n2 c2 s2 HPRE.out hqN HNS.out (HBODY.out.keep (Nat.le_refl _) (Nat.le_refl _) (fun j _ hj => HF6.out.block j (by have := HCTX.out.le; omega) (fun h => by have := HGE.out M.R (List.mem_cons_self ..); rw [List.mem_singleton.1 h] at hj; omega)))).mono ?_
  rw [HRB.out]
  rintro e w7 ⟨nv, deep', code', vt', vo', Ft', Fo', rfl, inv, HV, HM7, HF7, HB7, HD7, HFR7, HIN7, HSEP7⟩
  obtain ⟨h4, hh4⟩ : ∃ h4, cut4 rB.1.1 = h4 := ⟨_, rfl⟩
  rw [hh4]
  have HH4 := Lib.hid hh4
  clear hh4 q0 q2
  have hmemG : ∀ k, k ∈ GB M Ft c [g] [] y ↔ k = M.R ∨ k ∈ Ft ∨ k = c ∨ k = g ∨ y = some k := fun k => by unfold GB; simp
  have HFRW := Lib.hid (show Fr (M.R :: (Ft ++ y.toList)) w w7 from FrR.trans (HF6.out.more (fun k hk => by rw [List.mem_singleton.1 hk]; exact List.mem_cons_self ..)) HFR7.out (fun k hk => by
    rcases (hmemG k).1 hk with rfl | h | rfl | rfl | h
    · exact Or.inl (List.mem_cons_self ..)
    · exact Or.inl (by simp [h])
    · exact Or.inr hcw
    · exact Or.inr hwg
    · exact Or.inl (by simp [h])))
  have HINW := Lib.hid (show ∀ k, k ∈ Ft' → k ∈ Ft ∨ w.heap.size ≤ k from fun k hk => by
    obtain ⟨p1, p2, p3, p4, p5, p6, p7, p8, p9, p10⟩ := HSEP7.out.parts
    rcases HIN7.out k (by unfold GB; simp [hk]) with h | h
    · rcases (hmemG k).1 h with rfl | h | rfl | rfl | h
      · exact absurd hk p1
      · exact Or.inl h
      · exact Or.inr hcw
      · exact Or.inr hwg
      · exact absurd hk (p10 k h).2.2.1
    · exact Or.inr (Nat.le_trans HF6.out.size h))
  have HBW := Lib.hid (HUP.out.trans HB7.out)
  clear hmemG
  by_cases hb4 : 4 ≤ rB.1.1
  · have hz : h4 = 4 := by rw [← HH4.out]; unfold cut4; rw [if_pos hb4]
    have HRX := Lib.hid (show (0, rB.1, rB.2.1.by_, rB.2.2) = r from by rw [← HRC.out]; unfold callEnd; rw [if_pos hb4])
    have HB4 := Lib.hid hb4
    subst hz
    clear hb4
    go_wp2_with fail
    refine bodyPost_ret (v := .tuple #[.int .i64 4, .int .i64 0]) (by simp [results, Try.results60, go_sem]) rfl ?_
    rw [← HRX.out]
    have h9 := HB4.out
    exact ⟨0, deep', code', vt', Ft', by unfold cut4; rw [if_pos (by exact h9)], by unfold I64; omega, Lib.hid ⟨fun h => by simp only at h; omega, fun h => by simp only at h; omega⟩, HM7, HBW, Lib.hid ⟨fun h => by simp only at h; omega, fun h => HD7.out.2 h⟩, HFRW, HINW, Lib.hid (sep_nd2 HSEP7.out)⟩
  have hbh := BP.out.how.1
  obtain ⟨how, hhow⟩ : ∃ how, (if rB.1.1 = 0 then 1 else rB.1.1) = how := ⟨_, rfl⟩
  have HHOW := Lib.hid hhow
  have hw13 : 1 ≤ how ∧ how ≤ 3 := by
    rw [← hhow]; split <;> omega
  have HW13 := Lib.hid hw13
  have HM7' := Lib.hid (show MSt M C w7 (deep + 1 : Nat) 0 vt' Ft' rB.2.2 from by
    obtain ⟨g1, g2⟩ := HD7.out.1 (by omega)
    subst g1 g2
    exact HM7.out)
  obtain ⟨qq, hqq⟩ : ∃ qq, bOff (big C N).1 (deep + 1) rB.2.1.off.reverse ⟨how, rB.1.2, how == 3⟩ rB.2.2 = qq := ⟨_, rfl⟩
  have HQQ := Lib.hid hqq
  have HRQ := Lib.hid (show (if qq.1.1 = 0 then ((if qq.2.1.how = 1 then rB.2.1.res else 0), (qq.2.1.how, qq.2.1.val), rB.2.1.by_, qq.2.2) else (0, qq.1, rB.2.1.by_, qq.2.2)) = r from by
    rw [← HRC.out]; unfold callEnd; rw [if_neg hb4, hhow, hqq])
  have hh43 : h4 = rB.1.1 := by rw [← HH4.out]; unfold cut4; rw [if_neg hb4]
  have hne4 : (h4 == 4) = false := beq_eq_false_iff_ne.2 (by omega)
  have HH43 := Lib.hid hh43
  clear hqq HM7 HD7 HH4 HRC hh43
  go_upto_if 85 with fail
  go_cut [11] (fun ev wx => ev = .int .i64 how ∧ wx = w7)
  case first =>
    by_cases hz : rB.1.1 = 0
    · have h40 : h4 = 0 := by have := HH43.out; omega
      have hhw : how = 1 := by rw [← hhow, if_pos hz]
      subst h40 hhw
      clear hz hhow HH43
      go_wp2_with fail
      go_meet
      case rel => exact ⟨rfl, rfl⟩
    · have h40 : (h4 == 0) = false := beq_eq_false_iff_ne.2 (by have := HH43.out; omega)
      have hhw : h4 = how := by rw [← hhow, if_neg hz]; exact HH43.out
      subst hhw
      clear hz hhow HH43
      go_wp2_with fail
      go_meet
      case rel => exact ⟨rfl, rfl⟩
  case rest =>
    obtain ⟨rfl, rfl⟩ := hcut
    clear hhow HH43 hne4
    go_wp2_with fail
    refine (implEnding wc c fn _ vo' rB.2.1.res 0 0 false y how nv HF7.out.cl HW13.out).mono ?_
    rintro e w8 ⟨rfl, hcl8, hf8⟩
    obtain ⟨p1, p2, p3, p4, p5, p6, p7, p8, p9, p10⟩ := HSEP7.out.parts
    obtain ⟨A8, n8, c8, rfl, hn8⟩ := HF7.out.off.form
    obtain ⟨vv, hvv⟩ : ∃ vv, Value.slice (some ⟨g, 0, none⟩) v v = vv := ⟨_, rfl⟩
    rw [hvv] at hcl8
    have hu8 := ByUp.fr (HY.out.up HBW.out) hf8 (fun k hk hk2 => (p10 k hk).2.1 (List.mem_singleton.1 hk2))
    have hsep8 : Sep M B Ft' c [] Fo' y := ⟨by
      have h1 := HSEP7.out.nd
      unfold GB at h1 ⊢
      refine List.Sublist.nodup ?_ h1
      exact List.Sublist.cons_cons _ (List.Sublist.append (List.Sublist.refl _) (List.Sublist.cons_cons _ (by rw [List.nil_append]; exact List.sublist_append_right _ _))), fun k hk => HSEP7.out.ge k (by
      unfold GB at hk ⊢
      simp only [List.mem_cons, List.mem_append, List.nil_append] at hk ⊢
      rcases hk with h | h | h | h | h
      · exact Or.inl h
      · exact Or.inr (Or.inl h)
      · exact Or.inr (Or.inr (Or.inl h))
      · exact Or.inr (Or.inr (Or.inr (Or.inr (Or.inl h))))
      · exact Or.inr (Or.inr (Or.inr (Or.inr (Or.inr h)))))⟩
    have HO8 := Lib.hid (show OffSt M C N B c fn y b w Ft vv rB.2.1.res rB.2.1.by_ deep w8 Ft' vt' (.slice A8 n8 c8) Fo' rB.2.1.off ⟨how, rB.1.2, how == 3⟩ (if how = 2 then nv else 0) rB.2.2 from by
      refine ⟨HCTX.out.fr (FrR.trans HFRW.out hf8 (fun k hk => Or.inr (by rw [List.mem_singleton.1 hk]; exact hcw))) HGE.out, HM7'.out.fr hf8 (by simpa using p2) (not_one p5), by simpa using hcl8, fun h => ?_, ?_, HF7.out.off.fr hf8 (not_one p7), fun e he => ?_, BP.out.sok, Nat.le_trans BP.out.fuel hqN, BP.out.fok.off, FrR.trans HFRW.out hf8 (fun k hk => Or.inr (by rw [List.mem_singleton.1 hk]; exact hcw)), HINW.out, HBW.out.trans hu8, (HY.out.up HBW.out).up hu8, hsep8, hcw, BP.out.fok.res⟩
      · simp only at h
        rw [if_pos h]
        exact HV.out (by have := HHOW.out; split at this <;> omega)
      · split
        · exact inv
        · unfold I64; omega
      · injection he with he
        subst he
        exact ⟨HW13.out, BP.out.how.2⟩)
    obtain ⟨x0, hx0⟩ : ∃ x0 : BEnd, (⟨how, rB.1.2, how == 3⟩ : BEnd) = x0 := ⟨_, rfl⟩
    obtain ⟨pn0, hpn0⟩ : ∃ pn0, (if how = 2 then nv else 0) = pn0 := ⟨_, rfl⟩
    obtain ⟨offs0, hoffs0⟩ : ∃ offs0, rB.2.1.off = offs0 := ⟨_, rfl⟩
    obtain ⟨st0, hst0⟩ : ∃ st0, rB.2.2 = st0 := ⟨_, rfl⟩
    rw [hx0, hpn0, hoffs0, hst0] at HO8
    rw [hx0, hoffs0, hst0] at HQQ
    rw [hoffs0] at hn8
    have HN8 := Lib.hid hn8
    obtain ⟨by1, hby1⟩ : ∃ by1, rB.2.1.by_ = by1 := ⟨_, rfl⟩
    obtain ⟨res1, hres1⟩ : ∃ res1, rB.2.1.res = res1 := ⟨_, rfl⟩
    rw [hby1, hres1] at HO8 HRQ
    clear hcl8 hf8 p1 p2 p3 p4 p5 p6 p7 p8 p9 p10 hu8 hsep8 hx0 hpn0 hoffs0 hst0 hn8 hby1 hres1 HF7 HM7' HV HB7 HFR7 HIN7 HSEP7 HHOW HW13 hw13 BP HPRE HUP HBW HINW HFRW inv
    go_wp2_with fail
    go_loopg [13] n8 (fun gk lv wr => ∃ (Ft1 : List Nat) (vt1 : Value) (Fo1 : List Nat) (A1 : Option Addr) (c1 : Nat) (offs : List Int) (x : BEnd) (pn : Int) (st1 : BSt), Hid (OffSt M C N B c fn y b w Ft vv res1 by1 deep wr Ft1 vt1 (.slice A1 gk c1) Fo1 offs x pn st1) ∧ Hid (bOff (big C N).1 (deep + 1) offs.reverse x st1 = qq))
    case atStart => exact ⟨Ft', vt', Fo', A8, c8, offs0, x0, pn0, st0, HO8, HQQ⟩
    case round =>
      clear HO8 HQQ
      obtain ⟨Ft1, vt1, Fo1, A1, c1, offs, x, pn, st1, HO, HQ1⟩ := hrel
      have k3 := HO.out.cl.cell 3
      have hcwr := blk_size HO.out.cl
      obtain ⟨hol, hoa⟩ := own_addr HO.out.off
      by_cases hg0 : gk = 0
      · subst hg0
        have hnil : offs = [] := by cases offs with
          | nil => rfl
          | cons a l => simp at hol
        subst hnil
        have HRX := Lib.hid (show ((if x.how = 1 then res1 else 0), (x.how, x.val), by1, st1) = r from by
          rw [← HRQ.out, ← HQ1.out]; simp [bOff])
        have r4 := HO.out.m.run.cell 4
        have z4 := blk_frozen HO.out.m.run 4
        have hRwr := blk_size HO.out.m.run
        have k4 := HO.out.cl.cell 4
        have k5 := HO.out.cl.cell 5
        have k2 := HO.out.cl.cell 2
        have hRc : M.R ≠ c := (sepO HO.out.sep).2.1
        have hsub : ((deep + 1 : Nat) : Int) - 1 = (deep : Int) := by omega
        have hdw : IntKind.i64.wrap (((deep : Int) + 1) - 1) = (deep : Int) := by rw [show ((deep : Int) + 1) - 1 = (deep : Int) by omega]; exact IntWalk.i64_in _ (by omega)
        have hxk := HO.out.ok x rfl
        have HR9 := Lib.hid (HO.out.m.run.putDeep (deep : Int))
        have HF9 := Lib.hid (Fr.one (c := M.R) (i := 4) wr (.int .i64 (deep : Int)))
        clear hol hoa HRQ HQ1
        go_upto_region 25 with fail
        obtain ⟨w9, hw9⟩ : ∃ w9, w9 = wr.setCell ⟨M.R, 4, none⟩ (.int .i64 (deep : Int)) := ⟨_, rfl⟩
        have HF9' := Lib.hid (show Fr [M.R] wr w9 from by rw [hw9]; exact HF9.out)
        have HR9' := Lib.hid (show RunB M C.most w9 deep 0 vt1 st1.fuel st1.used from by rw [hw9]; exact HR9.out)
        rw [← hw9]
        clear hw9 HF9 HR9 r4 z4 hRwr k3 k4 k5 k2 hsub hdw
        have hcl9 := HO.out.cl.fr HF9'.out (fun h => hRc (List.mem_singleton.1 h).symm)
        have k4 := hcl9.cell 4
        have k5 := hcl9.cell 5
        have k2 := hcl9.cell 2
        have hcw9 := blk_size hcl9
        obtain ⟨p1, p2, p3, p4, p5, p6, p7⟩ := sepO HO.out.sep
        have HFIN := Lib.hid (show ∀ V, Below w9.heap.size w9 V → MSt M C V deep 0 vt1 Ft1 st1 ∧ ByUp w V y b by1 ∧ Fr (M.R :: (Ft ++ y.toList)) w V from fun V hV => by
          have h1 := FrR.trans HF9'.out (Fr.of_below (F := []) hV) (by simp)
          exact ⟨⟨HR9'.out.fr (Fr.of_below (F := []) hV) (by simp), HO.out.m.tr.fr h1 (not_one p1)⟩, HO.out.by_.trans (ByUp.fr HO.out.byin h1 (fun k hk hk2 => (p7 k hk).1 (List.mem_singleton.1 hk2))), FrR.trans HO.out.fr_ h1 (fun k hk => Or.inl (by rw [List.mem_singleton.1 hk]; exact List.mem_cons_self ..))⟩)
        have hct : cut4 x.how = x.how := by unfold cut4; rw [if_neg (by omega)]
        have HCT := Lib.hid hct
        have HRES := Lib.hid HO.out.res32
        have HPN := Lib.hid HO.out.pn64
        have HPAN := Lib.hid HO.out.pan
        have HINN := Lib.hid HO.out.inn
        have HNDF := Lib.hid (sep_nd HO.out.sep)
        have HXK := Lib.hid hxk
        obtain ⟨xh, xv, xe⟩ := x
        simp only at k4 hxk
        clear hcl9 p1 p2 p3 p4 p5 p6 p7 HO hct hxk
        by_cases h2 : xh = 2
        · subst h2
          go_wp2_with fail
          go_quiet (fail)
          go_wp2_with fail
          refine bodyPost_ret (v := .tuple #[.int .i64 2, .int .i64 pn]) (by simp [results, Try.results60, go_sem]) rfl ?_
          obtain ⟨f1, f2, f3⟩ := HFIN.out _ (below_drewN (Below.refl _ _) _)
          rw [← HRX.out]
          exact ⟨pn, deep, 0, vt1, Ft1, rfl, HPN.out, Lib.hid ⟨fun h => by simp at h, fun _ => HPAN.out (by trivial)⟩, Lib.hid f1, Lib.hid f2, Lib.hid ⟨fun _ => ⟨rfl, rfl⟩, fun h => by simp at h⟩, Lib.hid f3, HINN, HNDF⟩
        · have h2b : (xh == 2) = false := beq_eq_false_iff_ne.2 h2
          have H2 := Lib.hid h2
          clear h2
          go_wp2_with fail
          go_quiet (fail)
          go_wp2_with fail
          refine bodyPost_ret (v := .tuple #[.int .i64 xh, .int .i64 res1]) (by simp [results, Try.results60, go_sem]) rfl ?_
          obtain ⟨f1, f2, f3⟩ := HFIN.out _ (below_drewN (Below.refl _ _) _)
          have hxk := HXK.out
          rw [← HRX.out]
          refine ⟨res1, deep, 0, vt1, Ft1, by rw [HCT.out], by have := HRES.out; unfold I32 at this; unfold I64; omega, Lib.hid ⟨fun h => ?_, fun h => absurd h H2.out⟩, Lib.hid f1, Lib.hid f2, Lib.hid ⟨fun _ => ⟨rfl, rfl⟩, fun h => by simp only at h hxk; omega⟩, Lib.hid f3, HINN, HNDF⟩
          simp only at h
          simp only
          rw [if_pos h]
      obtain ⟨j, rfl⟩ : ∃ j, gk = j + 1 := ⟨gk - 1, by omega⟩
      rcases hoa with ⟨_, h, _⟩ | ⟨g1, rfl, hc1⟩
      · omega
      obtain ⟨b', o', he', _, _, hcj, _⟩ := HO.out.off.sl.int_at (k := j) (by omega)
      simp only [Option.some.injEq, Addr.mk.injEq, and_true] at he'
      obtain ⟨rfl, rfl⟩ := he'
      rw [Nat.zero_add] at hcj
      obtain ⟨hfo1, hfo2, hfo3⟩ := HO.out.offs _ (List.getElem_mem (show j < offs.length by omega))
      obtain ⟨f, hf⟩ : ∃ f : Nat, offs[j] = (f : Int) := ⟨(offs[j]).toNat, by omega⟩
      have HREV := Lib.hid (rev_snoc hol.symm hf)
      rw [hf] at hcj hfo2 hfo3
      simp only [Int.toNat_natCast] at hfo3
      obtain ⟨F2, hs2, o2, hF2⟩ := own_upto (m := j) (p := 1) HO.out.off
      have hc1n : c ∉ Fo1 := (sepO HO.out.sep).2.2.2.2.1
      have z3 := blk_frozen HO.out.cl 3
      have hgc : ¬ g1 = c := fun e => hc1n (by rw [← e]; exact HO.out.off.ownB g1 rfl)
      have HOT := Lib.hid (show OffSt M C N B c fn y b w Ft vv res1 by1 deep (wr.setCell ⟨c, 3, none⟩ (.slice (some ⟨g1, 0, none⟩) j c1)) Ft1 vt1 (.slice (some ⟨g1, 0, none⟩) j c1) F2 (offs.take j) x pn st1 from
        HO.out.put (Fr.one _ _) (HO.out.cl.putOff _) HO.out.pan HO.out.pn64 HO.out.ok (o2.fr (Fr.one _ _) (not_one (fun h => hc1n (hF2 c h)))) hF2 (fun k hk => List.mem_of_mem_take hk))
      have hfl : f < C.p.length := by omega
      have hjl := HO.out.off.sl.lenLe
      have hwj : wrap64 (j : Int) = (j : Int) := wrap_small (by omega) (by omega)
      clear hf hol hfo1 hfo2 o2 hF2 hc1n hg0 hjl hc1
      go_upto_region 19 with fail
      obtain ⟨w9, hw9⟩ : ∃ w9, w9 = wr.setCell ⟨c, 3, none⟩ (.slice (some ⟨g1, 0, none⟩) j c1) := ⟨_, rfl⟩
      have HOT9 := Lib.hid (show OffSt M C N B c fn y b w Ft vv res1 by1 deep w9 Ft1 vt1 (.slice (some ⟨g1, 0, none⟩) j c1) F2 (offs.take j) x pn st1 from by rw [hw9]; exact HOT.out)
      rw [← hw9]
      clear hw9 HOT k3 hcwr hcj hs2 z3 hgc hwj
      obtain ⟨r9, hr9⟩ : ∃ r9, (big C N).1 f [] (deep + 1 + 1) (some x) st1 = r9 := ⟨_, rfl⟩
      have HR9 := Lib.hid hr9
      have hcall : Calls Try.prog 60 #[.pointer (some ⟨M.R, 0, none⟩), .int .i64 f, .slice none 0 0, .pointer (some ⟨c, 0, none⟩)] w9 (RetCl M C B (some c) (some x) w9 Ft1 (deep + 1 : Nat) r9) := by
        have hsp := sepO HOT9.out.sep
        have hndc : (M.R :: (Ft1 ++ (some c).toList)).Nodup := by
          simp only [Option.toList_some]
          rw [List.nodup_cons, List.nodup_append]
          exact ⟨by simp only [List.mem_append, List.mem_singleton, not_or]; exact ⟨hsp.1, hsp.2.1⟩, ownB_nd HOT9.out.m.tr, by simp, fun a ha d hd e => by rw [List.mem_singleton.1 hd] at e; exact hsp.2.2.2.1 (e ▸ ha)⟩
        have h := HCL.out B f (some c) (some x) w9 Ft1 vt1 (deep + 1) st1 none 0 0 [] HOT9.out.ctx HOT9.out.m ⟨fn, vv, res1, _, pn, y, HOT9.out.cl, HOT9.out.pan⟩ HOT9.out.ok hndc (fun k hk => HOT9.out.sep.ge k (by
          simp only [Option.toList_some, List.mem_cons, List.mem_append, List.mem_nil_iff, or_false] at hk
          unfold GB
          rcases hk with rfl | hk | rfl <;> simp [*])) hfl (by simp) (fun x hx => by cases hx) HOT9.out.sok HOT9.out.fuel hdl (Sl.nil_ ..) (fun a e => by cases e)
        rw [hr9] at h
        exact h
      have HCALL := Lib.hid hcall
      have HCP := Lib.hid (show CallP C 600 st1 (some x) r9 from by
        rw [← hr9]
        exact (big_ok GG.out N (by omega)).1 600 f [] (deep + 1 + 1) (some x) st1 hfl (by simp) (fun x hx => by cases hx) HOT9.out.ok HOT9.out.sok HOT9.out.fuel)
      have HST := Lib.hid (show (if r9.2.1.1 = 1 then bOff (big C N).1 (deep + 1) (offs.take j).reverse (r9.2.2.1.getD x) r9.2.2.2 else if r9.2.1.1 = 2 then bOff (big C N).1 (deep + 1) (offs.take j).reverse ⟨2, r9.2.1.2, (r9.2.2.1.getD x).ex⟩ r9.2.2.2 else if r9.2.1.1 = 3 then bOff (big C N).1 (deep + 1) (offs.take j).reverse ⟨3, 0, true⟩ r9.2.2.2 else (r9.2.1, r9.2.2.1.getD x, r9.2.2.2)) = qq from by
        rw [← HQ1.out, HREV.out]; exact (bOff_step (by simpa using hr9)).symm)
      clear hcall hr9 HQ1 HREV hfo3
      go_wp2_with fail
      refine HCALL.out.mono ?_
      rintro e wa ⟨nv9, deep9, code9, vt9, Ft9, rfl, in9, HV9, HM9, HB9, HD9, HFR9, HIN9, HND9⟩
      obtain ⟨h9, hh9⟩ : ∃ h9, cut4 r9.2.1.1 = h9 := ⟨_, rfl⟩
      rw [hh9]
      have HH9 := Lib.hid hh9
      clear hh9
      have HOC := Lib.hid (HOT9.out.called HFR9.out HIN9.out HND9.out HM9.out.tr)
      by_cases hs4 : 4 ≤ r9.2.1.1
      · have hz : h9 = 4 := by rw [← HH9.out]; unfold cut4; rw [if_pos hs4]
        have HRX := Lib.hid (show (0, r9.2.1, by1, r9.2.2.2) = r from by
          have hq9 : qq = (r9.2.1, r9.2.2.1.getD x, r9.2.2.2) := by rw [← HST.out, if_neg (by omega), if_neg (by omega), if_neg (by omega)]
          rw [← HRQ.out, hq9]
          simp only
          rw [if_neg (by omega)])
        have HS4 := Lib.hid hs4
        subst hz
        clear hs4
        go_wp2_with fail
        refine bodyPost_ret (v := .tuple #[.int .i64 4, .int .i64 0]) (by simp [results, Try.results60, go_sem]) rfl ?_
        rw [← HRX.out]
        have h8 := HS4.out
        obtain ⟨q1, q2, q3, q4, q5, q6, q7⟩ := HOC.out
        exact ⟨0, deep9, code9, vt9, Ft9, by unfold cut4; rw [if_pos (by exact h8)], by unfold I64; omega, Lib.hid ⟨fun h => by simp only at h; omega, fun h => by simp only at h; omega⟩, HM9, Lib.hid q5, Lib.hid ⟨fun h => by simp only at h; omega, fun h => HD9.out.2 h⟩, Lib.hid q3, Lib.hid q4, Lib.hid (sep_nd q7)⟩
      have hbh := HCP.out.how
      have hz : h9 = r9.2.1.1 := by rw [← HH9.out]; unfold cut4; rw [if_neg hs4]
      obtain ⟨x2, hx2⟩ : ∃ x2, r9.2.2.1 = some x2 := by
        have := HCP.out.same
        exact Option.isSome_iff_exists.1 (by rw [this]; rfl)
      have hgx : r9.2.2.1.getD x = x2 := by rw [hx2]; rfl
      have HBX := Lib.hid (show ByUp w9 wa (some c) (some x) (some x2) from by have := HB9.out; rw [hx2] at this; exact this)
      have HMX := Lib.hid (show MSt M C wa (deep + 1 : Nat) 0 vt9 Ft9 r9.2.2.2 from by
        obtain ⟨g1, g2⟩ := HD9.out.1 (by omega)
        subst g1 g2
        exact HM9.out)
      have HOX := Lib.hid (show OffSt M C N B c fn y b w Ft vv res1 by1 deep wa Ft9 vt9 (.slice (some ⟨g1, 0, none⟩) j c1) F2 (offs.take j) x2 pn r9.2.2.2 from by
        obtain ⟨q1, q2, q3, q4, q5, q6, q7⟩ := HOC.out
        obtain ⟨u1, u2⟩ := HBX.out
        exact ⟨q1, HMX.out, u1 _ _ _ _ _ _ HOT9.out.cl, fun h => by obtain ⟨a1, a2⟩ := u2 h; rw [HOT9.out.pan a1, a2], HOT9.out.pn64, q2, fun e he => by have := HCP.out.by_; rw [hx2] at this; exact this e he, HCP.out.sok, Nat.le_trans HCP.out.fuel HOT9.out.fuel, HOT9.out.offs, q3, q4, q5, q6, q7, HOT9.out.cnew, HOT9.out.res32⟩)
      have hne4 : (h9 == 4) = false := beq_eq_false_iff_ne.2 (by omega)
      rw [hgx] at HST
      have HZ := Lib.hid hz
      have HVX := Lib.hid HV9.out.2
      clear hgx hx2 HM9 HB9 HD9 HFR9 HIN9 HND9 HOC HMX HBX HH9 HV9 hz
      by_cases h1 : r9.2.1.1 = 1
      · have h91 : h9 = 1 := by rw [HZ.out]; exact h1
        have HSX := Lib.hid (show bOff (big C N).1 (deep + 1) (offs.take j).reverse x2 r9.2.2.2 = qq from by have := HST.out; rw [if_pos h1] at this; exact this)
        subst h91
        clear h1 hs4 hbh hne4
        go_wp2_with fail
        go_roundg j
        case measure => omega
        case rel => exact ⟨Ft9, vt9, F2, _, c1, offs.take j, x2, pn, r9.2.2.2, HOX, HSX⟩
      have hw : h9 = 2 ∨ h9 = 3 := by have := HZ.out; omega
      have hne1 : (h9 != 1) = true := bne_iff_ne.2 (by omega)
      have hw13 : 1 ≤ h9 ∧ h9 ≤ 3 := by omega
      have HW := Lib.hid hw
      have HW13 := Lib.hid hw13
      clear h1 hs4 hbh hw hw13
      go_wp2_with fail
      refine (implEnding wa c fn vv _ res1 x2.how pn x2.ex y h9 nv9 HOX.out.cl HW13.out).mono ?_
      rintro e wb ⟨rfl, hclb, hfb⟩
      obtain ⟨pn3, hpn3⟩ : ∃ pn3, (if h9 = 2 then nv9 else pn) = pn3 := ⟨_, rfl⟩
      rw [hpn3] at hclb
      have hx3 : ∃ x3 : BEnd, x3.how = h9 ∧ x3.ex = (x2.ex || h9 == 3) ∧ (x3.how = 2 → pn3 = x3.val) ∧ ByOk (some x3) ∧ bOff (big C N).1 (deep + 1) (offs.take j).reverse x3 r9.2.2.2 = qq := by
        have hst := HST.out
        rcases HW.out with h | h
        · have h2 : r9.2.1.1 = 2 := by rw [← HZ.out]; exact h
          refine ⟨⟨2, r9.2.1.2, x2.ex⟩, h.symm, by rw [h]; simp, fun _ => by rw [← hpn3, if_pos h]; exact HVX.out h2, fun e he => ?_, ?_⟩
          · injection he with he
            subst he
            exact ⟨⟨by simp, by simp⟩, HCP.out.val⟩
          · rw [if_neg (by omega), if_pos h2] at hst
            exact hst
        · have h2 : r9.2.1.1 = 3 := by rw [← HZ.out]; exact h
          refine ⟨⟨3, 0, true⟩, h.symm, by rw [h]; simp, fun h => by simp at h, fun e he => ?_, ?_⟩
          · injection he with he
            subst he
            exact ⟨⟨by simp, by simp⟩, by unfold I32; simp⟩
          · rw [if_neg (by omega), if_neg (by omega), if_pos h2] at hst
            exact hst
      obtain ⟨x3, e1, e2, e3, e4, e5⟩ := hx3
      have h64 : I64 pn3 := by rw [← hpn3]; split; exact in9; exact HOX.out.pn64
      rw [← e2, ← e1] at hclb
      have HOY := Lib.hid (HOX.out.put hfb hclb e3 h64 e4 (HOX.out.off.fr hfb (not_one (sepO HOX.out.sep).2.2.2.2.1)) (fun k hk => hk) (fun k hk => hk))
      have HQY := Lib.hid e5
      clear hclb hfb hpn3 e1 e2 e3 e4 e5 h64 HOX
      go_wp2_with fail
      go_roundg j
      case measure => omega
      case rel => exact ⟨Ft9, vt9, F2, _, c1, offs.take j, x3, pn3, r9.2.2.2, HOY, HQY⟩
end Go.Proofs.Ytgoinmdnpaknpaa
