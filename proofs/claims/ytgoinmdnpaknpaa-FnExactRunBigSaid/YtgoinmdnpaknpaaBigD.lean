/- Programs done with fuel: a block. The program's walk. -/
import Derived.Test.YtgoinmdnpaknpaaBigC
import Derived.Test.YtgoinmdnpaknpaaRegCut
import Derived.Deep.QuietTactic
import Derived.BigQuiet
import Derived.Deep.RegionHeld3
set_option linter.unusedVariables false
set_option linter.unusedSimpArgs false
set_option maxRecDepth 100000
namespace Go.Proofs.Ytgoinmdnpaknpaa
open Go.RowKit
attribute [local irreducible] wpList
theorem fnAt {C : BCfg} {k : Nat} (h : k < C.p.length) : C.fn k = C.p[k] := by unfold BCfg.fn; rw [List.getD_eq_getElem?_getD, List.getElem?_eq_getElem h]; rfl
theorem stAt {f : Func} {k : Nat} (h : k < f.2.2.2.length) : stOf f (k : Int) = f.2.2.2[k] := by unfold stOf; rw [Int.toNat_natCast, List.getD_eq_getElem?_getD, List.getElem?_eq_getElem h]; rfl
theorem bBlock_cons {stmt : StmtF} {f : Func} {deep : Nat} {n : Int} {ns : List Int} {fr : BFr} {st : BSt} {r : BRes × BFr × BSt} (h : stmt f (stOf f n) deep fr st = r) : bBlock stmt f deep (n :: ns) fr st = if r.1.1 = 0 then bBlock stmt f deep ns r.2.1 r.2.2 else r := by
  rw [bBlock, h]
set_option maxHeartbeats 8000000 in
theorem implBlock {M : MCfg} {C : BCfg} {N : Nat} (G : CfgG C) (hN : N ≤ 600) (HSt : StmtI M C N) : BlockI M C N := by
  intro B c fn y w Ft Fv Fo vt vv vo deep fr st A n cc ns hpre hfu hns hsl
  have HP := Lib.hid hpre
  have HNS := Lib.hid hns
  have HSEP := Lib.hid hpre.sep
  have HSL := Lib.hid hsl
  unfold StmtI at HSt
  have HST := Lib.hid HSt
  have GG := Lib.hid G
  obtain ⟨r, hr⟩ : ∃ r, bBlock (big C N).2 (C.fn fn) deep ns fr st = r := ⟨_, rfl⟩
  have HR := Lib.hid hr
  rw [hr]
  have hle := hsl.lenLe
  have HLEN := Lib.hid hsl.lenEq
  have hB := hpre.ctx.le
  clear hpre hns hsl HSt G hr
  go_enter Try.func84, Try.ntmps84
  go_wp2_with fail
  go_loopw [14] (fun iv wr => ∃ (k : Nat) (Ft1 Fo1 : List Nat) (vt1 vo1 : Value) (fr1 : BFr) (st1 : BSt), k ≤ n ∧ iv = .int .i64 k ∧ Hid (PreSt M C B c fn y wr Ft1 Fv Fo1 vt1 vv vo1 deep fr1 st1) ∧ st1.fuel ≤ N ∧ Hid (Fr (GB M Ft c Fv Fo y) w wr) ∧ Hid (∀ k, k ∈ GB M Ft1 c Fv Fo1 y → k ∈ GB M Ft c Fv Fo y ∨ w.heap.size ≤ k) ∧ Hid (ByUp w wr y fr.by_ fr1.by_) ∧ Hid (bBlock (big C N).2 (C.fn fn) deep (ns.drop k) fr1 st1 = r)) (fun iv _ => n - (intOf iv).toNat)
  case atStart => exact ⟨0, Ft, Fo, vt, vo, fr, st, Nat.zero_le _, rfl, HP, hfu, Lib.hid (Fr.refl _ _), Lib.hid (fun k hk => Or.inl hk), Lib.hid (ByUp.refl HP.out.by_), HR⟩
  case round =>
    clear HP HR hfu
    obtain ⟨k, Ft1, Fo1, vt1, vo1, fr1, st1, hk, rfl, HP, hfu, HFR, HIN, HBY, HR⟩ := hrel
    by_cases hlt : k < n
    · have hctx := HP.out.ctx
      have hkl : k < ns.length := by have := HLEN.out; omega
      obtain ⟨bb, oo, rfl, _, hbB, hce, hie⟩ := (HSL.out.keep (Nat.le_refl _) (Nat.le_refl _) (w' := wr) (fun j _ hj => HFR.out.block j (by omega) (fun hg => by have := HSEP.out.ge j hg; omega))).int_at hlt
      obtain ⟨m, hm⟩ : ∃ m : Nat, ns[k] = (m : Int) := ⟨(ns[k]).toNat, by have := HNS.out _ (List.getElem_mem hkl); omega⟩
      have hml : m < (C.fn fn).2.2.2.length := by have := HNS.out _ (List.getElem_mem hkl); omega
      have hfn := HP.out.fnl
      obtain ⟨bf, of, f0, f1, A2, n2, c2, s2, A3, n3, c3, s3, hA, _, hbf, hf, _, _, h2, h3, d0, d1, d2, d3⟩ := Func_at hctx.pg (k := fn) (by have := hctx.pg.lenEq; omega)
      have hfe : (C.fn fn) = (f0, f1, s2, s3) := by rw [fnAt hfn]; exact hf
      have hm3 : m < n3 := by have := h3.lenEq; rw [hfe] at hml; simp only at hml; omega
      obtain ⟨b3, o3, x0, x1, E2, p2, q2, t2, E3, p3, q3, t3, E4, p4, q4, t4, rfl, _, hb3, hst, i0, i1, g2, g3, g4, e0, e1, e2, e3, e4⟩ := Stmt_at h3 hm3
      have HM0 := Lib.hid hm
      have hms : stOf (C.fn fn) ns[k] = (x0, x1, t2, t3, t4) := by rw [hm, stAt hml]; simp only [hfe]; exact hst
      have HMS := Lib.hid hms
      have hmem := Lib.hid (show ((x0, x1, t2, t3, t4) : Stmt) ∈ (C.fn fn).2.2.2 from by rw [← hms]; exact stOf_mem (by rw [hm]; omega))
      rw [hm] at hce
      have r0 : wr.cell? ⟨M.R, 0, none⟩ = some (.slice (some ⟨bf, of, none⟩) M.np M.cp) := by rw [← hA]; exact HP.out.m.run.cell 0
      have k0 : wr.cell? ⟨c, 0, none⟩ = some (.int .i64 fn) := HP.out.f.cl.cell 0
      have HA := Lib.hid hA
      have hnp : (fn : Int) < (M.np : Int) := by have := hctx.pg.lenEq; omega
      have hm3i : (m : Int) < (n3 : Int) := by omega
      obtain ⟨r1, hr1⟩ : ∃ r1, (big C N).2 (C.fn fn) (x0, x1, t2, t3, t4) deep fr1 st1 = r1 := ⟨_, rfl⟩
      have HR1 := Lib.hid hr1
      have HC := Lib.hid hctx
      have H3 := Lib.hid h3
      clear hm hms hf hfe hst hA hr1 hctx h3 h2 hie d0 d1 d2
      have hlti : (k : Int) < (n : Int) := by omega
      go_upto_region 4 with fail
      refine wp_region_noPanic ?_
      refine wp_region_hd (S := (fun V => V.cell? ⟨M.R, 0, none⟩ = some (.slice (some ⟨bf, of, none⟩) M.np M.cp) ∧ V.cell? ⟨c, 0, none⟩ = some (.int .i64 fn) ∧ V.cell? ⟨bf, of + fn * 4 + 3, none⟩ = some (.slice (some ⟨b3, o3, none⟩) n3 c3) ∧ V.cell? ⟨b3, o3 + m * 5, none⟩ = some (.int .i64 x0) ∧ V.cell? ⟨b3, o3 + m * 5 + 1, none⟩ = some (.int .i64 x1) ∧ V.cell? ⟨b3, o3 + m * 5 + 2, none⟩ = some (.slice E2 p2 q2) ∧ V.cell? ⟨b3, o3 + m * 5 + 3, none⟩ = some (.slice E3 p3 q3) ∧ V.cell? ⟨b3, o3 + m * 5 + 4, none⟩ = some (.slice E4 p4 q4))) 23 (by kernel_rfl) (by kernel_rfl) ⟨r0, k0, d3, e0, e1, e2, e3, e4⟩ (fun hR0 => ?_)
      refine takeH 0 ?_
      refine takeH 1 ?_
      refine takeH 2 ?_
      refine takeH 3 ?_
      refine takeH 4 ?_
      refine takeH 5 ?_
      refine takeH 6 ?_
      refine takeH 7 ?_
      refine takeH 8 ?_
      refine takeH 9 ?_
      refine takeH 10 ?_
      refine takeH 11 ?_
      refine takeH 12 ?_
      refine takeH 13 ?_
      refine takeH 14 ?_
      refine takeH 15 ?_
      refine takeH 16 ?_
      refine wpAnyH_ready (rs := [17]) (by kernel_rfl) (by simp) ?_
      refine AllReadyH.cons (i := 17) rfl (fun K hK => ?_) AllReadyH.nil
      go_simp
      go_at_call 112
      have bw : Below wr.heap.size wr wr.drew := by exact belA
      have HQ := Lib.hid (HP.out.keep bw)
      have hkp : ∀ j, 0 ≤ j → j < B → wr.drew.heap[j]? = wr.heap[j]? := fun j _ hj => bw.block j (by have := HP.out.ctx.le; omega)
      have G2 := Lib.hid (g2.keep (Nat.le_refl _) (Nat.le_refl _) hkp)
      have G3 := Lib.hid (g3.keep (Nat.le_refl _) (Nat.le_refl _) hkp)
      have G4 := Lib.hid (g4.keep (Nat.le_refl _) (Nat.le_refl _) hkp)
      clear hkp g2 g3 g4
      ((with_reducible refine (HST.out B c fn y _ Ft1 Fv Fo1 vt1 vv vo1 deep fr1 st1 x0 x1 E2 E3 E4 p2 q2 p3 q3 p4 q4 (x0, x1, t2, t3, t4) HQ.out hfu hmem.out rfl rfl i0 i1 G2.out G3.out G4.out).mono ?_))
      rw [HR1.out]
      rintro e w5 ⟨nv, deep', code', vt', vo', Ft', Fo', rfl, inv, HV, HM, HF, HB5, HD, HFR5, HIN5, HSEP5⟩
      have f5 : Fr (GB M Ft1 c Fv Fo1 y) wr w5 := Fr.trans (Fr.of_below bw) HFR5.out
      have hbn : ∀ j, j < B → j ∉ GB M Ft1 c Fv Fo1 y := fun j hj hg => by have := HP.out.sep.ge j hg; omega
      obtain ⟨h4, hh4⟩ : ∃ h4, cut4 r1.1.1 = h4 := ⟨_, rfl⟩
      rw [hh4]
      have HH4 := Lib.hid hh4
      clear hh4
      go_wp2_with fail
      refine hK.out _ _ ⟨by rw [← HA.out]; exact HM.out.run.cell 0, HF.out.cl.cell 0, cell_fr f5 (hbn _ hbf) d3, cell_fr f5 (hbn _ hb3) e0, cell_fr f5 (hbn _ hb3) e1, cell_fr f5 (hbn _ hb3) e2, cell_fr f5 (hbn _ hb3) e3, cell_fr f5 (hbn _ hb3) e4⟩ (fun hR17 => ?_)
      clear hK K hbn
      try simp only [Act.put, List.getElem_toArray, List.getElem_cons_zero, List.getElem_cons_succ, List.setIfInBounds_toArray, List.set_cons_zero, List.set_cons_succ]
      refine takeH 18 ?_
      refine takeH 19 ?_
      refine takeH 20 ?_
      refine takeH 21 ?_
      refine takeH 22 ?_
      refine wpAnyH_done (by kernel_rfl) ?_ _
      refine NoPanic.normal ?_
      have hP := Lib.hid ((big_ok GG.out N hN).2 600 (C.fn fn) (x0, x1, t2, t3, t4) deep fr1 st1 (fn_mem hfn).1 ((GG.out.funcs _ (fn_mem hfn).1).stmts _ hmem.out) HP.out.fok HP.out.sok hfu)
      have HSP := Lib.hid (show StmtP C 600 (C.fn fn).2.1 st1 fr1 r1 from by rw [← HR1.out]; exact hP.out)
      have HFw := Lib.hid (FrR.trans HFR.out f5 HIN.out)
      have HINw := Lib.hid (show ∀ j, j ∈ GB M Ft' c Fv Fo' y → j ∈ GB M Ft c Fv Fo y ∨ w.heap.size ≤ j from fun j hj => by
        rcases HIN5.out j hj with h | h
        · exact HIN.out j h
        · exact Or.inr (Nat.le_trans HFR.out.size h))
      have HBw := Lib.hid (show ByUp wr w5 y fr1.by_ r1.2.1.by_ from (ByUp.fr HP.out.by_ (Fr.of_below (F := []) bw) (by simp)).trans HB5.out)
      have HRR := Lib.hid (show (if r1.1.1 = 0 then bBlock (big C N).2 (C.fn fn) deep (ns.drop (k + 1)) r1.2.1 r1.2.2 else r1) = r from by
        rw [← HR.out, List.drop_eq_getElem_cons hkl]
        exact (bBlock_cons (by rw [HMS.out]; exact HR1.out)).symm)
      have HF5 := Lib.hid f5
      clear hP HR HIN5 HB5 HFR5 HFR HIN G2 G3 G4 HQ hR0 hR17 bw f5 r0 k0 d3 e0 e1 e2 e3 e4 hce
      by_cases h0 : r1.1.1 = 0
      · have HNX := Lib.hid (show PreSt M C B c fn y w5 Ft' Fv Fo' vt' vv vo' deep r1.2.1 r1.2.2 from RetSt.next HP.out HM.out HF.out HBw.out (HD.out.1 (by omega)) HF5.out HSEP5.out ⟨HSP.out.sok, HSP.out.fuel, ⟨by simp, by unfold I32; simp⟩, HSP.out.fok, HSP.out.same⟩)
        have hz : h4 = 0 := by rw [← HH4.out, h0]; rfl
        have HRN := Lib.hid (show bBlock (big C N).2 (C.fn fn) deep (ns.drop (k + 1)) r1.2.1 r1.2.2 = r from by have := HRR.out; rw [if_pos h0] at this; exact this)
        have hfn2 := Nat.le_trans HSP.out.fuel hfu
        have HBB := Lib.hid (HBY.out.trans HBw.out)
        subst hz
        clear h0 HRR HP hfu HBw HBY
        go_wp2_with fail
        go_roundw
        case rel => exact ⟨k + 1, Ft', Fo', vt', vo', r1.2.1, r1.2.2, by omega, by go_num, HNX, hfn2, HFw, HINw, HBB, HRN⟩
        case measure => simp [intOf]; omega
      · have hr : r1 = r := by have := HRR.out; rw [if_neg h0] at this; exact this
        have hh4 : (h4 != 0) = true := by
          have h9 := HH4.out
          have h8 := HSP.out.how.1
          unfold cut4 at h9
          refine bne_iff_ne.2 (fun hz => ?_)
          split at h9 <;> omega
        clear h0
        have HRE := Lib.hid hr
        clear hr
        go_wp2_with fail
        refine bodyPost_ret (v := .tuple #[.int .i64 h4, .int .i64 nv]) (by simp [results, Try.results84, go_sem]) rfl ?_
        rw [← HRE.out]
        exact ⟨nv, deep', code', vt', vo', Ft', Fo', by rw [HH4.out], inv, HV, HM, HF, Lib.hid (HBY.out.trans HBw.out), HD, HFw, HINw, HSEP5⟩
    · have hkn : k = n := by omega
      subst hkn
      have HRE := Lib.hid (show ((0, 0), fr1, st1) = r from by have := HR.out; rw [List.drop_of_length_le (by have := HLEN.out; omega)] at this; exact this)
      go_wp2_with fail
      refine bodyPost_ret (v := .tuple #[.int .i64 0, .int .i64 0]) (by simp [results, Try.results84, go_sem]) rfl ?_
      rw [← HRE.out]
      exact ⟨0, deep, 0, vt1, vo1, Ft1, Fo1, rfl, by unfold I64; omega, Lib.hid (by simp), Lib.hid HP.out.m, Lib.hid HP.out.f, HBY, Lib.hid ⟨fun _ => ⟨rfl, rfl⟩, fun h => by simp at h⟩, HFR, HIN, Lib.hid HP.out.sep⟩
end Go.Proofs.Ytgoinmdnpaknpaa
