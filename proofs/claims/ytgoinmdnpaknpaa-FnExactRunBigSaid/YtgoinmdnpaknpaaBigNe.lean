/- Programs done with fuel: an expression. The reference's walk. -/
import Derived.Test.YtgoinmdnpaknpaaBigY
import Derived.Deep.CutBlock
set_option linter.unusedVariables false
set_option linter.unusedSimpArgs false
set_option maxRecDepth 100000
namespace Go.Proofs.Ytgoinmdnpaknpaa
open Go.RowKit
attribute [local irreducible] wpList
/-- All is done but the result's own block. -/
theorem RetExS.fin {M : MCfg} {C : BCfg} {B c fn : Nat} {F : FCf} {y : Nat} {w V w2 : World} {Ft Fv Fo Ft' : List Nat} {vt' vv vo : Value} {deep X : Nat} {fr' : BFr} {st' : BSt} {how v v0 x n : Int} (hm : MwS M C V vt' Ft' how st') (hft : FtS V c F vv vo Fv Fo fr' deep y) (hby : ByS V y fr'.by_) (hsep : Sep M B Ft' c Fv Fo (some y)) (hx : I64 x) (hn : I64 n) (hv : (how = 0 → x = v0) ∧ (how = 2 → n = v))
    (hfr : Fr (GB M Ft c Fv Fo (some y)) w V) (hin : ∀ k, k ∈ GB M Ft' c Fv Fo (some y) → k ∈ GB M Ft c Fv Fo (some y) ∨ X < k) (hX : w.heap.size ≤ X) (hXG : X ∉ GB M Ft c Fv Fo (some y)) (hf : Fr [X] V w2) :
    RetExS M C B c fn F y w Ft Fv Fo vv vo deep (v0, (how, v), fr', st') (.returned (.tuple #[.int .i64 x, .agg #[.int .i64 how, .int .i64 n]])) w2 := by
  have hXn : X ∉ GB M Ft' c Fv Fo (some y) := fun h => by rcases hin X h with h | h; exact hXG h; omega
  have hk : ∀ k, k ∈ [X] → k ∉ GB M Ft' c Fv Fo (some y) := fun k hk => by rw [List.mem_singleton.1 hk]; exact hXn
  have n1 : M.R ∉ [X] := fun h => hk _ h (by unfold GB; simp)
  have n2 : c ∉ [X] := fun h => hk _ h (by unfold GB; simp)
  have n3 : ∀ k, k ∈ Ft' → k ∉ [X] := fun k hk2 h => hk _ h (by unfold GB; simp [hk2])
  have n4 : ∀ k, k ∈ Fv → k ∉ [X] := fun k hk2 h => hk _ h (by unfold GB; simp [hk2])
  have n5 : ∀ k, k ∈ Fo → k ∉ [X] := fun k hk2 h => hk _ h (by unfold GB; simp [hk2])
  have n6 : y ∉ [X] := fun h => hk _ h (by unfold GB; simp)
  obtain ⟨f, hm1, hm2⟩ := hm
  exact ⟨x, n, vt', Ft', rfl, hx, hn, Lib.hid hv, Lib.hid ⟨f, hm1.fr hf n1 n3, hm2⟩, Lib.hid (hft.fr hf n2 n4 n5), Lib.hid (hby.fr hf n6), Lib.hid (FrR.trans hfr hf (fun k hk => Or.inr (by rw [List.mem_singleton.1 hk]; omega))), Lib.hid (fun k hk => by rcases hin k hk with h | h; exact Or.inl h; exact Or.inr (by omega)), Lib.hid hsep⟩
theorem specOwnB (w : World) (lo hi : Nat) (A : Option Addr) (n c : Nat) (l : List Int) (h : Sl intR w lo hi A n c l) (hh : hi ≤ w.heap.size) (hn : n ≤ 1048576) :
    Calls Try.prog 132 #[.slice A n c] w (fun e w' => ∃ v, e = .returned v ∧ w'.ownsRow w.heap.size 3 1 v l.length (l.map (Value.int .i64)) ∧ Below w.heap.size w w') := by
  obtain ⟨inf, hif, hz0, hz1, hz2⟩ := info_parts Try.infoIntB
  have HL := Lib.hid h.lenEq
  have hs2 := src_ints ((h.more (Nat.zero_le lo) hh).below (show Below w.heap.size w (w.alloc (.cells #[] 3)) by exact belA) (Nat.le_refl _))
  go_enter Try.func132, Try.ntmps132
  go_wp2_with (at_builtin; refine wpList_append_src _ rfl _ _ 37 rfl w.heap.size 3 inf (.int .i64 0) 1 8 Try.underlying37 hif hz0 hz1 hz2 rfl (by decide) (.slice (some ⟨w.heap.size, 0, none⟩) 0 0) 0 [] rfl (World.ownsRow_made w #[] 0 (Nat.le_refl _) (by decide) (by simp)) A n c (l.map (Value.int .i64)) rfl hs2 (ints_oneCell l) (by unfold maxLen; omega) (by omega) (by simp) ?_)
  intro v' w' hown hgr hat
  rw [← HL.out] at hown
  have hb : Below w.heap.size w w' := (show Below w.heap.size w (w.alloc (.cells #[] 3)) by exact belA).grown hgr (by simp) (fun g hg => by simp [Value.ownBlock] at hg; omega)
  clear hgr hat
  go_wp2_with fail
  go_ret
  exact ⟨v', rfl, hown, hb⟩
theorem own_intRow {w : World} {v : Value} {l : List Int} {b : Nat} (h : w.ownsRow b 3 1 v l.length (l.map (Value.int .i64))) (hi : ∀ x, x ∈ l → I64 x) : OwnSl intR w 3 v.ownBlock.toList v l ∧ ∀ k, k ∈ v.ownBlock.toList → b ≤ k := by
  refine ⟨own_ints h hi, fun k hk => ?_⟩
  have := World.ownsRow.lt h k (by simpa using hk)
  exact this.1
set_option maxHeartbeats 16000000 in
theorem specExpr {M : MCfg} {C : BCfg} {N : Nat} (G : CfgG C) (hN : N ≤ 600) (HCl : CallJ M C N) : ExprJ M C N := by
  intro B c fn F y w Ft Fv Fo vt vv vo deep fr st A n cc ts hpre hfu hln htk hsl
  have HP := Lib.hid hpre
  have HSL := Lib.hid hsl
  unfold CallJ at HCl
  have HCL := Lib.hid HCl
  have GG := Lib.hid G
  have HSEP := Lib.hid hpre.sep
  obtain ⟨r, hr⟩ : ∃ r, bExpr C (big C N).1 deep ts [] fr st = r := ⟨_, rfl⟩
  have HR := Lib.hid hr
  rw [hr]
  have HLEN := Lib.hid hsl.lenEq
  have hB := hpre.ctx.le
  have HLN := Lib.hid hln
  have HTK := Lib.hid htk
  obtain ⟨inf, hif, iz0, iz1, iz2⟩ := info_parts Try.infoIntB
  have HIF := Lib.hid hif
  have IZ0 := Lib.hid iz0
  have IZ1 := Lib.hid iz1
  have IZ2 := Lib.hid iz2
  have hn12 : n ≤ 12 := by have := hsl.lenEq; omega
  clear hpre hsl HCl G hr htk hln hif iz0 iz1 iz2
  go_enter Try.func122, Try.ntmps122
  go_wp2_with fail
  obtain ⟨W, hW⟩ : ∃ W, W = w.alloc (.cells #[.int .i64 0, .int .i64 0] 89) := ⟨_, rfl⟩
  obtain ⟨X, hX⟩ : ∃ X, w.heap.size = X := ⟨_, rfl⟩
  have hbW : Below w.heap.size w W := by rw [hW]; exact belA
  have HEB := Lib.hid (show EndB W X from by rw [hW]; exact alloc_new' hX)
  have HE := Lib.hid (show ExS M C N B c fn F y w Ft Fv Fo vv vo deep X r W Ft vt fr st (ts.drop 0) [] [] [] (.slice none 0 0) from
    ⟨HP.out.keep hbW, hfu, Fr.of_below hbW, fun k hk => Or.inl hk, OwnSl.nil_ .., by simp, by simp, by simpa using HTK.out, by simpa using HLN.out, HR.out, hB, HEB.out, Nat.le_of_eq hX, fun h => by have := HP.out.lt X h; omega⟩)
  have HX := Lib.hid hX
  rw [← hW, hX]
  clear hW hX hbW HEB HP hfu HR HTK HLN
  go_loopw [8, 19] (fun pv iv wr => ∃ (k np cp : Nat) (Ap : Option Addr) (Ft1 : List Nat) (vt1 : Value) (fr1 : BFr) (st1 : BSt) (pile : List Int) (Fp : List Nat), k ≤ n ∧ iv = .int .i64 k ∧ pv = .slice Ap np cp ∧ Hid (ExS M C N B c fn F y w Ft Fv Fo vv vo deep X r wr Ft1 vt1 fr1 st1 (ts.drop k) pile pile Fp (.slice Ap np cp))) (fun _ iv _ => n - (intOf iv).toNat)
  case atStart => exact ⟨0, 0, 0, none, Ft, vt, fr, st, [], [], Nat.zero_le _, rfl, rfl, HE⟩
  case round =>
    clear HE
    obtain ⟨k, np, cp, Ap, Ft1, vt1, fr1, st1, pile, Fp, hk, rfl, rfl, HE⟩ := hrel
    by_cases hlt : k < n
    rotate_left
    · have hkn : k = n := by omega
      have hd : ts.drop k = [] := List.drop_of_length_le (by have := HLEN.out; omega)
      have he := HE.out.eq
      have ho := HE.out.ok
      rw [hd] at he ho
      have hl1 : pile.length = 1 := by have : (pile.length : Int) = 1 := ho; omega
      obtain ⟨x, rfl⟩ : ∃ x, pile = [x] := by
        cases pile with
        | nil => simp at hl1
        | cons a l => cases l with
          | nil => exact ⟨a, rfl⟩
          | cons b l => simp at hl1
      have hx := HE.out.small x (by simp)
      obtain ⟨A', n', c', he', hn'⟩ := HE.out.own.form
      simp only [Value.slice.injEq] at he'
      obtain ⟨rfl, rfl, rfl⟩ := he'
      simp only [List.length_singleton] at hn'
      subst hn'
      obtain ⟨g, o, rfl, _, hgw, hc0, _⟩ := HE.out.own.sl.int_at (k := 0) (by omega)
      simp only [Nat.add_zero, List.getElem_cons_zero] at hc0
      have HRE := Lib.hid (show (x, (0, 0), fr1, st1) = r from by rw [← he]; rfl)
      have hki : ¬ (k : Int) < (n : Int) := by omega
      obtain ⟨b0, b1, bz0, bz1, hXv⟩ := HE.out.end_.cells
      clear he ho hd hl1 hlt hkn
      go_wp2_with fail
      refine bodyPost_ret (v := .tuple #[.int .i64 x, .agg #[.int .i64 0, .int .i64 0]]) (by simp [results, Try.results122, go_sem, b0, b1, hXv]) rfl ?_
      rw [← HRE.out]
      exact RetExS.fin (MwS.of HE.out.pre.m) HE.out.pre.f HE.out.pre.by_ HE.out.pre.sep (by unfold I32 at hx; unfold I64; omega) (by unfold I64; omega) ⟨fun _ => rfl, fun h => by simp at h⟩ HE.out.fr_ HE.out.inn HE.out.hX HE.out.hXG (by exact frcA)
    have hkl : k < ts.length := by have := HLEN.out; omega
    obtain ⟨bb, oo, t0, t1, rfl, _, hbB, ht, i0, i1, c0, c1⟩ := Tok_at (slB HSL.out hB HE.out.fr_ HSEP.out.ge) hlt
    have HX1 := Lib.hid (show ExS M C N B c fn F y w Ft Fv Fo vv vo deep X r wr Ft1 vt1 fr1 st1 ((t0, t1) :: ts.drop (k + 1)) pile pile Fp (.slice Ap np cp) from by rw [← ht, ← List.drop_eq_getElem_cons hkl]; exact HE.out)
    have hki : (k : Int) < (n : Int) := by omega
    clear ht HE
    obtain ⟨V, hV⟩ : ∃ V, V = wr.alloc (.cells #[.int .i64 t0, .int .i64 t1] 164) := ⟨_, rfl⟩
    have bV : Below wr.heap.size wr V := by rw [hV]; exact belA
    obtain ⟨T, hTn⟩ : ∃ T, wr.heap.size = T := ⟨_, rfl⟩
    have hS := Lib.hid (show ∀ V', Below V.heap.size V V' → V'.cell? ⟨T, 0, none⟩ = some (.int .i64 t0) ∧ V'.cell? ⟨T, 1, none⟩ = some (.int .i64 t1) from fun V' hV' => ⟨below_cell hV' (by rw [hV, ← hTn]; simp [go_sem]), below_cell hV' (by rw [hV, ← hTn]; simp [go_sem])⟩)
    have HXV := Lib.hid (HX1.out.below bV)
    have HXX := Lib.hid (show ∀ k, k ∈ GB M Ft1 c Fv Fo (some y) → k < T from fun k hk => by have := HX1.out.pre.lt k hk; omega)
    have HXP := Lib.hid (show ∀ k, k ∈ Fp → k < T from fun k hk => by have := HX1.out.own.lt k hk; omega)
    have hTV : T < V.heap.size := by rw [hV, ← hTn]; simp
    have hXT : X < T := by have := blk_size HX1.out.end_; omega
    obtain ⟨hnl, hna⟩ := own_addr HX1.out.own
    have HNL := Lib.hid hnl
    have HNA := Lib.hid hna
    go_upto_block 1 with fail
    go_cut [8] (fun pv wx => ∃ (np2 cp2 : Nat) (Ap2 : Option Addr) (Ft2 : List Nat) (vt2 : Value) (fr2 : BFr) (st2 : BSt) (tot : List Int) (Fp2 : List Nat), pv = .slice Ap2 np2 cp2 ∧ Hid (ExS M C N B c fn F y w Ft Fv Fo vv vo deep X r wx Ft2 vt2 fr2 st2 (ts.drop (k + 1)) tot tot Fp2 (.slice Ap2 np2 cp2)))
    case rest =>
      obtain ⟨np2, cp2, Ap2, Ft2, vt2, fr2, st2, tot, Fp2, rfl, HW⟩ := hcut
      clear HXV HXX HXP hTV hS HSL hV hTn bV HX1 c0 c1 hnl hna
      go_wp2_with fail
      go_roundw
      case rel => exact ⟨k + 1, np2, cp2, Ap2, Ft2, vt2, fr2, st2, tot, Fp2, by omega, by go_num, rfl, HW⟩
      case measure => simp [intOf]; omega
    case first =>
      go_upto_region 6 with fail
      rw [← hV]
      clear hV hTn bV HX1 c0 c1 hnl hna
      obtain ⟨e0, e1⟩ := hS.out V (Below.refl _ _)
      have hplen : pile.length ≤ 12 := by have := HXV.out.len; simp only [List.length_cons] at this; omega
      have hok := HXV.out.ok.1
      have hneed := HXV.out.ok.2.1
      have hkind : t0 = 1 ∨ t0 = 2 ∨ t0 = 9 ∨ t0 = 10 ∨ t0 = 11 ∨ (3 ≤ t0 ∧ t0 ≤ 8) := by
        unfold tokB at hok
        split at hok
        · exact Or.inl ‹_›
        · split at hok
          · exact Or.inr (Or.inl ‹_›)
          · split at hok
            · exact Or.inr (Or.inr (Or.inr (Or.inr (Or.inl ‹_›))))
            · rw [Bool.and_eq_true] at hok
              have := inB_iff.1 hok.1
              simp only at this
              omega
      rcases hkind with rfl | rfl | rfl | rfl | rfl | hkind
      · clear hok hneed
        have HXA := Lib.hid (HXV.out.tok GG.out hN (tot' := pile ++ [t1]) (by simp [bTok]) HXV.out.own (fun k h => h))
        go_wp2_with (at_builtin; refine wpl_own1 _ rfl _ _ 37 rfl intR 3 inf (.int .i64 0) 1 8 Try.underlying37 HIF.out IZ0.out IZ1.out IZ2.out rfl rfl (by decide) (.slice Ap np cp) pile.length pile Fp rfl rfl (HXA.out.own.below (show Below V.heap.size V _ by exact belA)) ⟨V.heap.size, 0, none⟩ 1 [.int .i64 t1] t1 [] rfl (cells_new _ _ _ (by simp)) ⟨rfl, rfl, i1⟩ (by intro u hu; simp at hu; subst hu; rfl) (fun j hj => by cases hj) (by omega) (by decide) ?_)
        intro v8 w8 F8 ho8 hgr hF8
        obtain ⟨A8, n8, c8, rfl, h88⟩ := ho8.form
        clear h88
        have bd : Below V.heap.size V (V.alloc (.cells #[.int .i64 t1] 3)) := by exact belA
        have HW8 := Lib.hid ((HXA.out.below bd).push ho8 (grown_fr hgr) (fun k hk => by
          rcases hF8 k hk with h | h
          · exact Or.inl h
          · exact Or.inr (by first | omega | (rcases h with h | h; cases h; omega) | (rw [h]; simp))))
        clear ho8 hgr hF8 bd
        go_wp2_with fail
        go_meet
        case rel => exact ⟨n8, c8, A8, Ft1, vt1, fr1, st1, pile ++ [t1], F8, rfl, HW8⟩
      · have hj := inB_iff.1 (show inB t1 0 ((C.fn fn).2.1 - 1) = true from by simpa [tokB] using hok)
        obtain ⟨j, rfl⟩ := Int.eq_ofNat_of_zero_le hj.1
        have hvl := HXV.out.pre.fok.vars
        have hjl : j < fr1.vars.length := by omega
        obtain ⟨Av, nv, cv, rfl, hnv⟩ := HXV.out.pre.f.vars.form
        have hgf := (own_addr HXV.out.pre.f.vars).2
        rcases hgf with ⟨_, h, _⟩ | ⟨g, rfl, _⟩
        · omega
        obtain ⟨b', o', he', _, _, hcg, ig⟩ := HXV.out.pre.f.vars.sl.int_at (k := j) (by omega)
        simp only [Option.some.injEq, Addr.mk.injEq, and_true] at he'
        obtain ⟨rfl, rfl⟩ := he'
        rw [Nat.zero_add] at hcg
        have hgF := HXV.out.pre.f.vars.ownB g rfl
        have c4 := HXV.out.pre.f.cl.cell 4
        have hjn : (j : Int) < (nv : Int) := by omega
        obtain ⟨x, hx⟩ : ∃ x, fr1.vars[j] = x := ⟨_, rfl⟩
        rw [hx] at hcg ig
        have HXE := Lib.hid (show bTok C (big C N).1 deep (2, (j : Int)) pile fr1 st1 = (pile ++ [x], (0, 0), fr1, st1) from by
          rw [← hx]; simp [bTok, List.getD_eq_getElem?_getD, List.getElem?_eq_getElem hjl])
        have HXA := Lib.hid (HXV.out.tok GG.out hN HXE.out HXV.out.own (fun k h => h))
        have hSS := Lib.hid (show ∀ V', Below V.heap.size V V' → V'.cell? ⟨T, 1, none⟩ = some (.int .i64 j) ∧ V'.cell? ⟨c, 4, none⟩ = some (.slice (some ⟨g, 0, none⟩) nv cv) ∧ V'.cell? ⟨g, j, none⟩ = some (.int .i64 x) from fun V' hV' => ⟨(hS.out V' hV').2, below_cell hV' c4, below_cell hV' hcg⟩)
        clear hok hneed hj hvl hnv hx c4 hcg
        go_upto_region 14 with fail
        clear e0 e1
        refine wp_region_noPanic ?_
        refine wp_region_hd (S := (fun V' => V'.cell? ⟨T, 1, none⟩ = some (.int .i64 j) ∧ V'.cell? ⟨c, 4, none⟩ = some (.slice (some ⟨g, 0, none⟩) nv cv) ∧ V'.cell? ⟨g, j, none⟩ = some (.int .i64 x))) 12 (by kernel_rfl) (by kernel_rfl) (hSS.out _ (show Below V.heap.size V _ by exact beloA)) (fun hR0 => ?_)
        refine takeH 0 ?_
        refine takeH 1 ?_
        refine takeH 2 ?_
        refine takeH 3 ?_
        refine takeH 4 ?_
        refine takeH 5 ?_
        refine takeH 6 ?_
        refine takeH 7 ?_
        refine takeH 8 ?_
        refine wpAnyH_ready (rs := [9]) (by kernel_rfl) (by simp) ?_
        refine AllReadyH.cons (i := 9) rfl (fun K hK => ?_) AllReadyH.nil
        go_simp
        refine hK.out _ _ (hSS.out _ (show Below V.heap.size V _ by exact beloA)) (fun hR9 => ?_)
        clear hK K
        try simp only [Act.put, List.getElem_toArray, List.getElem_cons_zero, List.getElem_cons_succ, List.setIfInBounds_toArray, List.set_cons_zero, List.set_cons_succ]
        refine wpAnyH_ready (rs := [10]) (by kernel_rfl) (by simp) ?_
        refine AllReadyH.cons (i := 10) rfl (fun K hK => ?_) AllReadyH.nil
        have bd : Below V.heap.size V ((V.alloc (.cells #[.int .i64 x] 3)).drew) := by exact beloA
        refine step_intB (by rfl) _ _ (by rfl) (.slice Ap np cp) pile.length pile Fp (by rfl) rfl (HXA.out.own.below bd) V.heap.size x 3 (by rfl) (alloc_new' rfl) ig (by omega) ?_
        intro A8 n8 c8 w8 F8 HO8 fr8 HF8
        have hno : ∀ Z, Z ∉ Fp → Z ∉ (Value.slice Ap np cp).ownBlock.toList := fun Z hZ hk => hZ (HXA.out.own.ownB Z (by simpa using hk))
        obtain ⟨d1, d2, d3⟩ := hSS.out _ bd
        have g1 := cell_fr fr8 (hno T (fun h => by have := HXP.out T h; omega)) d1
        have g2 := cell_fr fr8 (hno c (fun h => (HXA.out.sep c h).2 (by unfold GB; simp))) d2
        have g3 := cell_fr fr8 (hno g (fun h => (HXA.out.sep g h).2 (by unfold GB; simp [hgF]))) d3
        have HW8 := Lib.hid ((HXA.out.below bd).push HO8.out fr8 (fun k hk => by
          rcases HF8.out k hk with h | h
          · exact Or.inl h
          · exact Or.inr (by omega)))
        refine hK.out _ _ ⟨g1, g2, g3⟩ (fun hR10 => ?_)
        clear hK K
        try simp only [Act.put, List.getElem_toArray, List.getElem_cons_zero, List.getElem_cons_succ, List.setIfInBounds_toArray, List.set_cons_zero, List.set_cons_succ]
        refine takeH 11 ?_
        refine wpAnyH_done (by kernel_rfl) ?_ _
        refine NoPanic.normal ?_
        clear hR0 hR9 hR10 g1 g2 g3 d1 d2 d3 fr8 hno bd
        go_wp2_with fail
        go_meet
        case rel => exact ⟨n8, c8, A8, Ft1, vt1, fr1, st1, pile ++ [x], F8, rfl, HW8⟩
      · have hu10 := HXV.out.pre.sok.used
        have hi10 := GG.out.ins.1
        have hin := specInput M C V vt1 Ft1 st1 B HXV.out.pre.m HXV.out.pre.ctx (HXV.out.pre.sep.ge _ (List.mem_cons_self ..)) hu10 hi10
        by_cases hu : st1.used < C.ins.length
        · simp only [if_pos hu] at hin
          have HIN := Lib.hid hin
          have HU := Lib.hid hu
          clear hok hneed hin hu hu10 hi10
          go_wp2_with fail
          refine HIN.out.mono ?_
          rintro e w5 ⟨x, hx, ix, rfl, hrn, hf5⟩
          have HXE := Lib.hid (show bTok C (big C N).1 deep (9, t1) pile fr1 st1 = (pile ++ [x], (0, 0), fr1, { st1 with used := st1.used + 1 }) from by
            rw [← hx]; simp [bTok, HU.out])
          have HXA := Lib.hid (HXV.out.input GG.out hN HXE.out hrn hf5)
          clear hx hrn hf5 e0 e1
          go_wp2_with (at_builtin; refine wpl_own1 _ rfl _ _ 37 rfl intR 3 inf (.int .i64 0) 1 8 Try.underlying37 HIF.out IZ0.out IZ1.out IZ2.out rfl rfl (by decide) (.slice Ap np cp) pile.length pile Fp rfl rfl (HXA.out.own.below (show Below w5.heap.size w5 _ by exact belA)) ⟨w5.heap.size, 0, none⟩ 1 [.int .i64 x] x [] rfl (cells_new _ _ _ (by simp)) ⟨rfl, rfl, ix⟩ (by intro u hu; simp at hu; subst hu; rfl) (fun j hj => by cases hj) (by omega) (by decide) ?_)
          intro v8 w8 F8 ho8 hgr hF8
          obtain ⟨A8, n8, c8, rfl, h88⟩ := ho8.form
          clear h88
          have bd : Below w5.heap.size w5 (w5.alloc (.cells #[.int .i64 x] 3)) := by exact belA
          have HW8 := Lib.hid ((HXA.out.below bd).push ho8 (grown_fr hgr) (fun k hk => by
            rcases hF8 k hk with h | h
            · exact Or.inl h
            · exact Or.inr (by first | omega | (rcases h with h | h; cases h; omega) | (rw [h]; simp))))
          clear ho8 hgr hF8 bd
          go_wp2_with fail
          go_meet
          case rel => exact ⟨n8, c8, A8, Ft1, vt1, fr1, { st1 with used := st1.used + 1 }, pile ++ [x], F8, rfl, HW8⟩
        · simp only [if_neg hu] at hin
          have HIN := Lib.hid hin
          have HXE := Lib.hid (show bTok C (big C N).1 deep (9, t1) pile fr1 st1 = (pile ++ [0], (0, 0), fr1, st1) from by simp [bTok, hu])
          clear hok hneed hin hu hu10 hi10
          go_wp2_with fail
          refine HIN.out.mono ?_
          rintro e w5 ⟨rfl, hb5⟩
          have HXA := Lib.hid ((HXV.out.tok GG.out hN HXE.out HXV.out.own (fun k h => h)).below hb5)
          have iz : I64 0 := by unfold I64; omega
          clear hb5 e0 e1
          go_wp2_with (at_builtin; refine wpl_own1 _ rfl _ _ 37 rfl intR 3 inf (.int .i64 0) 1 8 Try.underlying37 HIF.out IZ0.out IZ1.out IZ2.out rfl rfl (by decide) (.slice Ap np cp) pile.length pile Fp rfl rfl (HXA.out.own.below (show Below w5.heap.size w5 _ by exact belA)) ⟨w5.heap.size, 0, none⟩ 1 [.int .i64 0] 0 [] rfl (cells_new _ _ _ (by simp)) ⟨rfl, rfl, iz⟩ (by intro u hu; simp at hu; subst hu; rfl) (fun j hj => by cases hj) (by omega) (by decide) ?_)
          intro v8 w8 F8 ho8 hgr hF8
          obtain ⟨A8, n8, c8, rfl, h88⟩ := ho8.form
          clear h88
          have bd : Below w5.heap.size w5 (w5.alloc (.cells #[.int .i64 0] 3)) := by exact belA
          have HW8 := Lib.hid ((HXA.out.below bd).push ho8 (grown_fr hgr) (fun k hk => by
            rcases hF8 k hk with h | h
            · exact Or.inl h
            · exact Or.inr (by first | omega | (rcases h with h | h; cases h; omega) | (rw [h]; simp))))
          clear ho8 hgr hF8 bd
          go_wp2_with fail
          go_meet
          case rel => exact ⟨n8, c8, A8, Ft1, vt1, fr1, st1, pile ++ [0], F8, rfl, HW8⟩
      · clear hok hneed
        have hre := recv_ok HXV.out.pre.fok.by_
        have c8 := HXV.out.pre.f.cl.cell 8
        go_wp2_with fail
        refine (specRecover V y fr1.by_ HXV.out.pre.by_ HXV.out.pre.fok.by_).mono ?_
        rintro e w5 ⟨rfl, HU, hf⟩
        have HXA := Lib.hid (HXV.out.recov GG.out hN rfl HU.out hf)
        obtain ⟨x, hx⟩ : ∃ x, (recv fr1.by_).1 = x := ⟨_, rfl⟩
        have ix : I64 x := by have := hre.1; rw [hx] at this; unfold I32 at this; unfold I64; omega
        rw [hx] at HXA ⊢
        clear hx hre HU hf e0 e1 c8
        go_wp2_with (at_builtin; refine wpl_own1 _ rfl _ _ 37 rfl intR 3 inf (.int .i64 0) 1 8 Try.underlying37 HIF.out IZ0.out IZ1.out IZ2.out rfl rfl (by decide) (.slice Ap np cp) pile.length pile Fp rfl rfl (HXA.out.own.below (show Below w5.heap.size w5 _ by exact belA)) ⟨w5.heap.size, 0, none⟩ 1 [.int .i64 x] x [] rfl (cells_new _ _ _ (by simp)) ⟨rfl, rfl, ix⟩ (by intro u hu; simp at hu; subst hu; rfl) (fun j hj => by cases hj) (by omega) (by decide) ?_)
        intro v8 w8 F8 ho8 hgr hF8
        obtain ⟨A8, n8, c8, rfl, h88⟩ := ho8.form
        clear h88
        have bd : Below w5.heap.size w5 (w5.alloc (.cells #[.int .i64 x] 3)) := by exact belA
        have HW8 := Lib.hid ((HXA.out.below bd).push ho8 (grown_fr hgr) (fun k hk => by
          rcases hF8 k hk with h | h
          · exact Or.inl h
          · exact Or.inr (by first | omega | (rcases h with h | h; cases h; omega) | (rw [h]; simp))))
        clear ho8 hgr hF8 bd
        go_wp2_with fail
        go_meet
        case rel => exact ⟨n8, c8, A8, Ft1, vt1, { fr1 with by_ := (recv fr1.by_).2 }, st1, pile ++ [x], F8, rfl, HW8⟩
      · have hpf : (paramsF C.p).length = C.p.length := by simp [paramsF]
        have hj := tokB_call hok rfl
        simp only at hj
        obtain ⟨f, rfl⟩ := Int.eq_ofNat_of_zero_le hj.1
        have hfl : f < C.p.length := by omega
        have hctx := HXV.out.pre.ctx
        obtain ⟨bf, of, f0, f1, A2, n2, c2, s2, A3, n3, c3, s3, hA, _, hbf, hfe, _, _, _, _, d0, _, _, _⟩ := Func_at hctx.pg (k := f) (by have := hctx.pg.lenEq; omega)
        have hfc : C.fn f = (f0, f1, s2, s3) := by rw [fnAt hfl]; exact hfe
        obtain ⟨fm1, fm2⟩ := fn_mem hfl
        have hg := GG.out.funcs _ fm1
        have hpar := hg.par
        have hvar := hg.vars
        rw [hfc] at hpar hvar
        simp only at hpar hvar
        have hnd : needF (11, (f : Int)) (paramsF C.p) = f0 := by unfold needF; rw [if_pos rfl]; simp only [Int.toNat_natCast]; rw [fm2, hfc]
        rw [hnd] at hneed
        obtain ⟨p, rfl⟩ := Int.eq_ofNat_of_zero_le hpar.1
        obtain ⟨m, hm⟩ : ∃ m, np = m + p := ⟨np - p, by have := HNL.out; omega⟩
        subst hm
        have hpm : pile.length = m + p := HNL.out.symm
        obtain ⟨A1, c1, hs1, g1, gA⟩ := own_from HXV.out.own
        obtain ⟨F2, hs2, o2, hF2⟩ := own_upto HXV.out.own
        have r0 : V.cell? ⟨M.R, 0, none⟩ = some (.slice (some ⟨bf, of, none⟩) M.np M.cp) := by rw [← hA]; exact HXV.out.pre.m.run.cell 0
        have c7 := HXV.out.pre.f.cl.cell 7
        have hnp : (f : Int) < (M.np : Int) := by have := hctx.pg.lenEq; omega
        have hm12 : m + p ≤ 12 := by omega
        have hd12 := GG.out.most
        have hdd := HXV.out.pre.deep
        have hw1 : IntKind.i64.wrap (m : Int) = (m : Int) := IntWalk.i64_in _ (by omega)
        have hw2 : IntKind.i64.wrap ((deep : Int) + 1) = (deep : Int) + 1 := IntWalk.i64_in _ (by omega)
        have hgl : (pile.drop m).length = p := by rw [List.length_drop]; omega
        obtain ⟨r1, hr1⟩ : ∃ r1, (big C N).1 f (pile.drop m) (deep + 1) none st1 = r1 := ⟨_, rfl⟩
        have hcall : ∀ W z, Below V.heap.size V W → EnS W z 0 0 0 → V.heap.size ≤ z → Calls Try.prog 54 #[.pointer (some ⟨M.R, 0, none⟩), .int .i64 f, .slice A1 p c1, .int .i64 ((deep : Int) + 1), .pointer (some ⟨z, 0, none⟩)] W (RetClS M C z W Ft1 r1) := fun W z hW hz hzV => by
          have hx := HXV.out.below hW
          have hlt := HXV.out.pre.lt
          have hsep := hx.pre.sep.nd
          unfold GB at hsep
          have hnd1 : (M.R :: (Ft1 ++ [z])).Nodup := by
            rw [List.nodup_cons, List.nodup_append]
            have hR := hlt M.R (by unfold GB; simp)
            refine ⟨by simp only [List.mem_append, List.mem_singleton, not_or]; exact ⟨hx.pre.sep.parts.1, by omega⟩, ownB_nd hx.pre.m.tr, by simp, fun a ha d hd e => ?_⟩
            have := hlt a (by unfold GB; simp [ha])
            rw [List.mem_singleton.1 hd] at e
            omega
          have := HCL.out B f z none W Ft1 vt1 deep st1 A1 p c1 (pile.drop m) hx.pre.ctx hx.pre.m hz (fun e he => by cases he) hnd1 (fun k hk => by
            simp only [List.mem_cons, List.mem_append, List.mem_nil_iff, or_false] at hk
            rcases hk with rfl | hk | rfl
            · exact hx.pre.sep.ge _ (by unfold GB; simp)
            · exact hx.pre.sep.ge _ (by unfold GB; simp [hk])
            · have := hlt M.R (by unfold GB; simp); have := hx.pre.sep.ge M.R (by unfold GB; simp); omega) hfl (by rw [hgl, hfc]; simp only; omega) (fun x hx2 => HXV.out.small x (List.mem_of_mem_drop hx2)) hx.pre.sok hx.fuel hdd.2 (g1.keep (Nat.le_refl _) hW.size (fun j _ hj => hW.block j hj)) (fun a ha2 e => (HXV.out.sep _ (gA a ha2)).2 (by rw [e]; unfold GB; simp))
          rw [hr1] at this
          exact this
        have HCALL := Lib.hid hcall
        have HCP := Lib.hid (show CallP C 600 st1 none r1 from by
          rw [← hr1]
          exact (big_ok GG.out N hN).1 600 f (pile.drop m) (deep + 1) none st1 hfl (by rw [hgl, hfc]; simp only; omega) (fun x hx2 => HXV.out.small x (List.mem_of_mem_drop hx2)) (fun e he => by cases he) HXV.out.pre.sok HXV.out.fuel)
        have HTOK := Lib.hid (show bTok C (big C N).1 deep (11, (f : Int)) pile fr1 st1 = (if r1.2.1.1 = 1 then (pile.take m ++ [r1.1], (0, 0), fr1, r1.2.2.2) else (pile, r1.2.1, fr1, r1.2.2.2)) from by
          have htop : pile.length - (C.fn f).1.toNat = m := by rw [hfc]; simp only [Int.toNat_natCast]; omega
          simp [bTok, htop, hr1])
        clear hok hneed hj hctx hA hfe hfc fm1 fm2 hg hpar hvar hnd g1 gA hpf hfl hgl hr1 hcall hd12 hdd
        go_upto_region 20 with fail
        go_quiet (fail)
        obtain ⟨V1, hV1⟩ : ∃ V1, V1 = V.drewN nq := ⟨_, rfl⟩
        have b1 : Below V.heap.size V V1 := by rw [hV1]; exact below_drewN (Below.refl _ _) _
        have hSc := Lib.hid (show ∀ V', Below V.heap.size V V' → V'.cell? ⟨T, 1, none⟩ = some (.int .i64 f) ∧ V'.cell? ⟨c, 7, none⟩ = some (.int .i64 deep) from fun V' hV' => ⟨(hS.out V' hV').2, below_cell hV' c7⟩)
        have hz1 : V1.heap.size = V.heap.size := by rw [hV1]; rfl
        clear r0 d0 e0 e1 c7
        go_upto_region 21 with fail
        rw [← hV1]
        clear hV1
        have hpl : (pile.length : Int) = (m : Int) + (p : Int) := by omega
        rw [hpl]
        clear hpm hpl
        go_cut [13, 14] (fun xs es wx => ∃ (xv nv : Int) (Y : Nat) (vt' : Value) (Ft' : List Nat), xs = .int .i64 xv ∧ es = .pointer (some ⟨Y, 0, none⟩) ∧ I64 xv ∧ I64 nv ∧ Hid ((r1.2.1.1 = 1 → xv = r1.1) ∧ (r1.2.1.1 = 2 → nv = r1.2.1.2)) ∧ Hid (AftS M C B c fn F y w Ft Fv Fo vv vo deep X wx vt' Ft' r1.2.1.1 fr1 r1.2.2.2 pile Fp (.slice Ap (m + p) cp) Y nv))
        case rest =>
          obtain ⟨xv, nv, Y, vt', Ft', rfl, rfl, ixv, inv, HV, HA⟩ := hcut
          obtain ⟨how, hhow⟩ : ∃ how, r1.2.1.1 = how := ⟨_, rfl⟩
          have HH := Lib.hid hhow
          rw [hhow] at HA HV
          have hbh := HCP.out.how
          rw [hhow] at hbh
          have y0 := HA.out.c0
          have y1 := HA.out.c1
          have hYw : Y < wc.heap.size := World.block_lt_of_cell? wc _ y0
          obtain ⟨b0, b1, bz0, bz1, hXv⟩ := HA.out.end_.cells
          clear hhow
          by_cases h1 : how = 1
          · subst h1
            have HT := Lib.hid (show bTok C (big C N).1 deep (11, (f : Int)) pile fr1 st1 = (pile.take m ++ [xv], (0, 0), fr1, r1.2.2.2) from by
              have := HTOK.out; rw [if_pos HH.out, ← HV.out.1 rfl] at this; exact this)
            obtain ⟨F3, hs3, o3, hF3⟩ := own_upto HA.out.own
            have O3 := Lib.hid o3
            have hm1 : m ≤ 1048576 := by omega
            clear hbh o3 hs2 o2 hF2 hF3 hs1
            go_wp2_with fail
            refine (specOwnB wc 0 wc.heap.size Ap m cp (pile.take m) O3.out.sl (Nat.le_refl _) hm1).mono ?_
            rintro e w6 ⟨v6, rfl, hrow, hb6⟩
            have hsm : ∀ x, x ∈ pile.take m → I64 x := fun x hx => by have := HXV.out.small x (List.mem_of_mem_take hx); unfold I32 at this; unfold I64; omega
            obtain ⟨ho6, hF6⟩ := own_intRow hrow hsm
            obtain ⟨A6, n6, c6, rfl, h66⟩ := ho6.form
            obtain ⟨F6, hE6⟩ : ∃ F6, (Value.slice A6 n6 c6).ownBlock.toList = F6 := ⟨_, rfl⟩
            rw [hE6] at ho6 hF6
            clear hE6
            have HXB := Lib.hid ((HXV.out.aft GG.out hN HT.out HA.out (by omega)).below hb6)
            have HXA := Lib.hid (HXB.out.swap ho6 (fun k hk => by
              have h9 := hF6 k hk
              exact ⟨by omega, fun h => by
                have h8 := (HXV.out.aft GG.out hN HT.out HA.out (by omega)).pre.lt k h
                omega⟩))
            have hptl : (pile.take m).length ≤ 12 := by rw [List.length_take]; omega
            clear h66 ho6 hF6 hrow hsm hb6 y0 y1 hYw b0 b1 bz0 bz1 hXv hs3
            go_wp2_with (at_builtin; refine wpl_own1 _ rfl _ _ 37 rfl intR 3 inf (.int .i64 0) 1 8 Try.underlying37 HIF.out IZ0.out IZ1.out IZ2.out rfl rfl (by decide) (.slice A6 n6 c6) (pile.take m).length (pile.take m) F6 rfl rfl (HXA.out.own.below (show Below w6.heap.size w6 _ by exact belA)) ⟨w6.heap.size, 0, none⟩ 1 [.int .i64 xv] xv [] rfl (cells_new _ _ _ (by simp)) ⟨rfl, rfl, ixv⟩ (by intro u hu; simp at hu; subst hu; rfl) (fun j hj => by cases hj) (by omega) (by decide) ?_)
            intro v8 w8 F8 ho8 hgr hF8
            obtain ⟨A8, n8, c8, rfl, h88⟩ := ho8.form
            clear h88
            have bd : Below w6.heap.size w6 (w6.alloc (.cells #[.int .i64 xv] 3)) := by exact belA
            have HW8 := Lib.hid ((HXA.out.below bd).push ho8 (grown_fr hgr) (fun k hk => by
              rcases hF8 k hk with h | h
              · exact Or.inl h
              · exact Or.inr (by first | omega | (rcases h with h | h; cases h; omega) | (rw [h]; simp))))
            clear ho8 hgr hF8 bd
            go_wp2_with fail
            go_meet
            case rel => exact ⟨n8, c8, A8, Ft', vt', fr1, r1.2.2.2, pile.take m ++ [xv], F8, rfl, HW8⟩
          · have hh : (how != 1) = true := bne_iff_ne.2 h1
            have HRE := Lib.hid (show (0, (how, r1.2.1.2), fr1, r1.2.2.2) = r from by
              have hbt := HTOK.out
              rw [if_neg (by rw [HH.out]; exact h1)] at hbt
              have h8 := HCP.out.how
              rw [← HXV.out.eq, bExpr, hbt]
              simp only
              rw [if_neg (by omega), ← HH.out])
            have iz : I64 0 := by unfold I64; omega
            clear h1
            go_upto_region 23 with fail
            refine wp_region_noPanic ?_
            refine wp_region_hd (S := (fun V' => V'.cell? ⟨Y, 0, none⟩ = some (.int .i64 how) ∧ V'.cell? ⟨Y, 1, none⟩ = some (.int .i64 nv))) 3 (by kernel_rfl) (by kernel_rfl) ⟨y0, y1⟩ (fun hR0 => ?_)
            refine takeH 0 ?_
            refine takeH 1 ?_
            refine wpAnyH_ready (rs := [2]) (by kernel_rfl) (by simp) ?_
            refine AllReadyH.cons (i := 2) rfl (fun K hK => ?_) AllReadyH.nil
            go_simp
            have hXY : Y ≠ X := fun e => by
              have h9 := HA.out.end_.cells.1
              rw [e] at y0
              rw [h9] at y0
              injection y0 with y0
              injection y0 with _ y0
              omega
            refine hK.out _ _ ⟨cell_fr (show Fr [X] wc _ by exact frcA) (by simpa using hXY) y0, cell_fr (show Fr [X] wc _ by exact frcA) (by simpa using hXY) y1⟩ (fun hR2 => ?_)
            clear hK K
            try simp only [Act.put, List.getElem_toArray, List.getElem_cons_zero, List.getElem_cons_succ, List.setIfInBounds_toArray, List.set_cons_zero, List.set_cons_succ]
            refine wpAnyH_done (by kernel_rfl) ?_ _
            refine NoPanic.normal ?_
            clear hR0 hR2
            go_wp2_with fail
            refine bodyPost_ret (v := .tuple #[.int .i64 0, .agg #[.int .i64 how, .int .i64 nv]]) (by simp [results, Try.results122, go_sem, b0, b1, hXv]) rfl ?_
            rw [← HRE.out]
            exact RetExS.fin HA.out.m HA.out.f HA.out.by_ HA.out.sepG iz inv ⟨fun h => by omega, fun h => HV.out.2 h⟩ HA.out.fr_ HA.out.inn HXV.out.hX HXV.out.hXG (by exact frcA)
        case first =>
          refine wp_region_noPanic ?_
          refine wp_region_hd (S := (fun V' => V'.cell? ⟨T, 1, none⟩ = some (.int .i64 f) ∧ V'.cell? ⟨c, 7, none⟩ = some (.int .i64 deep))) 22 (by kernel_rfl) (by kernel_rfl) (hSc.out _ (b1.trans ((show Below V1.heap.size V1 _ by exact beloA).mono b1.size))) (fun hR0 => ?_)
          refine takeH 0 ?_
          refine takeH 1 ?_
          refine takeH 2 ?_
          refine takeH 3 ?_
          refine takeH 4 ?_
          refine takeH 5 ?_
          refine takeH 6 ?_
          refine takeH 7 ?_
          refine takeH 8 ?_
          refine takeH 9 ?_
          refine takeH 10 ?_
          refine takeH 11 ?_
          refine takeH 12 ?_
          refine takeH 13 ?_
          refine wpAnyH_ready (rs := [14, 19]) (by kernel_rfl) (by simp) ?_
          refine AllReadyH.cons (i := 14) rfl (fun K hK => ?_) (AllReadyH.cons (i := 19) rfl (fun K hK => ?_) AllReadyH.nil)
          · go_simp
            refine hK.out _ _ (hSc.out _ (b1.trans ((show Below V1.heap.size V1 _ by exact beloA).mono b1.size))) (fun hR14 => ?_)
            clear hK K
            try simp only [Act.put, List.getElem_toArray, List.getElem_cons_zero, List.getElem_cons_succ, List.setIfInBounds_toArray, List.set_cons_zero, List.set_cons_succ]
            refine wpAnyH_ready (rs := [15, 19]) (by kernel_rfl) (by simp) ?_
            refine AllReadyH.cons (i := 15) rfl (fun K hK => ?_) (AllReadyH.cons (i := 19) rfl (fun K hK => ?_) AllReadyH.nil)
            · go_simp
              go_at_call 54
              obtain ⟨W1, hW1⟩ : ∃ W1, W1 = (V1.alloc (.cells #[.int .i64 0, .int .i64 0, .int .i64 0] 94)).drew := ⟨_, rfl⟩
              have BW1 := Lib.hid (show Below V.heap.size V W1 from by rw [hW1]; exact b1.trans ((show Below V1.heap.size V1 _ by exact beloA).mono b1.size))
              have HZ := Lib.hid (show EnS W1 (V.heap.size) 0 0 0 from by rw [hW1]; exact alloc_new' (by simp [hz1]))
              have hW1z : W1.heap.size = V.heap.size + 1 := by rw [hW1]; simp [hz1]
              have HXW := Lib.hid (HXV.out.below BW1.out)
              have HW1Z := Lib.hid hW1z
              rw [← hW1]
              clear hW1 hW1z
              ((with_reducible refine (HCALL.out W1 (V.heap.size) BW1.out HZ.out (by omega)).mono ?_))
              rintro e w5 ⟨xv, nv, vt', Ft', rfl, ixv, inv, HV, HM, HB5, HFR, HIN, HND⟩
              have HSV := Lib.hid (hSc.out W1 BW1.out)
              have hlt := HXV.out.pre.lt
              have hcn : ∀ Z, Z ≠ M.R → Z ∉ Ft1 → Z ≠ V.heap.size → Z ∉ M.R :: (Ft1 ++ [V.heap.size]) := fun Z h2 h3 h4 h => by
                simp only [List.mem_cons, List.mem_append, List.mem_nil_iff, or_false] at h
                rcases h with h | h | h
                · exact h2 h
                · exact h3 h
                · exact h4 h
              have hMR := hlt M.R (by unfold GB; simp)
              have hsp := HXV.out.pre.sep.parts
              have e5 := cell_fr HFR.out (hcn T (fun h => by have := HXX.out M.R (by unfold GB; simp); omega) (fun h => by have := HXX.out T (by unfold GB; simp [h]); omega) (by omega)) HSV.out.1
              have d5 := cell_fr HFR.out (hcn c (fun h => hsp.2.1 h.symm) hsp.2.2.2.2.1 (by have := hlt c (by unfold GB; simp); omega)) HSV.out.2
              have HZF := Lib.hid (show X < V.heap.size ∧ V.heap.size ∉ GB M Ft1 c Fv Fo (some y) ∧ V.heap.size ∉ Fp from ⟨by omega, fun h => by have := hlt _ h; omega, fun h => by have := HXP.out _ h; omega⟩)
              have hSZ := HFR.out.size
              have hW1z := HW1Z.out
              have hTw5 : T < w5.heap.size := by omega
              have hcw5 : c < w5.heap.size := by have := hlt c (by unfold GB; simp); omega
              obtain ⟨how, hhow⟩ : ∃ how, r1.2.1.1 = how := ⟨_, rfl⟩
              have HH := Lib.hid hhow
              rw [hhow] at HM HV ⊢
              clear hhow hcn hsp hlt
              go_wp2_with fail
              refine hK.out _ _ ⟨e5, d5⟩ (fun hR15 => ?_)
              clear hK K
              try simp only [Act.put, List.getElem_toArray, List.getElem_cons_zero, List.getElem_cons_succ, List.setIfInBounds_toArray, List.set_cons_zero, List.set_cons_succ]
              refine takeH 16 ?_
              refine takeH 17 ?_
              refine takeH 18 ?_
              refine wpAnyH_ready (rs := [19]) (by kernel_rfl) (by simp) ?_
              refine AllReadyH.cons (i := 19) rfl (fun K hK => ?_) AllReadyH.nil
              go_simp
              refine hK.out _ _ ⟨below_cell (show Below w5.heap.size w5 _ by exact beloA) e5, below_cell (show Below w5.heap.size w5 _ by exact beloA) d5⟩ (fun hR19 => ?_)
              clear hK K
              try simp only [Act.put, List.getElem_toArray, List.getElem_cons_zero, List.getElem_cons_succ, List.setIfInBounds_toArray, List.set_cons_zero, List.set_cons_succ]
              refine takeH 20 ?_
              refine wpAnyH_ready (rs := [21]) (by kernel_rfl) (by simp) ?_
              refine AllReadyH.cons (i := 21) rfl (fun K hK => ?_) AllReadyH.nil
              go_simp
              refine hK.out _ _ ⟨cell_fr (show Fr [w5.heap.size] w5 _ by exact frcA) (by simp; omega) e5, cell_fr (show Fr [w5.heap.size] w5 _ by exact frcA) (by simp; have := HXV.out.pre.lt c (by unfold GB; simp); omega) d5⟩ (fun hR21 => ?_)
              clear hK K
              try simp only [Act.put, List.getElem_toArray, List.getElem_cons_zero, List.getElem_cons_succ, List.setIfInBounds_toArray, List.set_cons_zero, List.set_cons_succ]
              refine wpAnyH_done (by kernel_rfl) ?_ _
              refine NoPanic.normal ?_
              go_wp2_with fail
              go_meet
              case rel =>
                refine ⟨xv, nv, w5.heap.size, vt', Ft', rfl, rfl, ixv, inv, by rw [HH.out]; exact HV, Lib.hid ?_⟩
                rw [HH.out]
                exact aft_mk HXW.out HZF.out HFR.out HIN.out HND.out HM.out (show Fr [w5.heap.size] w5 _ by exact frcA) (by omega) (fun h => by have := HXV.out.pre.lt _ h; omega) (fun h => by have := HXP.out _ h; omega) (Or.inr (Nat.le_refl _)) (by simp [go_sem]) (by simp [go_sem])
            · go_simp
              refine hK.out _ _ (hSc.out _ (b1.trans ((show Below V1.heap.size V1 _ by exact beloA).mono b1.size))) (fun hR19 => ?_)
              clear hK K
              try simp only [Act.put, List.getElem_toArray, List.getElem_cons_zero, List.getElem_cons_succ, List.setIfInBounds_toArray, List.set_cons_zero, List.set_cons_succ]
              refine wpAnyH_ready (rs := [15]) (by kernel_rfl) (by simp) ?_
              refine AllReadyH.cons (i := 15) rfl (fun K hK => ?_) AllReadyH.nil
              go_simp
              go_at_call 54
              obtain ⟨W1, hW1⟩ : ∃ W1, W1 = ((V1.alloc (.cells #[.int .i64 0, .int .i64 0, .int .i64 0] 94)).alloc (.cells #[.int .i64 0, .int .i64 0] 89)).drew := ⟨_, rfl⟩
              have BW1 := Lib.hid (show Below V.heap.size V W1 from by rw [hW1]; exact b1.trans ((show Below V1.heap.size V1 _ by exact beloA).mono b1.size))
              have HZ := Lib.hid (show EnS W1 (V.heap.size) 0 0 0 from by rw [hW1]; exact below_at (show Below (V1.alloc (.cells #[.int .i64 0, .int .i64 0, .int .i64 0] 94)).heap.size (V1.alloc (.cells #[.int .i64 0, .int .i64 0, .int .i64 0] 94)) _ by exact beloA) (by simp [hz1]) (alloc_new' hz1))
              have HY := Lib.hid (show EndB W1 (V.heap.size + 1) from by rw [hW1]; exact alloc_new' (by simp [hz1]))
              have hW1z : W1.heap.size = V.heap.size + 2 := by rw [hW1]; simp [hz1]
              have HXW := Lib.hid (HXV.out.below BW1.out)
              have HW1Z := Lib.hid hW1z
              rw [← hW1]
              clear hW1 hW1z
              ((with_reducible refine (HCALL.out W1 (V.heap.size) BW1.out HZ.out (by omega)).mono ?_))
              rintro e w5 ⟨xv, nv, vt', Ft', rfl, ixv, inv, HV, HM, HB5, HFR, HIN, HND⟩
              have HSV := Lib.hid (hSc.out W1 BW1.out)
              have hlt := HXV.out.pre.lt
              have hcn : ∀ Z, Z ≠ M.R → Z ∉ Ft1 → Z ≠ V.heap.size → Z ∉ M.R :: (Ft1 ++ [V.heap.size]) := fun Z h2 h3 h4 h => by
                simp only [List.mem_cons, List.mem_append, List.mem_nil_iff, or_false] at h
                rcases h with h | h | h
                · exact h2 h
                · exact h3 h
                · exact h4 h
              have hMR := hlt M.R (by unfold GB; simp)
              have hsp := HXV.out.pre.sep.parts
              have e5 := cell_fr HFR.out (hcn T (fun h => by have := HXX.out M.R (by unfold GB; simp); omega) (fun h => by have := HXX.out T (by unfold GB; simp [h]); omega) (by omega)) HSV.out.1
              have d5 := cell_fr HFR.out (hcn c (fun h => hsp.2.1 h.symm) hsp.2.2.2.2.1 (by have := hlt c (by unfold GB; simp); omega)) HSV.out.2
              have HY5 := Lib.hid (show EndB w5 (V.heap.size + 1) from fr_atX HFR.out (hcn (V.heap.size + 1) (by omega) (fun h => by have := hlt (V.heap.size + 1) (by unfold GB; simp [h]); omega) (by omega)) HY.out)
              have HZF := Lib.hid (show X < V.heap.size ∧ V.heap.size ∉ GB M Ft1 c Fv Fo (some y) ∧ V.heap.size ∉ Fp from ⟨by omega, fun h => by have := hlt _ h; omega, fun h => by have := HXP.out _ h; omega⟩)
              have hSZ := HFR.out.size
              have hW1z := HW1Z.out
              have hTw5 : T < w5.heap.size := by omega
              have hcw5 : c < w5.heap.size := by have := hlt c (by unfold GB; simp); omega
              obtain ⟨how, hhow⟩ : ∃ how, r1.2.1.1 = how := ⟨_, rfl⟩
              have HH := Lib.hid hhow
              rw [hhow] at HM HV ⊢
              clear hhow hcn hsp hlt
              go_wp2_with fail
              refine hK.out _ _ ⟨e5, d5⟩ (fun hR15 => ?_)
              clear hK K
              try simp only [Act.put, List.getElem_toArray, List.getElem_cons_zero, List.getElem_cons_succ, List.setIfInBounds_toArray, List.set_cons_zero, List.set_cons_succ]
              refine takeH 16 ?_
              refine takeH 17 ?_
              refine takeH 18 ?_
              obtain ⟨y0, y1, yz0, yz1, hYw⟩ := HY5.out.cells
              refine takeH 20 ?_
              refine wpAnyH_ready (rs := [21]) (by kernel_rfl) (by simp) ?_
              refine AllReadyH.cons (i := 21) rfl (fun K hK => ?_) AllReadyH.nil
              go_simp
              refine hK.out _ _ ⟨cell_fr (show Fr [(V.heap.size + 1)] w5 _ by exact frcA) (by simp; omega) e5, cell_fr (show Fr [(V.heap.size + 1)] w5 _ by exact frcA) (by simp; have := HXV.out.pre.lt c (by unfold GB; simp); omega) d5⟩ (fun hR21 => ?_)
              clear hK K
              try simp only [Act.put, List.getElem_toArray, List.getElem_cons_zero, List.getElem_cons_succ, List.setIfInBounds_toArray, List.set_cons_zero, List.set_cons_succ]
              refine wpAnyH_done (by kernel_rfl) ?_ _
              refine NoPanic.normal ?_
              go_wp2_with fail
              go_meet
              case rel =>
                refine ⟨xv, nv, (V.heap.size + 1), vt', Ft', rfl, rfl, ixv, inv, by rw [HH.out]; exact HV, Lib.hid ?_⟩
                rw [HH.out]
                exact aft_mk HXW.out HZF.out HFR.out HIN.out HND.out HM.out (show Fr [(V.heap.size + 1)] w5 _ by exact frcA) (by omega) (fun h => by have := HXV.out.pre.lt _ h; omega) (fun h => by have := HXP.out _ h; omega) (Or.inl (by omega)) (by simp [go_sem, y0, y1, hYw]) (by simp [go_sem, y0, y1, hYw])
          · go_simp
            refine hK.out _ _ (hSc.out _ (b1.trans ((show Below V1.heap.size V1 _ by exact beloA).mono b1.size))) (fun hR19 => ?_)
            clear hK K
            try simp only [Act.put, List.getElem_toArray, List.getElem_cons_zero, List.getElem_cons_succ, List.setIfInBounds_toArray, List.set_cons_zero, List.set_cons_succ]
            refine wpAnyH_ready (rs := [14]) (by kernel_rfl) (by simp) ?_
            refine AllReadyH.cons (i := 14) rfl (fun K hK => ?_) AllReadyH.nil
            go_simp
            refine hK.out _ _ (hSc.out _ (b1.trans ((show Below V1.heap.size V1 _ by exact beloA).mono b1.size))) (fun hR14 => ?_)
            clear hK K
            try simp only [Act.put, List.getElem_toArray, List.getElem_cons_zero, List.getElem_cons_succ, List.setIfInBounds_toArray, List.set_cons_zero, List.set_cons_succ]
            refine wpAnyH_ready (rs := [15]) (by kernel_rfl) (by simp) ?_
            refine AllReadyH.cons (i := 15) rfl (fun K hK => ?_) AllReadyH.nil
            go_simp
            go_at_call 54
            obtain ⟨W1, hW1⟩ : ∃ W1, W1 = ((V1.alloc (.cells #[.int .i64 0, .int .i64 0] 89)).alloc (.cells #[.int .i64 0, .int .i64 0, .int .i64 0] 94)).drew := ⟨_, rfl⟩
            have BW1 := Lib.hid (show Below V.heap.size V W1 from by rw [hW1]; exact b1.trans ((show Below V1.heap.size V1 _ by exact beloA).mono b1.size))
            have HZ := Lib.hid (show EnS W1 (V.heap.size + 1) 0 0 0 from by rw [hW1]; exact alloc_new' (by simp [hz1]))
            have HY := Lib.hid (show EndB W1 (V.heap.size) from by rw [hW1]; exact below_at (show Below (V1.alloc (.cells #[.int .i64 0, .int .i64 0] 89)).heap.size (V1.alloc (.cells #[.int .i64 0, .int .i64 0] 89)) _ by exact beloA) (by simp [hz1]) (alloc_new' hz1))
            have hW1z : W1.heap.size = V.heap.size + 2 := by rw [hW1]; simp [hz1]
            have HXW := Lib.hid (HXV.out.below BW1.out)
            have HW1Z := Lib.hid hW1z
            rw [← hW1]
            clear hW1 hW1z
            ((with_reducible refine (HCALL.out W1 (V.heap.size + 1) BW1.out HZ.out (by omega)).mono ?_))
            rintro e w5 ⟨xv, nv, vt', Ft', rfl, ixv, inv, HV, HM, HB5, HFR, HIN, HND⟩
            have HSV := Lib.hid (hSc.out W1 BW1.out)
            have hlt := HXV.out.pre.lt
            have hcn : ∀ Z, Z ≠ M.R → Z ∉ Ft1 → Z ≠ V.heap.size + 1 → Z ∉ M.R :: (Ft1 ++ [V.heap.size + 1]) := fun Z h2 h3 h4 h => by
              simp only [List.mem_cons, List.mem_append, List.mem_nil_iff, or_false] at h
              rcases h with h | h | h
              · exact h2 h
              · exact h3 h
              · exact h4 h
            have hMR := hlt M.R (by unfold GB; simp)
            have hsp := HXV.out.pre.sep.parts
            have e5 := cell_fr HFR.out (hcn T (fun h => by have := HXX.out M.R (by unfold GB; simp); omega) (fun h => by have := HXX.out T (by unfold GB; simp [h]); omega) (by omega)) HSV.out.1
            have d5 := cell_fr HFR.out (hcn c (fun h => hsp.2.1 h.symm) hsp.2.2.2.2.1 (by have := hlt c (by unfold GB; simp); omega)) HSV.out.2
            have HY5 := Lib.hid (show EndB w5 (V.heap.size) from fr_atX HFR.out (hcn (V.heap.size) (by omega) (fun h => by have := hlt (V.heap.size) (by unfold GB; simp [h]); omega) (by omega)) HY.out)
            have HZF := Lib.hid (show X < V.heap.size + 1 ∧ V.heap.size + 1 ∉ GB M Ft1 c Fv Fo (some y) ∧ V.heap.size + 1 ∉ Fp from ⟨by omega, fun h => by have := hlt _ h; omega, fun h => by have := HXP.out _ h; omega⟩)
            have hSZ := HFR.out.size
            have hW1z := HW1Z.out
            have hTw5 : T < w5.heap.size := by omega
            have hcw5 : c < w5.heap.size := by have := hlt c (by unfold GB; simp); omega
            obtain ⟨how, hhow⟩ : ∃ how, r1.2.1.1 = how := ⟨_, rfl⟩
            have HH := Lib.hid hhow
            rw [hhow] at HM HV ⊢
            clear hhow hcn hsp hlt
            go_wp2_with fail
            refine hK.out _ _ ⟨e5, d5⟩ (fun hR15 => ?_)
            clear hK K
            try simp only [Act.put, List.getElem_toArray, List.getElem_cons_zero, List.getElem_cons_succ, List.setIfInBounds_toArray, List.set_cons_zero, List.set_cons_succ]
            refine takeH 16 ?_
            refine takeH 17 ?_
            refine takeH 18 ?_
            obtain ⟨y0, y1, yz0, yz1, hYw⟩ := HY5.out.cells
            refine takeH 20 ?_
            refine wpAnyH_ready (rs := [21]) (by kernel_rfl) (by simp) ?_
            refine AllReadyH.cons (i := 21) rfl (fun K hK => ?_) AllReadyH.nil
            go_simp
            refine hK.out _ _ ⟨cell_fr (show Fr [V.heap.size] w5 _ by exact frcA) (by simp; omega) e5, cell_fr (show Fr [V.heap.size] w5 _ by exact frcA) (by simp; have := HXV.out.pre.lt c (by unfold GB; simp); omega) d5⟩ (fun hR21 => ?_)
            clear hK K
            try simp only [Act.put, List.getElem_toArray, List.getElem_cons_zero, List.getElem_cons_succ, List.setIfInBounds_toArray, List.set_cons_zero, List.set_cons_succ]
            refine wpAnyH_done (by kernel_rfl) ?_ _
            refine NoPanic.normal ?_
            go_wp2_with fail
            go_meet
            case rel =>
              refine ⟨xv, nv, V.heap.size, vt', Ft', rfl, rfl, ixv, inv, by rw [HH.out]; exact HV, Lib.hid ?_⟩
              rw [HH.out]
              exact aft_mk HXW.out HZF.out HFR.out HIN.out HND.out HM.out (show Fr [V.heap.size] w5 _ by exact frcA) (by omega) (fun h => by have := HXV.out.pre.lt _ h; omega) (fun h => by have := HXP.out _ h; omega) (Or.inl (by omega)) (by simp [go_sem, y0, y1, hYw]) (by simp [go_sem, y0, y1, hYw])
      · have hnd : needF (t0, t1) (paramsF C.p) = 2 := by
          unfold needF
          rw [if_neg (by simp only; omega), if_pos (inB_true (by simp only; omega))]
        rw [hnd] at hneed
        have hnl := HNL.out
        have ha := HNA.out
        obtain ⟨m, hm⟩ : ∃ m, np = m + 2 := ⟨np - 2, by omega⟩
        subst hm
        have hpm : pile.length = m + 2 := hnl.symm
        obtain ⟨F2, hs2, o2, hF2⟩ := own_upto HXV.out.own
        rcases ha with ⟨_, ha, _⟩ | ⟨g, rfl, hca⟩
        · omega
        obtain ⟨b', o', he', _, _, hc0, ig0⟩ := HXV.out.own.sl.int_at (k := m) (by omega)
        simp only [Option.some.injEq, Addr.mk.injEq, and_true] at he'
        obtain ⟨rfl, rfl⟩ := he'
        obtain ⟨b', o', he', _, _, hc1, ig1⟩ := HXV.out.own.sl.int_at (k := m + 1) (by omega)
        simp only [Option.some.injEq, Addr.mk.injEq, and_true] at he'
        obtain ⟨rfl, rfl⟩ := he'
        rw [Nat.zero_add] at hc0 hc1
        have hx3 := HXV.out.small _ (List.getElem_mem (show m < pile.length by omega))
        have hy3 := HXV.out.small _ (List.getElem_mem (show m + 1 < pile.length by omega))
        obtain ⟨x, hx⟩ : ∃ x, pile[m] = x := ⟨_, rfl⟩
        obtain ⟨z, hz⟩ : ∃ z, pile[m + 1] = z := ⟨_, rfl⟩
        rw [hx] at hc0 ig0 hx3
        rw [hz] at hc1 ig1 hy3
        have HTOK := Lib.hid (show bTok C (big C N).1 deep (t0, t1) pile fr1 st1 = (if recB t0 z = true then (pile.take m ++ [recN t0 x z], (0, 0), fr1, st1) else (pile, (2, -1), fr1, st1)) from by
          have htop : pile.length - 2 = m := by omega
          have hx' : pile.getD m 0 = x := by rw [← hx, List.getD_eq_getElem?_getD, List.getElem?_eq_getElem (by omega)]; rfl
          have hz' : pile.getD (m + 1) 0 = z := by rw [← hz, List.getD_eq_getElem?_getD, List.getElem?_eq_getElem (by omega)]; rfl
          unfold bTok
          simp only
          rw [if_neg (by omega), if_neg (by omega), if_neg (by omega), if_neg (by omega), if_neg (by omega), htop, hx', hz'])
        have hb1 : (t0 == 1) = false := beq_eq_false_iff_ne.2 (by omega)
        have hb2 : (t0 == 2) = false := beq_eq_false_iff_ne.2 (by omega)
        have hb3 : (t0 == 9) = false := beq_eq_false_iff_ne.2 (by omega)
        have hb4 : (t0 == 10) = false := beq_eq_false_iff_ne.2 (by omega)
        have hb5 : (t0 == 11) = false := beq_eq_false_iff_ne.2 (by omega)
        have hm12 : m + 2 ≤ 12 := by omega
        have hq1 : (m : Int) + 2 - 1 = (m : Int) + 1 := by omega
        have hmc : (m : Int) + 1 < (m : Int) + 2 := by omega
        have hm0 : (0 : Int) ≤ (m : Int) + 1 := by omega
        have hmw : IntKind.i64.wrap ((m : Int) + 1) = (m : Int) + 1 := IntWalk.i64_in _ (by omega)
        have hmw0 : IntKind.i64.wrap (m : Int) = (m : Int) := IntWalk.i64_in _ (by omega)
        have hmc0 : (m : Int) < (m : Int) + 2 := by omega
        obtain ⟨bo, hbo⟩ : ∃ bo, recB t0 z = bo := ⟨_, rfl⟩
        have HBO := Lib.hid hbo
        have hSS := Lib.hid (show ∀ V', Below V.heap.size V V' → V'.cell? ⟨T, 0, none⟩ = some (.int .i64 t0) ∧ V'.cell? ⟨g, m, none⟩ = some (.int .i64 x) ∧ V'.cell? ⟨g, m + 1, none⟩ = some (.int .i64 z) from fun V' hV' => ⟨(hS.out V' hV').1, below_cell hV' hc0, below_cell hV' hc1⟩)
        clear hok hneed hnd hnl hx hz hbo hc0 hc1 hkind hca
        go_upto_region 7 with fail
        clear e0 e1
        refine wp_region_noPanic ?_
        refine wp_region_hd (S := (fun V' => V'.cell? ⟨T, 0, none⟩ = some (.int .i64 t0) ∧ V'.cell? ⟨g, m, none⟩ = some (.int .i64 x) ∧ V'.cell? ⟨g, m + 1, none⟩ = some (.int .i64 z))) 18 (by kernel_rfl) (by kernel_rfl) (hSS.out _ (show Below V.heap.size V _ by exact beloA)) (fun hR0 => ?_)
        refine takeH 0 ?_
        refine takeH 1 ?_
        refine takeH 2 ?_
        refine takeH 3 ?_
        refine takeH 4 ?_
        refine takeH 5 ?_
        refine takeH 6 ?_
        refine takeH 7 ?_
        refine takeH 8 ?_
        refine takeH 9 ?_
        refine takeH 10 ?_
        refine takeH 11 ?_
        refine wpAnyH_ready (rs := [12]) (by kernel_rfl) (by simp) ?_
        refine AllReadyH.cons (i := 12) rfl (fun K hK => ?_) AllReadyH.nil
        go_simp
        go_at_call 133
        ((with_reducible refine (specL2Reckon _ t0 x z hx3 hy3).mono ?_))
        rintro e w5 ⟨rfl, rfl⟩
        rw [HBO.out]
        go_wp2_with fail
        refine hK.out _ _ hR0 (fun hR11 => ?_)
        clear hK K
        try simp only [Act.put, List.getElem_toArray, List.getElem_cons_zero, List.getElem_cons_succ, List.setIfInBounds_toArray, List.set_cons_zero, List.set_cons_succ]
        refine takeH 13 ?_
        refine takeH 14 ?_
        refine takeH 15 ?_
        refine takeH 16 ?_
        refine takeH 17 ?_
        refine wpAnyH_done (by kernel_rfl) ?_ _
        refine NoPanic.normal ?_
        clear hR0 hR11
        have bw : Below V.heap.size V V.drew := by exact belA
        cases bo
        · have HRE := Lib.hid (show (0, (2, -1), fr1, st1) = r from by
            have hbt := HTOK.out
            rw [HBO.out, if_neg (by simp)] at hbt
            rw [← HXV.out.eq, bExpr, hbt]
            simp)
          obtain ⟨q0, q1, qz0, qz1, hXd⟩ := HXV.out.end_.cells
          go_wp2_with fail
          refine bodyPost_ret (v := .tuple #[.int .i64 0, .agg #[.int .i64 2, .int .i64 (-1)]]) (by simp [results, Try.results122, go_sem, q0, q1, hXd]) rfl ?_
          rw [← HRE.out]
          exact RetExS.fin (MwS.of HXV.out.pre.m) HXV.out.pre.f HXV.out.pre.by_ HXV.out.pre.sep (by unfold I64; omega) (by unfold I64; omega) ⟨fun h => by simp at h, fun _ => rfl⟩ HXV.out.fr_ HXV.out.inn HXV.out.hX HXV.out.hXG (by exact frcA)
        · have HT := Lib.hid (show bTok C (big C N).1 deep (t0, t1) pile fr1 st1 = (pile.take m ++ [recN t0 x z], (0, 0), fr1, st1) from by
            have := HTOK.out; rw [if_pos HBO.out] at this; exact this)
          obtain ⟨rn, hrn⟩ : ∃ rn, recN t0 x z = rn := ⟨_, rfl⟩
          have hri : I64 rn := by rw [← hrn]; have := recN_small t0 x z; unfold I32 at this; unfold I64; omega
          have HXA := Lib.hid ((HXV.out.tok GG.out hN HT.out o2 hF2).below bw)
          rw [hrn] at HXA ⊢
          obtain ⟨VD, hVD⟩ : ∃ VD, VD = V.drew := ⟨_, rfl⟩
          rw [← hVD] at HXA ⊢
          have hptl : (pile.take m).length ≤ 12 := by rw [List.length_take]; omega
          clear hrn hVD bw hpm
          go_wp2_with (at_builtin; refine wpl_own1 _ rfl _ _ 37 rfl intR 3 inf (.int .i64 0) 1 8 Try.underlying37 HIF.out IZ0.out IZ1.out IZ2.out rfl rfl (by decide) (.slice (some ⟨g, 0, none⟩) m cp) (pile.take m).length (pile.take m) F2 rfl rfl (HXA.out.own.below (show Below VD.heap.size VD _ by exact belA)) ⟨VD.heap.size, 0, none⟩ 1 [.int .i64 rn] rn [] rfl (cells_new _ _ _ (by simp)) ⟨rfl, rfl, hri⟩ (by intro u hu; simp at hu; subst hu; rfl) (fun j hj => by cases hj) (by omega) (by decide) ?_)
          intro v8 w8 F8 ho8 hgr hF8
          obtain ⟨A8, n8, c8, rfl, h88⟩ := ho8.form
          clear h88
          have bd : Below VD.heap.size VD (VD.alloc (.cells #[.int .i64 rn] 3)) := by exact belA
          have HW8 := Lib.hid ((HXA.out.below bd).push ho8 (grown_fr hgr) (fun k hk => by
            rcases hF8 k hk with h | h
            · exact Or.inl h
            · exact Or.inr (by first | omega | (rcases h with h | h; cases h; omega) | (rw [h]; simp))))
          clear ho8 hgr hF8 bd
          go_wp2_with fail
          go_meet
          case rel => exact ⟨n8, c8, A8, Ft1, vt1, fr1, st1, pile.take m ++ [rn], F8, rfl, HW8⟩
end Go.Proofs.Ytgoinmdnpaknpaa
