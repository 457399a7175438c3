/- Programs done with fuel: an expression. The program's walk. -/
import Derived.Test.YtgoinmdnpaknpaaBigX
import Derived.Test.YtgoinmdnpaknpaaRegCut
import Derived.Deep.DeepCutAuto
import Derived.Deep.CutBlock
import Derived.Deep.QuietTactic
import Derived.BigQuiet
set_option linter.unusedVariables false
set_option linter.unusedSimpArgs false
set_option maxRecDepth 100000
namespace Go.Proofs.Ytgoinmdnpaknpaa
open Go.RowKit
attribute [local irreducible] wpList
theorem own_addr {w : World} {e : TypeId} {F : List Nat} {A : Option Addr} {n c : Nat} {l : List Int} (h : OwnSl intR w e F (.slice A n c) l) : n = l.length ∧ ((A = none ∧ n = 0 ∧ c = 0) ∨ (∃ g, A = some ⟨g, 0, none⟩ ∧ n ≤ c)) := by
  obtain ⟨xs, h1, _, h2⟩ := h.row'
  obtain ⟨h3, h4⟩ := ownsRow_cases h1
  refine ⟨h2.symm, ?_⟩
  rcases h4 with h4 | ⟨g, h5, h6, _⟩
  · exact Or.inl h4
  · exact Or.inr ⟨g, h5, h6⟩
/-- The rest of a pile from a place on, as a slice's value. -/
theorem own_from {w : World} {e : TypeId} {F : List Nat} {A : Option Addr} {m p c : Nat} {l : List Int} (h : OwnSl intR w e F (.slice A (m + p) c) l) :
    ∃ A1 c1, (∀ V, (Instr.slice 37 (.slice A (m + p) c) (some (.int .i64 (m : Int))) none none).run Try.prog V = .ok (.slice A1 p c1) V) ∧ Sl intR w 0 w.heap.size A1 p c1 (l.drop m) ∧ ∀ a, A1 = some a → a.block ∈ F := by
  obtain ⟨hl, ha⟩ := own_addr h
  have hs := h.sl
  obtain ⟨s1, s2, s3, s4⟩ := hs
  have hbl : ∀ a, A = some a → a.block ∈ F := fun a e => by
    rcases ha with ⟨rfl, _⟩ | ⟨g, rfl, _⟩
    · cases e
    · injection e with e; subst e; exact h.ownB g rfl
  by_cases hcm : c = m
  · refine ⟨A, 0, fun V => ?_, ?_, hbl⟩
    · rw [run_slice_l V 37 A (m + p) c Try.underlying37 .i64 (m : Int) (by omega) (by omega)]
      have hp : p = 0 := by omega
      subst hp hcm
      simp [go_sem]
    · have hp : p = 0 := by omega
      subst hp
      exact ⟨by rw [List.length_drop]; omega, Nat.le_refl _, by omega, fun h => absurd h (by omega)⟩
  · rcases ha with ⟨rfl, h1, h2⟩ | ⟨g, rfl, h1⟩
    · omega
    · refine ⟨some ⟨g, m, none⟩, c - m, fun V => ?_, ?_, fun a e => by injection e with e; subst e; exact h.ownB g rfl⟩
      · rw [run_slice_l V 37 (some ⟨g, 0, none⟩) (m + p) c Try.underlying37 .i64 (m : Int) (by omega) (by omega)]
        simp [go_sem, hcm, Addr.add]
        try omega
      · refine ⟨by rw [List.length_drop]; omega, by omega, by omega, fun hp => ?_⟩
        obtain ⟨b, off, hb, hb1, hb2, h5⟩ := s4 (by omega)
        simp only [Option.some.injEq, Addr.mk.injEq, and_true] at hb
        obtain ⟨rfl, rfl⟩ := hb
        refine ⟨g, m, rfl, hb1, hb2, fun i hi => ?_⟩
        rw [List.length_drop] at hi
        obtain ⟨cs, hr, hc⟩ := h5 (m + i) (by omega)
        refine ⟨cs, by rw [List.getElem_drop]; exact hr, fun j hj => ?_⟩
        have := hc j hj
        rw [← this, Nat.zero_add, Nat.add_mul]
        simp [intR, flatR, Nat.add_assoc]
/-- The pile up to a place, as a slice's value. -/
theorem own_upto {w : World} {e : TypeId} {F : List Nat} {A : Option Addr} {m p c : Nat} {l : List Int} (h : OwnSl intR w e F (.slice A (m + p) c) l) :
    ∃ F', (∀ V, (Instr.slice 37 (.slice A (m + p) c) none (some (.int .i64 (m : Int))) none).run Try.prog V = .ok (.slice A m c) V) ∧ OwnSl intR w e F' (.slice A m c) (l.take m) ∧ ∀ k, k ∈ F' → k ∈ F := by
  obtain ⟨hl, ha⟩ := own_addr h
  have hs := h.sl
  obtain ⟨s1, s2, s3, s4⟩ := hs
  have hv : ∀ V, (Instr.slice 37 (.slice A (m + p) c) none (some (.int .i64 (m : Int))) none).run Try.prog V = .ok (.slice A m c) V := fun V => by
    rw [run_slice_h V 37 A (m + p) c Try.underlying37 .i64 (m : Int) (by omega) (by omega)]
    cases A <;> simp [go_sem, Addr.add]
  rcases ha with ⟨rfl, h1, h2⟩ | ⟨g, rfl, h1⟩
  · have e1 : m = 0 := by omega
    have e2 : p = 0 := by omega
    subst e1 e2
    refine ⟨F, hv, ?_, fun k hk => hk⟩
    have e3 : l = [] := by cases l with
      | nil => rfl
      | cons a l => simp at hl
    subst e3
    exact h
  · obtain ⟨F', h2, h3⟩ := h.cut m (by omega)
    exact ⟨F', hv, h2, h3⟩
theorem ExSt.back {M : MCfg} {C : BCfg} {N B c fn : Nat} {y : Option Nat} {w wr w' : World} {Ft Fv Fo Ft1 Ft2 : List Nat} {vv vo : Value} {deep : Nat} {fr : BFr} {r : Int × BRes × BFr × BSt} {vt1 vt2 : Value} {fr1 : BFr} {st1 st2 : BSt} {rs : List Tok} {pile : List Int} {Fp : List Nat} {A : Option Addr} {m p cp : Nat} {t : Tok} {n : Int} (G : CfgG C) (hN : N ≤ 600)
    (h : ExSt M C N B c fn y w Ft Fv Fo vv vo deep fr r wr Ft1 vt1 fr1 st1 (t :: rs) pile pile Fp (.slice A (m + p) cp)) (hb : bTok C (big C N).1 deep t pile fr1 st1 = (pile.take m ++ [n], (0, 0), fr1, st2)) (hm : MSt M C w' deep 0 vt2 Ft2 st2) (hf : Fr (M.R :: (Ft1 ++ (none : Option Nat).toList)) wr w') (hin : ∀ k, k ∈ Ft2 → k ∈ Ft1 ∨ wr.heap.size ≤ k) (hnd : (M.R :: (Ft2 ++ (none : Option Nat).toList)).Nodup) :
    ∃ F', ExSt M C N B c fn y w Ft Fv Fo vv vo deep fr r w' Ft2 vt2 fr1 st2 rs (pile.take m ++ [n]) (pile.take m) F' (.slice A m cp) := by
  obtain ⟨a1, a2, a3, a4, a5, a6, a7⟩ := h.next G hN hb
  obtain ⟨q1, q2, q3, q4, q5, q6, q7, q8, q9⟩ := h.called hf hin hnd
  obtain ⟨F', _, o2, o3⟩ := own_upto q8
  exact ⟨F', ⟨q1, hm, q2, q3, q4, h.pre.fnl, a5, a6, h.pre.deep⟩, a7, q5, q6, q7, o2, fun k hk => q9 k (o3 k hk), a2, a1, a3, a4, h.base⟩
set_option maxHeartbeats 16000000 in
theorem implExpr {M : MCfg} {C : BCfg} {N : Nat} (G : CfgG C) (hN : N ≤ 600) (HCl : CallI M C N) : ExprI M C N := by
  intro B c fn y w Ft Fv Fo vt vv vo deep fr st A n cc ts hpre hfu hln htk hsl
  have HP := Lib.hid hpre
  have HSL := Lib.hid hsl
  unfold CallI at HCl
  have HCL := Lib.hid HCl
  have GG := Lib.hid G
  have HSEP := Lib.hid hpre.sep
  obtain ⟨r, hr⟩ : ∃ r, bExpr C (big C N).1 deep ts [] fr st = r := ⟨_, rfl⟩
  rw [hr]
  have HE := Lib.hid (show ExSt M C N B c fn y w Ft Fv Fo vv vo deep fr r w Ft vt fr st (ts.drop 0) [] [] [] (.slice none 0 0) from ⟨hpre, hfu, Fr.refl _ _, fun k hk => Or.inl hk, ByUp.refl hpre.by_, OwnSl.nil_ .., by simp, by simp, by simpa using htk, by simpa using hln, hr, hpre.ctx.le⟩)
  have HLEN := Lib.hid hsl.lenEq
  have HTL := Lib.hid hln
  have hB := hpre.ctx.le
  obtain ⟨inf, hif, iz0, iz1, iz2⟩ := info_parts Try.infoIntB
  have HIF := Lib.hid hif
  have IZ0 := Lib.hid iz0
  have IZ1 := Lib.hid iz1
  have IZ2 := Lib.hid iz2
  have hn12 : n ≤ 12 := by have := hsl.lenEq; omega
  clear hpre hsl HCl G hr htk hfu hln hif iz0 iz1 iz2
  go_enter Try.func126, Try.ntmps126
  go_wp2_with fail
  go_loopw [8, 20] (fun pv iv wr => ∃ (k np cp : Nat) (Ap : Option Addr) (Ft1 : List Nat) (vt1 : Value) (fr1 : BFr) (st1 : BSt) (pile : List Int) (Fp : List Nat), k ≤ n ∧ iv = .int .i64 k ∧ pv = .slice Ap np cp ∧ Hid (ExSt M C N B c fn y w Ft Fv Fo vv vo deep fr r wr Ft1 vt1 fr1 st1 (ts.drop k) pile pile Fp (.slice Ap np cp))) (fun _ iv _ => n - (intOf iv).toNat)
  case atStart => exact ⟨0, 0, 0, none, Ft, vt, fr, st, [], [], Nat.zero_le _, rfl, rfl, HE⟩
  case round =>
    clear HE HP
    obtain ⟨k, np, cp, Ap, Ft1, vt1, fr1, st1, pile, Fp, hk, rfl, rfl, HE⟩ := hrel
    by_cases hlt : k < n
    rotate_left
    · have hkn : k = n := by omega
      have hd : ts.drop k = [] := List.drop_of_length_le (by have := HLEN.out; omega)
      have he := HE.out.eq
      have ho := HE.out.ok
      rw [hd] at he ho
      have hl1 : pile.length = 1 := by have : (pile.length : Int) = 1 := ho; omega
      obtain ⟨x, rfl⟩ : ∃ x, pile = [x] := by
        cases pile with
        | nil => simp at hl1
        | cons a l => cases l with
          | nil => exact ⟨a, rfl⟩
          | cons b l => simp at hl1
      have hx := HE.out.small x (by simp)
      obtain ⟨A', n', c', he', hn'⟩ := HE.out.own.form
      simp only [Value.slice.injEq] at he'
      obtain ⟨rfl, rfl, rfl⟩ := he'
      simp only [List.length_singleton] at hn'
      subst hn'
      obtain ⟨g, o, rfl, _, hgw, hc0, _⟩ := HE.out.own.sl.int_at (k := 0) (by omega)
      simp only [Nat.add_zero, List.getElem_cons_zero] at hc0
      have HRE := Lib.hid (show (x, (0, 0), fr1, st1) = r from by rw [← he]; rfl)
      have hki : ¬ (k : Int) < (n : Int) := by omega
      clear he ho hd hl1 hlt hkn
      go_wp2_with fail
      refine bodyPost_ret (v := .tuple #[.int .i64 x, .int .i64 0]) (by simp [results, Try.results126, go_sem]) rfl ?_
      rw [← HRE.out]
      exact ⟨x, deep, 0, vt1, Ft1, rfl, by unfold I32 at hx; unfold I64; omega, Lib.hid ⟨fun _ => rfl, fun h => by simp at h⟩, Lib.hid HE.out.pre.m, Lib.hid HE.out.pre.f, Lib.hid HE.out.by_, Lib.hid ⟨fun _ => ⟨rfl, rfl⟩, fun h => by simp at h⟩, Lib.hid HE.out.fr_, Lib.hid HE.out.inn, Lib.hid HE.out.pre.sep⟩
    have hkl : k < ts.length := by have := HLEN.out; omega
    obtain ⟨bb, oo, t0, t1, rfl, _, hbB, ht, i0, i1, c0, c1⟩ := Tok_at (HSL.out.keep (Nat.le_refl _) (Nat.le_refl _) (w' := wr) (fun j _ hj => HE.out.fr_.block j (by omega) (fun hg => by have := HSEP.out.ge j hg; omega))) hlt
    have HX := Lib.hid (show ExSt M C N B c fn y w Ft Fv Fo vv vo deep fr r wr Ft1 vt1 fr1 st1 ((t0, t1) :: ts.drop (k + 1)) pile pile Fp (.slice Ap np cp) from by rw [← ht, ← List.drop_eq_getElem_cons hkl]; exact HE.out)
    have hki : (k : Int) < (n : Int) := by omega
    clear ht HE
    obtain ⟨V, hV⟩ : ∃ V, V = wr.alloc (.cells #[.int .i64 t0, .int .i64 t1] 164) := ⟨_, rfl⟩
    have bV : Below wr.heap.size wr V := by rw [hV]; exact belA
    obtain ⟨X, hXn⟩ : ∃ X, wr.heap.size = X := ⟨_, rfl⟩
    have hS := Lib.hid (show ∀ V', Below V.heap.size V V' → V'.cell? ⟨X, 0, none⟩ = some (.int .i64 t0) ∧ V'.cell? ⟨X, 1, none⟩ = some (.int .i64 t1) from fun V' hV' => ⟨below_cell hV' (by rw [hV, ← hXn]; simp [go_sem]), below_cell hV' (by rw [hV, ← hXn]; simp [go_sem])⟩)
    have HXV := Lib.hid (HX.out.below bV)
    have HXX := Lib.hid (show ∀ k, k ∈ GB M Ft1 c Fv Fo y → k < X from fun k hk => by have := HX.out.pre.lt k hk; omega)
    have HXP := Lib.hid (show ∀ k, k ∈ Fp → k < X from fun k hk => by have := HX.out.own.lt k hk; omega)
    have hXV : X < V.heap.size := by rw [hV, ← hXn]; simp
    go_upto_region 6 with fail
    rw [← hV]
    clear hV hXn bV HX c0 c1
    obtain ⟨e0, e1⟩ := hS.out V (Below.refl _ _)
    go_upto_block 2 with fail
    go_cut [8, 11] (fun pv nv wx => ∃ (nn : Int) (np2 cp2 : Nat) (Ap2 : Option Addr) (Ft2 : List Nat) (vt2 : Value) (fr2 : BFr) (st2 : BSt) (pl : List Int) (Fp2 : List Nat), nv = .int .i64 nn ∧ I64 nn ∧ pv = .slice Ap2 np2 cp2 ∧ Hid (ExSt M C N B c fn y w Ft Fv Fo vv vo deep fr r wx Ft2 vt2 fr2 st2 (ts.drop (k + 1)) (pl ++ [nn]) pl Fp2 (.slice Ap2 np2 cp2)))
    case rest =>
      obtain ⟨nn, np2, cp2, Ap2, Ft2, vt2, fr2, st2, pl, Fp2, rfl, inn, rfl, HW⟩ := hcut
      clear e0 e1 HXV HXX HXP hXV hS HSL
      have hpl : pl.length ≤ 12 := by have := HW.out.len; rw [List.length_append] at this; omega
      have hnl := (own_addr HW.out.own).1
      have HNL := Lib.hid hnl
      clear hnl
      go_wp2_with (at_builtin; refine wpl_own1 _ rfl _ _ 37 rfl intR 3 inf (.int .i64 0) 1 8 Try.underlying37 HIF.out IZ0.out IZ1.out IZ2.out rfl rfl (by decide) (.slice Ap2 np2 cp2) pl.length pl Fp2 rfl rfl (HW.out.own.below (show Below wc.heap.size wc _ by exact belA)) ⟨wc.heap.size, 0, none⟩ 1 [.int .i64 nn] nn [] rfl (cells_new _ _ _ (by simp)) ⟨rfl, rfl, inn⟩ (by intro u hu; simp at hu; subst hu; rfl) (fun j hj => by cases hj) (by omega) (by decide) ?_)
      intro v8 w8 F8 ho8 hgr hF8
      obtain ⟨A8, n8, c8, rfl, h88⟩ := ho8.form
      clear h88
      have bd : Below wc.heap.size wc (wc.alloc (.cells #[.int .i64 nn] 3)) := by exact belA
      have HW8 := Lib.hid ((HW.out.below bd).push ho8 (grown_fr hgr) (fun k hk => by
        rcases hF8 k hk with h | h
        · exact Or.inl h
        · exact Or.inr (by first | omega | (rcases h with h | h; cases h; omega) | (rw [h]; simp))))
      clear ho8 hgr hF8 bd HW hpl HNL
      go_wp2_with fail
      go_roundw
      case rel => exact ⟨k + 1, n8, c8, A8, Ft2, vt2, fr2, st2, pl ++ [nn], F8, by omega, by go_num, rfl, HW8⟩
      case measure => simp [intOf]; omega
    case first =>
      have hok := HXV.out.ok.1
      have hneed := HXV.out.ok.2.1
      have hkind : t0 = 1 ∨ t0 = 2 ∨ t0 = 9 ∨ t0 = 10 ∨ t0 = 11 ∨ (3 ≤ t0 ∧ t0 ≤ 8) := by
        unfold tokB at hok
        split at hok
        · exact Or.inl ‹_›
        · split at hok
          · exact Or.inr (Or.inl ‹_›)
          · split at hok
            · exact Or.inr (Or.inr (Or.inr (Or.inr (Or.inl ‹_›))))
            · rw [Bool.and_eq_true] at hok
              have := inB_iff.1 hok.1
              simp only at this
              omega
      rcases hkind with rfl | rfl | rfl | rfl | rfl | hkind
      · clear hok hneed
        go_wp2_with fail
        go_meet
        case rel => exact ⟨t1, np, cp, Ap, Ft1, vt1, fr1, st1, pile, Fp, rfl, i1, rfl, Lib.hid (HXV.out.tok GG.out hN (by simp [bTok]) HXV.out.own (fun k h => h))⟩
      · have hj := inB_iff.1 (show inB t1 0 ((C.fn fn).2.1 - 1) = true from by simpa [tokB] using hok)
        obtain ⟨j, rfl⟩ := Int.eq_ofNat_of_zero_le hj.1
        have hvl := HXV.out.pre.fok.vars
        have hjl : j < fr1.vars.length := by omega
        obtain ⟨Av, nv, cv, rfl, hnv⟩ := HXV.out.pre.f.vars.form
        obtain ⟨g, o, rfl, _, _, hcg, ig⟩ := HXV.out.pre.f.vars.sl.int_at (k := j) (by omega)
        have c1 := HXV.out.pre.f.cl.cell 1
        have hjn : (j : Int) < (nv : Int) := by omega
        obtain ⟨x, hx⟩ : ∃ x, fr1.vars[j] = x := ⟨_, rfl⟩
        rw [hx] at hcg ig
        have HXE := Lib.hid (show bTok C (big C N).1 deep (2, (j : Int)) pile fr1 st1 = (pile ++ [x], (0, 0), fr1, st1) from by
          rw [← hx]; simp [bTok, List.getD_eq_getElem?_getD, List.getElem?_eq_getElem hjl])
        clear hok hneed hj hvl hnv hx
        go_upto_region 15 with fail
        go_quiet (fail)
        go_wp2_with fail
        go_meet
        case rel => exact ⟨x, np, cp, Ap, Ft1, vt1, fr1, st1, pile, Fp, rfl, ig, rfl, Lib.hid ((HXV.out.tok GG.out hN HXE.out HXV.out.own (fun k h => h)).below (below_drewN (Below.refl _ _) _))⟩
      · have hni := HXV.out.pre.ctx.ins.lenEq
        have hu10 := HXV.out.pre.sok.used
        have hi10 := GG.out.ins.1
        have r8 := HXV.out.pre.m.run.cell 8
        have z8 := blk_frozen HXV.out.pre.m.run 8
        have hRV := blk_size HXV.out.pre.m.run
        by_cases hu : st1.used < C.ins.length
        · obtain ⟨bi, oi, hA, _, hbi, hci, ig⟩ := HXV.out.pre.ctx.ins.int_at (k := st1.used) (by omega)
          have r1 : V.cell? ⟨M.R, 1, none⟩ = some (.slice (some ⟨bi, oi, none⟩) M.ni M.ci) := by rw [← hA]; exact HXV.out.pre.m.run.cell 1
          have hui : (st1.used : Int) < (M.ni : Int) := by omega
          obtain ⟨x, hx⟩ : ∃ x, C.ins[st1.used] = x := ⟨_, rfl⟩
          rw [hx] at hci ig
          have HXE := Lib.hid (show bTok C (big C N).1 deep (9, t1) pile fr1 st1 = (pile ++ [x], (0, 0), fr1, { st1 with used := st1.used + 1 }) from by
            rw [← hx]; simp [bTok, hu, List.getD_eq_getElem?_getD])
          clear hok hneed hx hA hni
          go_upto_region 17 with fail
          go_quiet (fail)
          go_upto_region 18 with fail
          go_quiet (fail)
          go_wp2_with fail
          go_meet
          case rel =>
            refine ⟨x, np, cp, Ap, Ft1, vt1, fr1, { st1 with used := st1.used + 1 }, pile, Fp, rfl, ig, rfl, Lib.hid (ExSt.input GG.out hN (HXV.out.below (below_drewN (Below.refl V.heap.size V) _)) HXE.out ((HXV.out.below (below_drewN (Below.refl V.heap.size V) _)).pre.m.run.putUsed (st1.used + 1)) (Fr.one _ _))⟩
        · have r1 := HXV.out.pre.m.run.cell 1
          have hui : ¬ (st1.used : Int) < (M.ni : Int) := by omega
          have HXE := Lib.hid (show bTok C (big C N).1 deep (9, t1) pile fr1 st1 = (pile ++ [0], (0, 0), fr1, st1) from by simp [bTok, hu])
          clear hok hneed hni
          go_upto_region 17 with fail
          go_quiet (fail)
          go_wp2_with fail
          go_meet
          case rel => exact ⟨0, np, cp, Ap, Ft1, vt1, fr1, st1, pile, Fp, rfl, by unfold I64; omega, rfl, Lib.hid ((HXV.out.tok GG.out hN HXE.out HXV.out.own (fun k h => h)).below (below_drewN (Below.refl _ _) _))⟩
      · clear hok hneed
        have hre := recv_ok HXV.out.pre.fok.by_
        go_wp2_with fail
        refine (implRecover V c fn vv vo fr1.res 0 0 false y fr1.by_ HXV.out.pre.f.cl HXV.out.pre.by_ HXV.out.pre.fok.by_ (fun k hk => (HXV.out.pre.sep.parts.2.2.2.2.2.2.2.2.2 k hk).2.1)).mono ?_
        rintro e w5 ⟨rfl, HU, hf⟩
        go_wp2_with fail
        go_meet
        case rel => exact ⟨(recv fr1.by_).1, np, cp, Ap, Ft1, vt1, { fr1 with by_ := (recv fr1.by_).2 }, st1, pile, Fp, rfl, by have := hre.1; unfold I32 at this; unfold I64; omega, rfl, Lib.hid (HXV.out.recov GG.out hN rfl HU.out hf)⟩
      · have hpf : (paramsF C.p).length = C.p.length := by simp [paramsF]
        have hj := tokB_call hok rfl
        simp only at hj
        obtain ⟨f, rfl⟩ := Int.eq_ofNat_of_zero_le hj.1
        have hfl : f < C.p.length := by omega
        have hctx := HXV.out.pre.ctx
        obtain ⟨bf, of, f0, f1, A2, n2, c2, s2, A3, n3, c3, s3, hA, _, hbf, hfe, _, _, _, _, d0, _, _, _⟩ := Func_at hctx.pg (k := f) (by have := hctx.pg.lenEq; omega)
        have hfc : C.fn f = (f0, f1, s2, s3) := by rw [fnAt hfl]; exact hfe
        obtain ⟨fm1, fm2⟩ := fn_mem hfl
        have hg := GG.out.funcs _ fm1
        have hpar := hg.par
        have hvar := hg.vars
        rw [hfc] at hpar hvar
        simp only at hpar hvar
        have hnd : needF (11, (f : Int)) (paramsF C.p) = f0 := by unfold needF; rw [if_pos rfl]; simp only [Int.toNat_natCast]; rw [fm2, hfc]
        rw [hnd] at hneed
        obtain ⟨p, rfl⟩ := Int.eq_ofNat_of_zero_le hpar.1
        obtain ⟨hnl, _⟩ := own_addr HXV.out.own
        obtain ⟨m, hm⟩ : ∃ m, np = m + p := ⟨np - p, by omega⟩
        subst hm
        obtain ⟨A1, c1, hs1, g1, gA⟩ := own_from HXV.out.own
        obtain ⟨F2, hs2, _, _⟩ := own_upto HXV.out.own
        have r0 : V.cell? ⟨M.R, 0, none⟩ = some (.slice (some ⟨bf, of, none⟩) M.np M.cp) := by rw [← hA]; exact HXV.out.pre.m.run.cell 0
        have hnp : (f : Int) < (M.np : Int) := by have := hctx.pg.lenEq; omega
        have hm12 : m + p ≤ 12 := by have := HXV.out.len; simp only [List.length_cons] at this; omega
        have hsub : ((m + p : Nat) : Int) - (p : Int) = (m : Int) := by omega
        have hgl : (pile.drop m).length = p := by rw [List.length_drop]; omega
        obtain ⟨r1, hr1⟩ : ∃ r1, (big C N).1 f (pile.drop m) (deep + 1) none st1 = r1 := ⟨_, rfl⟩
        have hcall : ∀ W, Below V.heap.size V W → Calls Try.prog 60 #[.pointer (some ⟨M.R, 0, none⟩), .int .i64 f, .slice A1 p c1, .pointer none] W (RetCl M C B none none W Ft1 deep r1) := fun W hW => by
          have hx := HXV.out.below hW
          have hsep := hx.pre.sep.nd
          unfold GB at hsep
          have hnd1 : (M.R :: (Ft1 ++ (none : Option Nat).toList)).Nodup := by
            simp only [Option.toList_none, List.append_nil]
            exact List.Sublist.nodup (List.Sublist.cons_cons _ (List.sublist_append_left _ _)) hsep
          have := HCL.out B f none none W Ft1 vt1 deep st1 A1 p c1 (pile.drop m) hx.pre.ctx hx.pre.m trivial (fun e he => by cases he) hnd1 (fun k hk => hx.pre.sep.ge k (by unfold GB; simp only [Option.toList_none, List.append_nil] at hk; rcases List.mem_cons.1 hk with rfl | hk <;> simp [*])) hfl (by rw [hgl, hfc]; simp only; omega) (fun x hx2 => HXV.out.small x (List.mem_of_mem_drop hx2)) hx.pre.sok hx.fuel hx.pre.deep.2 (g1.keep (Nat.le_refl _) hW.size (fun j _ hj => hW.block j hj)) (fun a ha2 e => (HXV.out.sep _ (gA a ha2)).2 (by rw [e]; unfold GB; simp))
          rw [hr1] at this
          exact this
        have HCALL := Lib.hid hcall
        have HR1 := Lib.hid hr1
        have HCP := Lib.hid (show CallP C 600 st1 none r1 from by
          rw [← hr1]
          exact (big_ok GG.out N hN).1 600 f (pile.drop m) (deep + 1) none st1 hfl (by rw [hgl, hfc]; simp only; omega) (fun x hx2 => HXV.out.small x (List.mem_of_mem_drop hx2)) (fun e he => by cases he) HXV.out.pre.sok HXV.out.fuel)
        have HTOK := Lib.hid (show bTok C (big C N).1 deep (11, (f : Int)) pile fr1 st1 = (if r1.2.1.1 = 1 then (pile.take m ++ [r1.1], (0, 0), fr1, r1.2.2.2) else (pile, r1.2.1, fr1, r1.2.2.2)) from by
          have htop : pile.length - (C.fn f).1.toNat = m := by rw [hfc]; simp only [Int.toNat_natCast]; omega
          simp [bTok, htop, hr1])
        clear hok hneed hj hctx hA hfe hfc fm1 fm2 hg hpar hvar hnd hnl g1 gA hpf hfl hgl hr1 hcall
        go_upto_region 23 with fail
        go_quiet (fail)
        obtain ⟨V1, hV1⟩ : ∃ V1, V1 = V.drewN nq := ⟨_, rfl⟩
        have b1 : Below V.heap.size V V1 := by rw [hV1]; exact below_drewN (Below.refl _ _) _
        obtain ⟨e0', e1'⟩ := hS.out V1 b1
        have hz1 : X < V1.heap.size := by have := b1.size; omega
        clear r0 d0 e0 e1
        go_upto_region 24 with fail
        rw [← hV1]
        clear hV1
        refine wp_region_noPanic ?_
        refine wp_region_hd (S := (fun V => V.cell? ⟨X, 1, none⟩ = some (.int .i64 f))) 12 (by kernel_rfl) (by kernel_rfl) e1' (fun hR0 => ?_)
        refine takeH 0 ?_
        refine takeH 1 ?_
        refine takeH 2 ?_
        refine takeH 3 ?_
        refine takeH 4 ?_
        refine takeH 5 ?_
        refine wpAnyH_ready (rs := [6]) (by kernel_rfl) (by simp) ?_
        refine AllReadyH.cons (i := 6) rfl (fun K hK => ?_) AllReadyH.nil
        go_simp
        go_at_call 60
        have bw : Below V1.heap.size V1 V1.drew := by exact belA
        have bVw := b1.trans (bw.mono b1.size)
        have HXW := Lib.hid (HXV.out.below bVw)
        ((with_reducible refine (HCALL.out _ bVw).mono ?_))
        rintro e w5 ⟨nv, deep', code', vt', Ft', rfl, inv, HV, HM, HB5, HD, HFR, HIN, HND⟩
        obtain ⟨h4, hh4⟩ : ∃ h4, cut4 r1.2.1.1 = h4 := ⟨_, rfl⟩
        rw [hh4]
        have HH4 := Lib.hid hh4
        clear hh4
        have hXn : X ∉ M.R :: (Ft1 ++ (none : Option Nat).toList) := fun hk => by
          simp only [Option.toList_none, List.append_nil] at hk
          have := HXX.out X (by unfold GB; rcases List.mem_cons.1 hk with h | h <;> simp [h])
          omega
        have e5 := cell_fr HFR.out hXn hR0
        go_wp2_with fail
        refine hK.out _ _ e5 (fun hR6 => ?_)
        clear hK K
        try simp only [Act.put, List.getElem_toArray, List.getElem_cons_zero, List.getElem_cons_succ, List.setIfInBounds_toArray, List.set_cons_zero, List.set_cons_succ]
        refine takeH 7 ?_
        refine takeH 8 ?_
        refine takeH 9 ?_
        refine takeH 10 ?_
        refine takeH 11 ?_
        refine wpAnyH_done (by kernel_rfl) ?_ _
        refine NoPanic.normal ?_
        clear hR0 hR6 e0' e1' hXn
        by_cases h1 : r1.2.1.1 = 1
        · have hz : h4 = 1 := by rw [← HH4.out, h1]; rfl
          subst hz
          have HT := Lib.hid (show bTok C (big C N).1 deep (11, (f : Int)) pile fr1 st1 = (pile.take m ++ [nv], (0, 0), fr1, r1.2.2.2) from by
            have := HTOK.out; rw [if_pos h1, ← HV.out.1 h1] at this; exact this)
          have HM2 := Lib.hid (show MSt M C w5 deep 0 vt' Ft' r1.2.2.2 from by
            obtain ⟨g1, g2⟩ := HD.out.1 (by omega)
            subst g1 g2
            exact HM.out)
          obtain ⟨F', hW⟩ := HXW.out.back GG.out hN HT.out HM2.out HFR.out HIN.out HND.out
          have HW := Lib.hid hW
          clear hW h1 HM HD
          go_wp2_with fail
          go_meet
          case rel => exact ⟨nv, m, cp, Ap, Ft', vt', fr1, r1.2.2.2, pile.take m, F', rfl, inv, rfl, HW⟩
        · have hh : (h4 != 1) = true := by
            have h9 := HH4.out
            have h8 := HCP.out.how
            unfold cut4 at h9
            refine bne_iff_ne.2 (fun hz => ?_)
            split at h9 <;> omega
          have HRE := Lib.hid (show (0, r1.2.1, fr1, r1.2.2.2) = r from by
            rw [← HXV.out.eq, bExpr, HTOK.out, if_neg h1]
            have h8 := HCP.out.how
            simp only
            rw [if_neg (by omega)])
          have hcl := HXW.out.called HFR.out HIN.out HND.out
          have HCD := Lib.hid hcl
          clear hcl h1
          go_wp2_with fail
          refine bodyPost_ret (v := .tuple #[.int .i64 nv, .int .i64 h4]) (by simp [results, Try.results126, go_sem]) rfl ?_
          rw [← HRE.out]
          obtain ⟨q1, q2, q3, q4, q5, q6, q7, _⟩ := HCD.out
          exact ⟨nv, deep', code', vt', Ft', by rw [HH4.out], inv, Lib.hid ⟨fun h => by have := HCP.out.how; simp only at h; omega, HV.out.2⟩, HM, Lib.hid q2, Lib.hid q7, HD, Lib.hid q5, Lib.hid q6, Lib.hid q4⟩
      · have hnd : needF (t0, t1) (paramsF C.p) = 2 := by
          unfold needF
          rw [if_neg (by simp only; omega), if_pos (inB_true (by simp only; omega))]
        rw [hnd] at hneed
        obtain ⟨hnl, ha⟩ := own_addr HXV.out.own
        obtain ⟨m, hm⟩ : ∃ m, np = m + 2 := ⟨np - 2, by omega⟩
        subst hm
        obtain ⟨F2, hs2, o2, hF2⟩ := own_upto HXV.out.own
        rcases ha with ⟨_, ha, _⟩ | ⟨g, rfl, hca⟩
        · omega
        obtain ⟨b', o', he', _, _, hc0, ig0⟩ := HXV.out.own.sl.int_at (k := m) (by omega)
        simp only [Option.some.injEq, Addr.mk.injEq, and_true] at he'
        obtain ⟨rfl, rfl⟩ := he'
        obtain ⟨b', o', he', _, _, hc1, ig1⟩ := HXV.out.own.sl.int_at (k := m + 1) (by omega)
        simp only [Option.some.injEq, Addr.mk.injEq, and_true] at he'
        obtain ⟨rfl, rfl⟩ := he'
        rw [Nat.zero_add] at hc0 hc1
        have hx3 := HXV.out.small _ (List.getElem_mem (show m < pile.length by omega))
        have hy3 := HXV.out.small _ (List.getElem_mem (show m + 1 < pile.length by omega))
        obtain ⟨x, hx⟩ : ∃ x, pile[m] = x := ⟨_, rfl⟩
        obtain ⟨z, hz⟩ : ∃ z, pile[m + 1] = z := ⟨_, rfl⟩
        rw [hx] at hc0 ig0 hx3
        rw [hz] at hc1 ig1 hy3
        have HTOK := Lib.hid (show bTok C (big C N).1 deep (t0, t1) pile fr1 st1 = (if recB t0 z = true then (pile.take m ++ [recN t0 x z], (0, 0), fr1, st1) else (pile, (2, -1), fr1, st1)) from by
          have htop : pile.length - 2 = m := by omega
          have hx' : pile.getD m 0 = x := by rw [← hx, List.getD_eq_getElem?_getD, List.getElem?_eq_getElem (by omega)]; rfl
          have hz' : pile.getD (m + 1) 0 = z := by rw [← hz, List.getD_eq_getElem?_getD, List.getElem?_eq_getElem (by omega)]; rfl
          unfold bTok
          simp only
          rw [if_neg (by omega), if_neg (by omega), if_neg (by omega), if_neg (by omega), if_neg (by omega), htop, hx', hz'])
        have hb1 : (t0 == 1) = false := beq_eq_false_iff_ne.2 (by omega)
        have hb2 : (t0 == 2) = false := beq_eq_false_iff_ne.2 (by omega)
        have hb3 : (t0 == 9) = false := beq_eq_false_iff_ne.2 (by omega)
        have hb4 : (t0 == 10) = false := beq_eq_false_iff_ne.2 (by omega)
        have hb5 : (t0 == 11) = false := beq_eq_false_iff_ne.2 (by omega)
        have hm12 : m + 2 ≤ 12 := by have := HXV.out.len; simp only [List.length_cons] at this; omega
        have hmc : (m : Int) + 1 < (m : Int) + 2 := by omega
        have hm0 : (0 : Int) ≤ (m : Int) + 1 := by omega
        have hmw : IntKind.i64.wrap ((m : Int) + 1) = (m : Int) + 1 := IntWalk.i64_in _ (by omega)
        have hmc0 : (m : Int) < (m : Int) + 2 := by omega
        obtain ⟨bo, hbo⟩ : ∃ bo, recB t0 z = bo := ⟨_, rfl⟩
        have HBO := Lib.hid hbo
        have hSS := Lib.hid (show ∀ V', Below V.heap.size V V' → V'.cell? ⟨X, 0, none⟩ = some (.int .i64 t0) ∧ V'.cell? ⟨g, m, none⟩ = some (.int .i64 x) ∧ V'.cell? ⟨g, m + 1, none⟩ = some (.int .i64 z) from fun V' hV' => ⟨(hS.out V' hV').1, below_cell hV' hc0, below_cell hV' hc1⟩)
        clear hok hneed hnd hnl hx hz hbo hc0 hc1 e0 e1 hkind
        go_upto_region 8 with fail
        refine wp_region_noPanic ?_
        refine wp_region_hd (S := (fun V' => V'.cell? ⟨X, 0, none⟩ = some (.int .i64 t0) ∧ V'.cell? ⟨g, m, none⟩ = some (.int .i64 x) ∧ V'.cell? ⟨g, m + 1, none⟩ = some (.int .i64 z))) 17 (by kernel_rfl) (by kernel_rfl) (hSS.out _ (show Below V.heap.size V _ by exact beloA)) (fun hR0 => ?_)
        refine takeH 0 ?_
        refine takeH 1 ?_
        refine takeH 2 ?_
        refine takeH 3 ?_
        refine takeH 4 ?_
        refine takeH 5 ?_
        refine takeH 6 ?_
        refine takeH 7 ?_
        refine takeH 8 ?_
        refine takeH 9 ?_
        refine takeH 10 ?_
        refine wpAnyH_ready (rs := [11]) (by kernel_rfl) (by simp) ?_
        refine AllReadyH.cons (i := 11) rfl (fun K hK => ?_) AllReadyH.nil
        go_simp
        go_at_call 137
        ((with_reducible refine (implReckon _ t0 x z hx3 hy3).mono ?_))
        rintro e w5 ⟨rfl, rfl⟩
        rw [HBO.out]
        go_wp2_with fail
        refine hK.out _ _ hR0 (fun hR11 => ?_)
        clear hK K
        try simp only [Act.put, List.getElem_toArray, List.getElem_cons_zero, List.getElem_cons_succ, List.setIfInBounds_toArray, List.set_cons_zero, List.set_cons_succ]
        refine takeH 12 ?_
        refine takeH 13 ?_
        refine takeH 14 ?_
        refine takeH 15 ?_
        refine takeH 16 ?_
        refine wpAnyH_done (by kernel_rfl) ?_ _
        refine NoPanic.normal ?_
        clear hR0 hR11
        have bw : Below V.heap.size V V.drew := by exact belA
        cases bo
        · have HRE := Lib.hid (show (0, (2, -1), fr1, st1) = r from by
            have hbt := HTOK.out
            rw [HBO.out, if_neg (by simp)] at hbt
            rw [← HXV.out.eq, bExpr, hbt]
            simp)
          have HXD := Lib.hid (HXV.out.below bw)
          go_wp2_with fail
          refine bodyPost_ret (v := .tuple #[.int .i64 (-1), .int .i64 2]) (by simp [results, Try.results126, go_sem]) rfl ?_
          rw [← HRE.out]
          exact ⟨-1, deep, 0, vt1, Ft1, rfl, by unfold I64; omega, Lib.hid ⟨fun h => by simp at h, fun _ => rfl⟩, Lib.hid HXD.out.pre.m, Lib.hid HXD.out.pre.f, Lib.hid HXD.out.by_, Lib.hid ⟨fun _ => ⟨rfl, rfl⟩, fun h => by simp at h⟩, Lib.hid HXD.out.fr_, Lib.hid HXD.out.inn, Lib.hid HXD.out.pre.sep⟩
        · have HT := Lib.hid (show bTok C (big C N).1 deep (t0, t1) pile fr1 st1 = (pile.take m ++ [recN t0 x z], (0, 0), fr1, st1) from by
            have := HTOK.out; rw [if_pos HBO.out] at this; exact this)
          have hri : I64 (recN t0 x z) := by have := recN_small t0 x z; unfold I32 at this; unfold I64; omega
          go_wp2_with fail
          go_meet
          case rel => exact ⟨recN t0 x z, m, cp, some ⟨g, 0, none⟩, Ft1, vt1, fr1, st1, pile.take m, F2, rfl, hri, rfl, Lib.hid ((HXV.out.tok GG.out hN HT.out o2 hF2).below bw)⟩
end Go.Proofs.Ytgoinmdnpaknpaa
