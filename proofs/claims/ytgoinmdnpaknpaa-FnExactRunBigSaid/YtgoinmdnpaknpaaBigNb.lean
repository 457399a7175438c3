/- Programs done with fuel: a block. The reference's walk. -/
import Derived.Test.YtgoinmdnpaknpaaBigN
set_option linter.unusedVariables false
set_option linter.unusedSimpArgs false
set_option maxRecDepth 100000
namespace Go.Proofs.Ytgoinmdnpaknpaa
open Go.RowKit
attribute [local irreducible] wpList
/-- A result's block of two cells. -/
def EndB (w : World) (X : Nat) : Prop := w.heap[X]? = some (.cells #[.int .i64 0, .int .i64 0] 89)
theorem EndB.cells {w : World} {X : Nat} (h : EndB w X) : w.cell? ⟨X, 0, none⟩ = some (.int .i64 0) ∧ w.cell? ⟨X, 1, none⟩ = some (.int .i64 0) ∧ w.frozen? ⟨X, 0, none⟩ = false ∧ w.frozen? ⟨X, 1, none⟩ = false ∧ X < w.heap.size :=
  ⟨by rw [cell_of_row _ _ _ _ _ _ h]; rfl, by rw [cell_of_row _ _ _ _ _ _ h]; rfl, blk_frozen h 0, blk_frozen h 1, blk_size h⟩
/-- A part behind another, where the result's own block has turned at the end. -/
theorem RetStS.put {M : MCfg} {C : BCfg} {B c fn : Nat} {F : FCf} {y : Nat} {w w1 w' w2 : World} {Ft Fv Fo Ft1 Fo1 : List Nat} {vv : Value} {deep X : Nat} {r : BRes × BFr × BSt} {e : Ending}
    (h : RetStS M C B c fn F y w1 Ft1 Fv Fo1 vv deep r e w') (hfr : Fr (GB M Ft c Fv Fo (some y)) w w1) (hin : ∀ k, k ∈ GB M Ft1 c Fv Fo1 (some y) → k ∈ GB M Ft c Fv Fo (some y) ∨ X < k) (hX : w.heap.size ≤ X) (hX1 : X < w1.heap.size) (hXG : X ∉ GB M Ft c Fv Fo (some y)) (hf : Fr [X] w' w2) : RetStS M C B c fn F y w Ft Fv Fo vv deep r e w2 := by
  obtain ⟨n, vt', vo', Ft', Fo', he, hn1, h2, h3, h4, h5, h7, h8, h9⟩ := h
  obtain ⟨f, hm, hf4⟩ := h3.out
  have hXn : X ∉ GB M Ft' c Fv Fo' (some y) := fun hk => by
    rcases h8.out X hk with h | h
    · rcases hin X h with h | h
      · exact hXG h
      · omega
    · omega
  have hk : ∀ k, k ∈ [X] → k ∉ GB M Ft' c Fv Fo' (some y) := fun k hk => by rw [List.mem_singleton.1 hk]; exact hXn
  have n1 : M.R ∉ [X] := fun h => hk _ h (by unfold GB; simp)
  have n2 : c ∉ [X] := fun h => hk _ h (by unfold GB; simp)
  have n3 : ∀ k, k ∈ Ft' → k ∉ [X] := fun k hk2 h => hk _ h (by unfold GB; simp [hk2])
  have n4 : ∀ k, k ∈ Fv → k ∉ [X] := fun k hk2 h => hk _ h (by unfold GB; simp [hk2])
  have n5 : ∀ k, k ∈ Fo' → k ∉ [X] := fun k hk2 h => hk _ h (by unfold GB; simp [hk2])
  have n6 : y ∉ [X] := fun h => hk _ h (by unfold GB; simp)
  have hw := FrR.trans hfr h7.out (fun k hk => by rcases hin k hk with h | h; exact Or.inl h; exact Or.inr (by omega))
  refine ⟨n, vt', vo', Ft', Fo', he, hn1, h2, Lib.hid ⟨f, hm.fr hf n1 n3, hf4⟩, Lib.hid (h4.out.fr hf n2 n4 n5), Lib.hid (h5.out.fr hf n6), Lib.hid (FrR.trans hw hf (fun k hk2 => Or.inr (by rw [List.mem_singleton.1 hk2]; omega))), Lib.hid (fun k hk2 => ?_), h9⟩
  rcases h8.out k hk2 with h | h
  · rcases hin k h with h | h
    · exact Or.inl h
    · exact Or.inr (by omega)
  · exact Or.inr (by have := hfr.size; omega)
/-- All is done but the result's own block. -/
theorem RetStS.fin {M : MCfg} {C : BCfg} {B c fn : Nat} {F : FCf} {y : Nat} {w V w2 : World} {Ft Fv Fo Ft' Fo' : List Nat} {vt' vv vo' : Value} {deep X : Nat} {fr' : BFr} {st' : BSt} {how v n : Int} (h : PrS M C B c fn F y V Ft' Fv Fo' vt' vv vo' deep fr' st') (hn : I64 n) (hv : how = 2 → n = v)
    (hfr : Fr (GB M Ft c Fv Fo (some y)) w V) (hin : ∀ k, k ∈ GB M Ft' c Fv Fo' (some y) → k ∈ GB M Ft c Fv Fo (some y) ∨ X < k) (hX : w.heap.size ≤ X) (hB : B ≤ w.heap.size) (hXG : X ∉ GB M Ft c Fv Fo (some y)) (hf : Fr [X] V w2) :
    RetStS M C B c fn F y w Ft Fv Fo vv deep ((how, v), fr', st') (.returned (.agg #[.int .i64 how, .int .i64 n])) w2 := by
  have hXn : X ∉ GB M Ft' c Fv Fo' (some y) := fun h => by rcases hin X h with h | h; exact hXG h; omega
  exact RetStS.ofPre (h.move hf (fun k hk => by rw [List.mem_singleton.1 hk]; exact hXn) (fun k hk => by rw [List.mem_singleton.1 hk]; omega)) hn hv (FrR.trans hfr hf (fun k hk => Or.inr (by rw [List.mem_singleton.1 hk]; omega))) (fun k hk => by rcases hin k hk with h | h; exact Or.inl h; exact Or.inr (by omega))
set_option maxHeartbeats 8000000 in
theorem specBlock {M : MCfg} {C : BCfg} {N : Nat} (G : CfgG C) (hN : N ≤ 600) (HSt : StmtJ M C N) : BlockJ M C N := by
  intro B c fn F y w Ft Fv Fo vt vv vo deep fr st A n cc ns hpre hfu hns hsl
  have HP := Lib.hid hpre
  have HNS := Lib.hid hns
  have HSEP := Lib.hid hpre.sep
  have HSL := Lib.hid hsl
  unfold StmtJ at HSt
  have HST := Lib.hid HSt
  have GG := Lib.hid G
  obtain ⟨r, hr⟩ : ∃ r, bBlock (big C N).2 (C.fn fn) deep ns fr st = r := ⟨_, rfl⟩
  have HR := Lib.hid hr
  rw [hr]
  have HLEN := Lib.hid hsl.lenEq
  have hle := hsl.lenLe
  have hB := hpre.ctx.le
  have HLT := Lib.hid hpre.lt
  clear hpre hns hsl HSt G hr
  go_enter Try.func74, Try.ntmps74
  go_wp2_with fail
  obtain ⟨W, hW⟩ : ∃ W, W = w.alloc (.cells #[.int .i64 0, .int .i64 0] 89) := ⟨_, rfl⟩
  obtain ⟨X, hX⟩ : ∃ X, w.heap.size = X := ⟨_, rfl⟩
  have hbW : Below w.heap.size w W := by rw [hW]; exact belA
  have hXW : W.heap.size = X + 1 := by rw [hW, ← hX]; simp
  have HEB := Lib.hid (show EndB W X from by rw [hW]; exact alloc_new' hX)
  have HX := Lib.hid hX
  have HPW := Lib.hid (HP.out.keep hbW)
  have HFW := Lib.hid (show Fr (GB M Ft c Fv Fo (some y)) w W from Fr.of_below hbW)
  have HXG := Lib.hid (show X ∉ GB M Ft c Fv Fo (some y) from fun h => by have := HLT.out X h; omega)
  rw [← hW, hX]
  clear hW hX HP hbW HLT
  go_loopw [12] (fun iv wr => ∃ (k : Nat) (Ft1 Fo1 : List Nat) (vt1 vo1 : Value) (fr1 : BFr) (st1 : BSt), k ≤ n ∧ iv = .int .i64 k ∧ Hid (PrS M C B c fn F y wr Ft1 Fv Fo1 vt1 vv vo1 deep fr1 st1) ∧ st1.fuel ≤ N ∧ Hid (Fr (GB M Ft c Fv Fo (some y)) w wr) ∧ Hid (∀ k, k ∈ GB M Ft1 c Fv Fo1 (some y) → k ∈ GB M Ft c Fv Fo (some y) ∨ X < k) ∧ Hid (EndB wr X) ∧ Hid (bBlock (big C N).2 (C.fn fn) deep (ns.drop k) fr1 st1 = r)) (fun iv _ => n - (intOf iv).toNat)
  case atStart => exact ⟨0, Ft, Fo, vt, vo, fr, st, Nat.zero_le _, rfl, HPW, hfu, HFW, Lib.hid (fun k hk => Or.inl hk), HEB, HR⟩
  case round =>
    clear HPW HFW HEB HR hfu
    obtain ⟨k, Ft1, Fo1, vt1, vo1, fr1, st1, hk, rfl, HP, hfu, HFR, HIN, HEB, HR⟩ := hrel
    obtain ⟨b0, b1, bz0, bz1, hXr⟩ := HEB.out.cells
    have HXS := Lib.hid HX.out
    by_cases hlt : k < n
    · have hkl : k < ns.length := by have := HLEN.out; omega
      obtain ⟨bb, oo, rfl, _, hbB, hce, hie⟩ := (slB HSL.out hB HFR.out HSEP.out.ge).int_at hlt
      obtain ⟨m, hm⟩ : ∃ m : Nat, ns[k] = (m : Int) := ⟨(ns[k]).toNat, by have := HNS.out _ (List.getElem_mem hkl); omega⟩
      have hml : m < (C.fn fn).2.2.2.length := by have := HNS.out _ (List.getElem_mem hkl); omega
      have hm3 : m < F.ns := by have := HP.out.code.lenEq; omega
      obtain ⟨b3, o3, x0, x1, E2, p2, q2, t2, E3, p3, q3, t3, E4, p4, q4, t4, hAs, _, hb3, hst, i0, i1, g2, g3, g4, e0, e1, e2, e3, e4⟩ := Stmt_at HP.out.code hm3
      have hms : stOf (C.fn fn) ns[k] = (x0, x1, t2, t3, t4) := by rw [hm, stAt hml]; exact hst
      have HMS := Lib.hid hms
      have hmem := Lib.hid (show ((x0, x1, t2, t3, t4) : Stmt) ∈ (C.fn fn).2.2.2 from by rw [← hms]; exact stOf_mem (by rw [hm]; omega))
      rw [hm] at hce
      have k3 : wr.cell? ⟨c, 3, none⟩ = some (.slice (some ⟨b3, o3, none⟩) F.ns F.cs) := by rw [← hAs]; exact HP.out.f.cl.cell 3
      have hm3i : (m : Int) < (F.ns : Int) := by omega
      obtain ⟨r1, hr1⟩ : ∃ r1, (big C N).2 (C.fn fn) (x0, x1, t2, t3, t4) deep fr1 st1 = r1 := ⟨_, rfl⟩
      have HR1 := Lib.hid hr1
      have G2 := Lib.hid g2
      have G3 := Lib.hid g3
      have G4 := Lib.hid g4
      have hlti : (k : Int) < (n : Int) := by omega
      clear hm hms hst hAs hr1 hie g2 g3 g4 b0 b1 bz0 bz1
      go_wp2_with fail
      ((with_reducible refine (HST.out B c fn F y wr Ft1 Fv Fo1 vt1 vv vo1 deep fr1 st1 x0 x1 E2 E3 E4 p2 q2 p3 q3 p4 q4 (x0, x1, t2, t3, t4) HP.out hfu hmem.out rfl rfl i0 i1 G2.out G3.out G4.out).mono ?_))
      rw [HR1.out]
      rintro e w5 hret
      have HRET := Lib.hid hret
      obtain ⟨nv, vt', vo', Ft', Fo', rfl, inv, HV, HM, HF, HB5, HFR5, HIN5, HSEP5⟩ := hret
      have hP := Lib.hid ((big_ok GG.out N hN).2 600 (C.fn fn) (x0, x1, t2, t3, t4) deep fr1 st1 (fn_mem HP.out.fnl).1 ((GG.out.funcs _ (fn_mem HP.out.fnl).1).stmts _ hmem.out) HP.out.fok HP.out.sok hfu)
      have HSP := Lib.hid (show StmtP C 600 (C.fn fn).2.1 st1 fr1 r1 from by rw [← HR1.out]; exact hP.out)
      have HFw := Lib.hid (FrR.trans HFR.out HFR5.out (fun k hk => by rcases HIN.out k hk with h | h; exact Or.inl h; exact Or.inr (by have := HX.out; omega)))
      have HINw := Lib.hid (show ∀ j, j ∈ GB M Ft' c Fv Fo' (some y) → j ∈ GB M Ft c Fv Fo (some y) ∨ X < j from fun j hj => by
        rcases HIN5.out j hj with h | h
        · exact HIN.out j h
        · exact Or.inr (by omega))
      have HE5 := Lib.hid (show EndB w5 X from fr_atX HFR5.out (fun h => by rcases HIN.out X h with h | h; exact HXG.out h; omega) HEB.out)
      have HRR := Lib.hid (show (if r1.1.1 = 0 then bBlock (big C N).2 (C.fn fn) deep (ns.drop (k + 1)) r1.2.1 r1.2.2 else r1) = r from by
        rw [← HR.out, List.drop_eq_getElem_cons hkl]
        exact (bBlock_cons (by rw [HMS.out]; exact HR1.out)).symm)
      obtain ⟨h1, hh1⟩ : ∃ h1, r1.1.1 = h1 := ⟨_, rfl⟩
      have HH1 := Lib.hid hh1
      rw [hh1] at HRR ⊢
      have hh5 := HSP.out.how.1
      rw [hh1] at hh5
      obtain ⟨b0, b1, bz0, bz1, hX5⟩ := HE5.out.cells
      clear hh1 hP HR HIN5 HFR5 HEB k3 e0 e1 e2 e3 e4 hce G2 G3 G4
      by_cases h0 : h1 = 0
      · subst h0
        have HNX := Lib.hid (show PrS M C B c fn F y w5 Ft' Fv Fo' vt' vv vo' deep r1.2.1 r1.2.2 from by
          have hm5 := HM.out
          rw [HH1.out] at hm5
          exact ⟨HP.out.ctx.fr (FrR.trans (Fr.refl _ _) (HRET.out.elim (fun _ h => by obtain ⟨_, _, _, _, _, _, _, _, _, _, h7, _⟩ := h; exact h7.out)) (fun k hk => Or.inl hk)) HP.out.sep.ge, slB HP.out.code HP.out.ctx.le (HRET.out.elim (fun _ h => by obtain ⟨_, _, _, _, _, _, _, _, _, _, h7, _⟩ := h; exact h7.out)) HP.out.sep.ge, hm5.go (by omega), HF.out, HB5.out, HSEP5.out, HP.out.fnl, HSP.out.sok, HSP.out.fok, HP.out.deep⟩)
        have HRN := Lib.hid (show bBlock (big C N).2 (C.fn fn) deep (ns.drop (k + 1)) r1.2.1 r1.2.2 = r from by have := HRR.out; rw [if_pos rfl] at this; exact this)
        have hfn2 := Nat.le_trans HSP.out.fuel hfu
        have bd : Below w5.heap.size w5 (w5.alloc (.cells #[.int .i64 0, .int .i64 nv] 89)) := by exact belA
        have HNX2 := Lib.hid (HNX.out.keep bd)
        have HFw2 := Lib.hid (FrR.trans HFw.out (Fr.of_below (F := []) bd) (by simp))
        have HE52 := Lib.hid (show EndB (w5.alloc (.cells #[.int .i64 0, .int .i64 nv] 89)) X from below_at bd hX5 HE5.out)
        clear HRR HP hfu bd HRET HM HF HB5 HSEP5 HSP
        go_wp2_with fail
        go_roundw
        case rel => exact ⟨k + 1, Ft', Fo', vt', vo', r1.2.1, r1.2.2, by omega, by go_num, HNX2, hfn2, HFw2, HINw, HE52, HRN⟩
        case measure => simp [intOf]; omega
      · have hr : r1 = r := by have := HRR.out; rw [if_neg h0] at this; exact this
        have hh4 : h1 > 0 := by omega
        have HRE := Lib.hid hr
        have bd : Below w5.heap.size w5 (w5.alloc (.cells #[.int .i64 h1, .int .i64 nv] 89)) := by exact belA
        clear h0 hr
        go_wp2_with fail
        refine bodyPost_ret (v := .agg #[.int .i64 h1, .int .i64 nv]) (by simp [results, Try.results74, go_sem, b0, b1, hX5]) rfl ?_
        rw [← HRE.out, ← HH1.out]
        exact RetStS.put HRET.out HFR.out HIN.out (Nat.le_of_eq HX.out) hXr HXG.out (by exact frcA)
    · have hkn : k = n := by omega
      have HRE := Lib.hid (show ((0, 0), fr1, st1) = r from by have := HR.out; rw [List.drop_of_length_le (by have := HLEN.out; omega)] at this; exact this)
      have hki : ¬ (k : Int) < (n : Int) := by omega
      have hXn : X ∉ GB M Ft1 c Fv Fo1 (some y) := fun h => by rcases HIN.out X h with h | h; exact HXG.out h; omega
      have HXN := Lib.hid hXn
      clear hlt hkn hXn
      go_wp2_with fail
      refine bodyPost_ret (v := .agg #[.int .i64 0, .int .i64 0]) (by simp [results, Try.results74, go_sem, b0, b1, hXr]) rfl ?_
      rw [← HRE.out]
      have hf : Fr [X] wr ((wr.setCell ⟨X, 0, none⟩ (.int .i64 0)).setCell ⟨X, 1, none⟩ (.int .i64 0)) := by exact frcA
      exact RetStS.ofPre (HP.out.move hf (fun k hk => by rw [List.mem_singleton.1 hk]; exact HXN.out) (fun k hk => by rw [List.mem_singleton.1 hk]; have := HX.out; omega)) (by unfold I64; omega) (by omega) (FrR.trans HFR.out hf (fun k hk => Or.inr (by rw [List.mem_singleton.1 hk]; have := HX.out; omega))) (fun k hk => by rcases HIN.out k hk with h | h; exact Or.inl h; exact Or.inr (by have := HX.out; omega))
end Go.Proofs.Ytgoinmdnpaknpaa
