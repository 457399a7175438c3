/- The reference's test of one note: walk. -/
import Derived.Test.YtgdeclmciflmpaaChkI0
import Derived.Deep.DeepCutAuto
import Derived.Deep.RegionHeld3
import Derived.Deep.QuietTactic
import Derived.BigQuiet
set_option linter.unusedVariables false
set_option linter.unusedSimpArgs false
set_option maxRecDepth 100000
namespace Go.Proofs.Ytgdeclmciflmpaa
open Go.RowKit
attribute [local irreducible] wpList
def RetI (r : Int) (w : World) (e : Ending) (w' : World) : Prop := e = .returned (.int .i64 r) ∧ Below w.heap.size w w'
theorem RetI.mk {r r' : Int} {w w' : World} (h : r' = r) (hb : Below w.heap.size w w') : RetI r w (.returned (.int .i64 r')) w' := ⟨by rw [h], hb⟩
def openT (ps qs : List Int) (k : Nat) : List Int := (ps.take k).filter fun s => !qs.contains s
theorem openT_yes {ps qs : List Int} {k : Nat} (hk : k < ps.length) (h : qs.contains ps[k] = false) : openT ps qs (k + 1) = openT ps qs k ++ [ps[k]] := by
  unfold openT; rw [List.take_succ_eq_append_getElem hk, List.filter_append, List.filter_cons, if_pos (by rw [h]; rfl)]; rfl
theorem openT_no {ps qs : List Int} {k : Nat} (hk : k < ps.length) (h : qs.contains ps[k] = true) : openT ps qs (k + 1) = openT ps qs k := by
  unfold openT; rw [List.take_succ_eq_append_getElem hk, List.filter_append, List.filter_cons, if_neg (by rw [h]; simp)]; simp
theorem openT_len (ps qs : List Int) (k : Nat) : (openT ps qs k).length ≤ k := Nat.le_trans (List.length_filter_le _ _) (by simp; omega)
set_option maxHeartbeats 16000000 in
theorem specWrong (w : World) (lo hi n c : Nat) (A : Option Addr) (l : List Note) (h : Sl noteR w lo hi A n c l) (hh : hi ≤ w.heap.size) (hn : n ≤ 1048576) (x y z : Int) (hok : noteOk (x, y, z) = true) :
    Calls Try.prog 44 #[.slice A n c, .agg #[.int .i64 x, .int .i64 y, .int .i64 z]] w (RetI (codeOf (stOf l y) (x, y, z)) w) := by
  have HL := Lib.hid h.lenEq
  have HN := Lib.hid h.notes64
  have hk3 : x = 1 ∨ x = 2 ∨ x = 3 := by
    unfold noteOk at hok
    simp only [Bool.and_eq_true] at hok
    have := inB_iff.1 hok.1.1.1
    omega
  obtain ⟨i0, hi0, hz0, hz1, hz2⟩ := info_parts Try.infoInt
  obtain ⟨P, hP⟩ : ∃ P, sites 1 y l = P := ⟨_, rfl⟩
  obtain ⟨Q, hQ⟩ : ∃ Q, sites 2 y l = Q := ⟨_, rfl⟩
  obtain ⟨E, hE⟩ : ∃ E, sites 3 y l = E := ⟨_, rfl⟩
  obtain ⟨r, hr⟩ : ∃ r, codeOf (stOf l y) (x, y, z) = r := ⟨_, rfl⟩
  have hPl : P.length ≤ n := by rw [← hP]; have := sites_len 1 y l; have := HL.out; omega
  have HR := Lib.hid (show codeOf (!E.isEmpty, !Q.isEmpty, P, openT P Q P.length) (x, y, z) = r by
    rw [← hr]; unfold stOf openF openT; rw [hP, hQ, hE, List.take_length])
  rw [hr]
  have HP := Lib.hid hP
  have HQ := Lib.hid hQ
  have HE := Lib.hid hE
  have HP6 := Lib.hid (show ∀ v, v ∈ P → I64 v from by rw [← hP]; exact sites64 HN.out)
  clear hr hP hQ hE hok
  go_enter Try.func44, Try.ntmps44
  go_upto_region 1 with fail
  obtain ⟨N, hN⟩ : ∃ N, w.heap.size = N := ⟨_, rfl⟩
  obtain ⟨U, hU⟩ : ∃ U, U = w.alloc (.cells #[.int .i64 x, .int .i64 y, .int .i64 z] 80) := ⟨_, rfl⟩
  have hbU : Below w.heap.size w U := by rw [hU]; exact belA
  have hS := Lib.hid (show ∀ V', Below U.heap.size U V' → V'.cell? ⟨N, 0, none⟩ = some (.int .i64 x) ∧ V'.cell? ⟨N, 1, none⟩ = some (.int .i64 y) ∧ V'.cell? ⟨N, 2, none⟩ = some (.int .i64 z) from fun V' hV' =>
    ⟨below_cell hV' (by rw [hU, ← hN]; simp [go_sem]), below_cell hV' (by rw [hU, ← hN]; simp [go_sem]), below_cell hV' (by rw [hU, ← hN]; simp [go_sem])⟩)
  rw [← hU, hN]
  have hzU := hbU.size
  have hU1 : Sl noteR U lo hi A n c l := h.below hbU hh
  clear hU
  obtain ⟨k0, k1, k2⟩ := hS.out U (Below.refl _ _)
  go_wp2_with fail
  refine (specL11Of U lo hi n c A l 1 y hU1 (by omega) hn).mono ?_
  rw [HP.out]
  rintro e w1 ⟨F1, A1, n1, c1, rfl, o1, hF1, b1⟩
  have z1 := b1.size
  clear k0 k1 k2
  obtain ⟨k0, k1, k2⟩ := hS.out w1 b1
  go_wp2_with fail
  refine (specL11Of w1 lo hi n c A l 2 y (hU1.below b1 (by omega)) (by omega) hn).mono ?_
  rw [HQ.out]
  rintro e w2 ⟨F2, A2, n2, c2, rfl, o2, hF2, b2⟩
  have z2 := b2.size
  have b12 : Below U.heap.size U w2 := b1.trans (b2.mono z1)
  have O1 := Lib.hid (o1.below b2)
  have O2 := Lib.hid o2
  have L1 := Lib.hid (o1.sl.lenEq)
  have hn1 : n1 ≤ n := by have := L1.out; omega
  clear k0 k1 k2 o1 o2
  go_wp2_with fail
  go_loopw [7, 20] (fun v i wr => ∃ (vo : Value) (k : Nat), vo = v ∧ k ≤ n1 ∧ i = .int .i64 k ∧ wr.ownsRow w2.heap.size 3 1 vo (openT P Q k).length ((openT P Q k).map (Value.int .i64)) ∧ Below w2.heap.size w2 wr) (fun _ i _ => n1 - (intOf i).toNat)
  case atStart => exact ⟨_, 0, rfl, Nat.zero_le _, rfl, by simpa [openT] using World.ownsRow_nil _ _ _ _, Below.refl _ _⟩
  case round =>
    obtain ⟨vo, k, rfl, hk, rfl, ho, hb⟩ := hrel
    have hzr := hb.size
    by_cases hlt : k < n1
    · obtain ⟨bp, op, hAp, _, _, hcp, hip⟩ := (O1.out.sl.below hb (Nat.le_refl _)).int_at hlt
      subst hAp
      have hkP : k < P.length := by have := L1.out; omega
      obtain ⟨s, hs⟩ : ∃ s, P[k]'hkP = s := ⟨_, rfl⟩
      rw [hs] at hcp hip
      have HSk := Lib.hid hs
      have hOk := openT_len P Q k
      obtain ⟨hq, hhq⟩ : ∃ b, Q.contains s = b := ⟨_, rfl⟩
      have HQC := Lib.hid hhq
      have HO := Lib.hid ho
      clear hs hhq ho
      go_wp2_with fail
      refine (specL1Has wr 0 w2.heap.size A2 n2 c2 Q s (O2.out.sl.below hb (Nat.le_refl _)) hzr).mono ?_
      rintro e w3 ⟨rfl, hb3⟩
      rw [HQC.out]
      have hz3 := hb3.size
      have hb23 : Below w2.heap.size w2 w3 := hb.trans (hb3.mono hzr)
      have ho3 := ownsRow_below HO.out hb3
      cases hq
      · have hst := Lib.hid (openT_yes hkP (by rw [HSk.out]; exact HQC.out))
        rw [HSk.out] at hst
        go_wp2_with (at_builtin; refine wpList_append_own _ rfl _ _ 30 rfl w2.heap.size 3 i0 (.int .i64 0) 1 8 Try.underlying30 hi0 hz0 hz1 hz2 rfl (by decide) _ _ _ rfl (ho3.alloc _) ⟨w3.heap.size, 0, none⟩ 1 1 [.int .i64 s] rfl rfl (cell_new1 _ _ _ (by simp)) (by simp [Value.oneCell']) (by unfold maxLen; omega) (by omega) (by simp; omega) ?_)
        intro v' w4 hown hgr _
        have hb4 := below_own ho3 hgr (show Below w2.heap.size w2 _ by exact beloA)
        have ho4 : w4.ownsRow w2.heap.size 3 1 v' (openT P Q (k + 1)).length ((openT P Q (k + 1)).map (Value.int .i64)) := by
          rw [hst.out]; simpa using hown
        clear hown hgr ho3
        go_wp2_with fail
        go_roundw
        case rel => exact ⟨_, k + 1, rfl, by omega, by go_num, ho4, hb4⟩
        case measure => simp [intOf]; omega
      · have hst := Lib.hid (openT_no hkP (by rw [HSk.out]; exact HQC.out))
        have ho4 : w3.ownsRow w2.heap.size 3 1 vo (openT P Q (k + 1)).length ((openT P Q (k + 1)).map (Value.int .i64)) := by
          rw [hst.out]; exact ho3
        clear ho3
        go_wp2_with fail
        go_roundw
        case rel => exact ⟨_, k + 1, rfl, by omega, by go_num, ho4, hb23⟩
        case measure => simp [intOf]; omega
    have hkn : k = P.length := by have := L1.out; omega
    have hOl := openT_len P Q k
    rw [hkn] at ho
    obtain ⟨O, hO⟩ : ∃ O, openT P Q P.length = O := ⟨_, rfl⟩
    have HO := Lib.hid hO
    rw [hO] at ho HR
    have hOo := own_ints ho (fun v hv => HP6.out v (by rw [← hO] at hv; exact List.mem_of_mem_take (List.mem_filter.1 hv).1))
    obtain ⟨Ao, no, co, rfl, hno⟩ := hOo.form
    have HNO := Lib.hid hno
    have hno2 : no ≤ n := by rw [hkn, hO] at hOl; omega
    have HOO := Lib.hid hOo
    clear ho hO hOo hno hkn hOl
    have b13 : Below U.heap.size U wr := b12.trans (hb.mono (by omega))
    obtain ⟨k0, k1, k2⟩ := hS.out wr b13
    go_wp2_with fail
    refine (specL11Of wr lo hi n c A l 3 y (hU1.below b13 (by omega)) (by omega) hn).mono ?_
    rw [HE.out]
    rintro e w5 ⟨F5, A5, n5, c5, rfl, o5, hF5, b5⟩
    have z5 := b5.size
    have L5 := o5.sl.lenEq
    have b15 : Below U.heap.size U w5 := b13.trans (b5.mono (by omega))
    have HOW := Lib.hid (HOO.out.below b5)
    clear k0 k1 k2
    obtain ⟨k0, k1, k2⟩ := hS.out w5 b15
    have bw5 : Below w.heap.size w w5 := hbU.trans (b15.mono hzU)
    by_cases h5 : 0 < n5
    · have hr : r = 1 := by
        rw [← HR.out, show E.isEmpty = false by cases E; (simp at L5; omega); rfl]
        exact code_e _ _ _ _
      subst hr
      have h5i : (n5 : Int) > 0 := by omega
      go_wp2_with fail
      go_ret
      exact RetI.mk rfl bw5
    have h5i : ¬ (n5 : Int) > 0 := by omega
    have HR2 := Lib.hid (show codeOf (false, !Q.isEmpty, P, O) (x, y, z) = r by
      rw [← HR.out, show E.isEmpty = true by cases E; rfl; (simp at L5; omega)]; rfl)
    have hwr5 : Below w2.heap.size w2 w5 := hb.trans (b5.mono hzr)
    have L2 := Lib.hid O2.out.sl.lenEq
    clear o5 hF5 L5 h5 HO HE HP HQ
    rcases hk3 with rfl | rfl | rfl
    · obtain ⟨hs, hhs⟩ : ∃ b, P.contains z = b := ⟨_, rfl⟩
      have HHS := Lib.hid hhs
      clear hhs
      go_wp2_with fail
      refine (specL1Has w5 0 w2.heap.size A1 n1 c1 P z (O1.out.sl.below hwr5 (Nat.le_refl _)) hwr5.size).mono ?_
      rintro e w6 ⟨rfl, b6⟩
      rw [HHS.out]
      have bw6 : Below w.heap.size w w6 := bw5.trans (b6.mono bw5.size)
      clear k0 k1 k2
      obtain ⟨k0, k1, k2⟩ := hS.out w6 (b15.trans (b6.mono b15.size))
      cases hs
      rotate_left
      · have hr : r = 2 := by rw [← HR2.out, code_k1, if_pos HHS.out]
        subst hr
        go_wp2_with fail
        go_ret
        exact RetI.mk rfl bw6
      go_upto_region 14 with fail
      go_quiet (fail)
      by_cases h2 : 0 < n2
      · have hr : r = 4 := by
          rw [← HR2.out, code_k1, if_neg (by rw [HHS.out]; simp), if_pos]
          have := L2.out
          cases Q
          · simp at this; omega
          · rfl
        subst hr
        have h2i : (n2 : Int) > 0 := by omega
        go_wp2_with fail
        go_ret
        exact RetI.mk rfl (by exact belA)
      · have hr : r = 0 := by
          rw [← HR2.out, code_k1, if_neg (by rw [HHS.out]; simp), if_neg]
          have := L2.out
          cases Q
          · simp
          · simp at this; omega
        subst hr
        have h2i : ¬ (n2 : Int) > 0 := by omega
        go_wp2_with fail
        go_ret
        exact RetI.mk rfl (by exact belA)
    · by_cases hpos : 0 < no
      rotate_left
      · have hz : no = 0 := by omega
        have hr : r = 3 := by
          rw [← HR2.out, code_k2, if_neg]
          have e0 : O = [] := List.eq_nil_of_length_eq_zero (by rw [← HNO.out]; exact hz)
          rw [e0]; simp [lastOk]
        subst hr hz
        go_upto_region 14 with fail
        go_quiet (fail)
        go_wp2_with fail
        go_ret
        exact RetI.mk rfl (by exact belA)
      obtain ⟨m, rfl⟩ : ∃ m, no = m + 1 := ⟨no - 1, by omega⟩
      obtain ⟨bo, oo, hAo, _, _, hco, hi64⟩ := (HOW.out.sl).int_at (k := m) (by omega)
      subst hAo
      have hml : m < O.length := by have := HNO.out; omega
      obtain ⟨v, hv⟩ : ∃ v, O[m]'hml = v := ⟨_, rfl⟩
      rw [hv] at hco hi64
      have HV := Lib.hid hv
      have hlast := Lib.hid (show O.getLast? = some v by
        rw [List.getLast?_eq_getElem?, ← HNO.out]
        simp only [Nat.add_sub_cancel]
        rw [List.getElem?_eq_getElem hml, HV.out])
      clear hv
      have hw1 : IntKind.i64.wrap (((m + 1 : Nat) : Int) - 1) = (m : Int) := by rw [IntWalk.i64_in _ (by omega)]; omega
      have hm0 : (((m + 1 : Nat) : Int) == 0) = false := by simp; omega
      have hm1 : ¬ (m : Int) < 0 := by omega
      have hw2 : IntKind.i64.wrap (m : Int) = (m : Int) := IntWalk.i64_in _ (by omega)
      have hw3 : IntKind.i64.wrap ((m : Int) + 1 - 1) = (m : Int) := by rw [IntWalk.i64_in _ (by omega)]; omega
      have hmJ : (m : Int) < (m : Int) + 1 := by omega
      have hmI : (m : Int) < ((m + 1 : Nat) : Int) := by omega
      by_cases hys : v = z
      rotate_left
      · have hr : r = 3 := by
          rw [← HR2.out, code_k2, if_neg]
          unfold lastOk
          rw [hlast.out]
          simpa using hys
        have hne : (v != z) = true := by simpa using hys
        subst hr
        go_upto_region 14 with fail
        go_quiet (fail)
        go_wp2_with fail
        go_ret
        exact RetI.mk rfl (by exact belA)
      subst hys
      have hr : r = 0 := by
        rw [← HR2.out, code_k2, if_pos]
        unfold lastOk
        rw [hlast.out]
        simp
      subst hr
      go_upto_region 14 with fail
      go_quiet (fail)
      go_wp2_with fail
      go_ret
      exact RetI.mk rfl (by exact belA)
    · go_upto_region 14 with fail
      go_quiet (fail)
      by_cases hpos : 0 < no
      · have hr : r = 5 := by
          rw [← HR2.out, code_k3, if_neg]
          have := HNO.out
          cases O
          · simp at this; omega
          · simp
        subst hr
        have h2i : (no : Int) > 0 := by omega
        go_wp2_with fail
        go_ret
        exact RetI.mk rfl (by exact belA)
      · have hr : r = 0 := by
          rw [← HR2.out, code_k3, if_pos]
          have e0 : O = [] := List.eq_nil_of_length_eq_zero (by have := HNO.out; omega)
          rw [e0]; rfl
        subst hr
        have h2i : ¬ (no : Int) > 0 := by omega
        go_wp2_with fail
        go_ret
        exact RetI.mk rfl (by exact belA)
end Go.Proofs.Ytgdeclmciflmpaa
