/- Folding an expression: the program's walk. -/
import Derived.Test.YthdpkcmeepabjaaFoldP
import Derived.Test.YthdpkcmeepabjaaReplT
import Derived.IntWalk
import Derived.BigRegion
set_option linter.unusedVariables false
set_option linter.unusedSimpArgs false
set_option maxRecDepth 100000
namespace Go.Proofs.Ythdpkcmeepabjaa
open Go.RowKit
def vlen : Value → Nat
  | .slice _ n _ => n
  | _ => 0
theorem tokRow_form {w : World} {b : Nat} {v : Value} {l : List Tok} (h : TokRow w b v l) : ∃ A m c, v = .slice A m c ∧ m = l.length := by
  rcases h.2 with ⟨rfl, h0⟩ | ⟨g, cap, cur, rfl, _⟩
  · exact ⟨_, _, _, rfl, h0.symm⟩
  · exact ⟨_, _, _, rfl, rfl⟩
set_option maxHeartbeats 4000000 in
theorem implFoldExprR (w : World) (lo hi : Nat) (A : Option Addr) (n c : Nat) (l : List Tok) (h : Sl TokR w lo hi A n c l) (hh : hi ≤ w.heap.size) (hn : n ≤ 12) (hsm : smT l) :
    Calls Try.prog 88 #[.slice A n c] w (RetTok (foldF l) w) := by
  have HSM := Lib.hid hsm
  have HL := Lib.hid h.lenEq
  clear hsm
  go_enter Try.func88, Try.ntmps88
  go_wp2_with fail
  refine (cloneToksR _ lo hi A n c l (h.below (show Below w.heap.size w _ by (repeat (first | with_reducible exact Below.refl _ _ | with_reducible assumption | with_reducible refine below_alloc ?_ _ | ((with_reducible refine Below.setCell ?_ ?_ _); rotate_left; (· first | exact Nat.le_refl _ | (simp; done) | (simp; omega))) | with_reducible refine below_drewN ?_ _ | with_reducible refine Below.drew ?_ | with_reducible refine below_then ?_ (by with_reducible assumption)))) hh) (by first | omega | (simp; done) | (simp; omega)) (by omega)).mono ?_
  rintro e w1 ⟨v0, rfl, ho0, hb0⟩
  obtain ⟨A0, m0, c0, rfl, hm0⟩ := tokRow_form ho0
  have HM0 := Lib.hid hm0
  clear hm0
  go_wp2_with fail
  go_loopw [3, 4] (fun v i wr => ∃ (A1 : Option Addr) (m c1 k : Nat) (l' : List Tok), v = .slice A1 m c1 ∧ i = .int .i64 k ∧ m = l'.length ∧ foldF l' = foldF l ∧ smT l' ∧ l'.length ≤ 12 ∧ k ≤ 12 ∧ (∀ j, j < k → canAt l' j = false) ∧ TokRow wr w.heap.size (.slice A1 m c1) l' ∧ Below w.heap.size w wr) (fun v i _ => 40 * vlen v - (intOf i).toNat)
  case atStart => exact ⟨A0, m0, c0, 0, l, rfl, rfl, HM0.out, rfl, HSM.out, by have := HL.out; omega, by omega, by simp, ho0, hb0⟩
  case round =>
    obtain ⟨A1, m, c1, k, l', rfl, rfl, hm, he0, hs0, hl12, hk12, hno0, ho, hb⟩ := hrel
    have HE := Lib.hid he0
    have HS := Lib.hid hs0
    have HNO := Lib.hid hno0
    clear he0 hs0 hno0
    by_cases hlt : k + 2 < m
    · have hkl : k + 2 < l'.length := by omega
      have hA := (ownsRow_cases (World.ownsRow.mono ho (Nat.zero_le _))).2
      obtain ⟨g, rfl, hmc, hc63⟩ : ∃ g, A1 = some ⟨g, 0, none⟩ ∧ m ≤ c1 ∧ c1 ≤ 9223372036854775807 := by
        rcases hA with ⟨_, h0, _⟩ | ⟨g, h1, h2, h3⟩
        · omega
        · exact ⟨g, h1, by omega, h3⟩
      obtain ⟨a0, a1⟩ := tokRow_at ho (k := k) (by omega)
      obtain ⟨b0, b1⟩ := tokRow_at ho (k := k + 1) (by omega)
      obtain ⟨c0, c0x⟩ := tokRow_at ho (k := k + 2) hkl
      clear c0x
      have hcan := canAt_of hkl
      have hst := fun h2 => foldOnce_at (l := l') hkl HNO.out h2
      have sa := HS.out _ (List.getElem_mem (by omega : k < l'.length))
      have sb := HS.out _ (List.getElem_mem (by omega : k + 1 < l'.length))
      generalize l'[k]'(by omega) = ta at a0 a1 hcan hst sa
      generalize l'[k + 1]'(by omega) = tb at b0 b1 hcan hst sb
      generalize l'[k + 2]'hkl = tc at c0 hcan hst
      obtain ⟨ta0, ta1⟩ := ta
      obtain ⟨tb0, tb1⟩ := tb
      obtain ⟨tc0, tc1⟩ := tc
      simp only at a0 a1 b0 b1 c0 sa sb
      have HCAN := Lib.hid hcan
      have HST := Lib.hid hst
      have HM := Lib.hid hm
      have hm12 : m ≤ 12 := by omega
      clear hcan hst hA hm hkl
      go_wp2_with fail
      have q1 : IntKind.i64.wrap ((k : Int) + 1) = (k : Int) + 1 := IntWalk.i64_in _ (by omega)
      have q2 : IntKind.i64.wrap ((k : Int) + 2) = (k : Int) + 2 := IntWalk.i64_in _ (by omega)
      have q3 : (0 : Int) ≤ (k : Int) + 1 := by omega
      have q4 : (0 : Int) ≤ (k : Int) + 2 := by omega
      have q5 : ((k : Int) + 1).toNat = k + 1 := by omega
      have q6 : ((k : Int) + 2).toNat = k + 2 := by omega
      have q7 : k < m := by omega
      have q8 : (k : Int) + 1 < (m : Int) := by omega
      have q9 : (k : Int) + 2 < (m : Int) := by omega
      have r0 : k + 1 < m := by omega
      have hgw : g < wr.heap.size := World.block_lt_of_cell? wr _ a0
      go_region
      all_goals
        clear q1 q2 q3 q4 q5 q6
        by_cases g1 : ta0 = 1
        rotate_left
        · have e1 : (ta0 != 1) = true := by simpa using g1
          have hno := Lib.hid (show ∀ j, j < k + 1 → canAt l' j = false from fun j hj => by
            by_cases hjk : j = k
            · subst hjk; rw [HCAN.out]; unfold canF; simp [g1]
            · exact HNO.out j (by omega))
          clear g1 HNO
          go_wp2_with fail
          go_roundw
          case rel => exact ⟨_, m, c1, k + 1, l', rfl, by go_num, HM.out, HE.out, HS.out, hl12, by omega, hno.out, ownsRow_below ho (by (repeat (first | with_reducible exact Below.refl _ _ | with_reducible assumption | with_reducible refine below_alloc ?_ _ | ((with_reducible refine Below.setCell ?_ ?_ _); rotate_left; (· first | exact Nat.le_refl _ | (simp; done) | (simp; omega))) | with_reducible refine below_drewN ?_ _ | with_reducible refine Below.drew ?_ | with_reducible refine below_then ?_ (by with_reducible assumption)))), by (repeat (first | with_reducible exact Below.refl _ _ | with_reducible assumption | with_reducible refine below_alloc ?_ _ | ((with_reducible refine Below.setCell ?_ ?_ _); rotate_left; (· first | exact Nat.le_refl _ | (simp; done) | (simp; omega))) | with_reducible refine below_drewN ?_ _ | with_reducible refine Below.drew ?_ | with_reducible refine below_then ?_ (by with_reducible assumption)))⟩
          case measure => simp [intOf, vlen]; omega
        subst g1
        by_cases g2 : tb0 = 1
        rotate_left
        · have e1 : (tb0 != 1) = true := by simpa using g2
          have hno := Lib.hid (show ∀ j, j < k + 1 → canAt l' j = false from fun j hj => by
            by_cases hjk : j = k
            · subst hjk; rw [HCAN.out]; unfold canF; simp [g2]
            · exact HNO.out j (by omega))
          clear g2 HNO
          go_wp2_with fail
          go_roundw
          case rel => exact ⟨_, m, c1, k + 1, l', rfl, by go_num, HM.out, HE.out, HS.out, hl12, by omega, hno.out, ownsRow_below ho (by (repeat (first | with_reducible exact Below.refl _ _ | with_reducible assumption | with_reducible refine below_alloc ?_ _ | ((with_reducible refine Below.setCell ?_ ?_ _); rotate_left; (· first | exact Nat.le_refl _ | (simp; done) | (simp; omega))) | with_reducible refine below_drewN ?_ _ | with_reducible refine Below.drew ?_ | with_reducible refine below_then ?_ (by with_reducible assumption)))), by (repeat (first | with_reducible exact Below.refl _ _ | with_reducible assumption | with_reducible refine below_alloc ?_ _ | ((with_reducible refine Below.setCell ?_ ?_ _); rotate_left; (· first | exact Nat.le_refl _ | (simp; done) | (simp; omega))) | with_reducible refine below_drewN ?_ _ | with_reducible refine Below.drew ?_ | with_reducible refine below_then ?_ (by with_reducible assumption)))⟩
          case measure => simp [intOf, vlen]; omega
        subst g2
        by_cases g3 : inB tc0 3 8 = true
        rotate_left
        · have g3 : inB tc0 3 8 = false := by simpa using g3
          have hno := Lib.hid (show ∀ j, j < k + 1 → canAt l' j = false from fun j hj => by
            by_cases hjk : j = k
            · subst hjk; rw [HCAN.out]; unfold canF; simp [g3]
            · exact HNO.out j (by omega))
          clear HNO
          go_wp2_with (go_at_call 144; ((with_reducible refine (implIsReckoned _ _).mono ?_); rintro e w5 ⟨rfl, hb5⟩))
          go_roundw
          case rel => exact ⟨_, m, c1, k + 1, l', rfl, by go_num, HM.out, HE.out, HS.out, hl12, by omega, hno.out, ownsRow_below ho (by (repeat (first | with_reducible exact Below.refl _ _ | with_reducible assumption | with_reducible refine below_alloc ?_ _ | ((with_reducible refine Below.setCell ?_ ?_ _); rotate_left; (· first | exact Nat.le_refl _ | (simp; done) | (simp; omega))) | with_reducible refine below_drewN ?_ _ | with_reducible refine Below.drew ?_ | with_reducible refine below_then ?_ (by with_reducible assumption)))), by (repeat (first | with_reducible exact Below.refl _ _ | with_reducible assumption | with_reducible refine below_alloc ?_ _ | ((with_reducible refine Below.setCell ?_ ?_ _); rotate_left; (· first | exact Nat.le_refl _ | (simp; done) | (simp; omega))) | with_reducible refine below_drewN ?_ _ | with_reducible refine Below.drew ?_ | with_reducible refine below_then ?_ (by with_reducible assumption)))⟩
          case measure => simp [intOf, vlen]; omega
        have sa2 := sa.2.2 rfl
        have sb2 := sb.2.2 rfl
        by_cases g4 : recB tc0 tb1 = true
        rotate_left
        · have g4 : recB tc0 tb1 = false := by simpa using g4
          have hno := Lib.hid (show ∀ j, j < k + 1 → canAt l' j = false from fun j hj => by
            by_cases hjk : j = k
            · subst hjk; rw [HCAN.out]; unfold canF; simp [g4]
            · exact HNO.out j (by omega))
          clear HNO
          go_wp2_with fail
          refine (implIsReckoned _ _).mono ?_
          rintro e w5 ⟨rfl, hb5⟩
          obtain ⟨hcE, hfE⟩ := bcell hb5
          have hb6 := below_then (show Below wr.heap.size wr _ by (repeat (first | with_reducible exact Below.refl _ _ | with_reducible assumption | with_reducible refine below_alloc ?_ _ | ((with_reducible refine Below.setCell ?_ ?_ _); rotate_left; (· first | exact Nat.le_refl _ | (simp; done) | (simp; omega))) | with_reducible refine below_drewN ?_ _ | with_reducible refine Below.drew ?_ | with_reducible refine below_then ?_ (by with_reducible assumption)))) hb5
          go_wp2_with fail
          refine (implReckon _ _ _ _ sa2 sb2).mono ?_
          rintro e w6 ⟨rfl, rfl⟩
          clear hcE hfE hb5
          go_wp2_with fail
          go_roundw
          case rel => exact ⟨_, m, c1, k + 1, l', rfl, by go_num, HM.out, HE.out, HS.out, hl12, by omega, hno.out, ownsRow_below ho hb6, below_then hb hb6⟩
          case measure => simp [intOf, vlen]; omega
        · have hcn : canAt l' k = true := by rw [HCAN.out]; unfold canF; simp [g3, g4]
          have hst := HST.out hcn
          have HST2 := Lib.hid hst
          clear hcn hst
          obtain ⟨cur, hgc, hcs, hct⟩ : ∃ cur : List Value, wr.heap[g]? = some (.cells cur.toArray 202 (0, 0)) ∧ cur.length = c1 * 2 ∧ cur.take (m * 2) = encL insV l' := by
            rcases ho.2 with ⟨h0, _⟩ | ⟨g', cap, cur, h0, _, hg, _, _, hsz, htk⟩
            · cases h0
            · injection h0 with e1 e2 e3
              injection e1 with e1
              injection e1 with e1
              subst e1 e2 e3
              exact ⟨cur.toList, hg, by simpa using hsz, htk⟩
          have hgb : w.heap.size ≤ g := (World.ownsRow.lt ho g rfl).1
          have HCS := Lib.hid hcs
          have HCT := Lib.hid hct
          have HGC := Lib.hid hgc
          have hmx : c1 ≤ maxLen := by unfold maxLen; omega
          clear hcs hct hgc
          go_wp2_with fail
          refine (implIsReckoned _ _).mono ?_
          rintro e w5 ⟨rfl, hb5⟩
          obtain ⟨hcE, hfE⟩ := bcell hb5
          have hb6 := below_then (show Below wr.heap.size wr _ by (repeat (first | with_reducible exact Below.refl _ _ | with_reducible assumption | with_reducible refine below_alloc ?_ _ | ((with_reducible refine Below.setCell ?_ ?_ _); rotate_left; (· first | exact Nat.le_refl _ | (simp; done) | (simp; omega))) | with_reducible refine below_drewN ?_ _ | with_reducible refine Below.drew ?_ | with_reducible refine below_then ?_ (by with_reducible assumption)))) hb5
          go_wp2_with fail
          refine (implReckon _ _ _ _ sa2 sb2).mono ?_
          rintro e w6 ⟨rfl, rfl⟩
          rw [g4]
          have hz5 := hb6.size
          clear hcE hfE hb5
          go_wp2_with fail
          refine (replToks _ g m c1 k w5.heap.size cur l' 1 (recN tc0 ta1 tb1) (by rw [Below.heap_alloc _ _ _ (by omega : g < w5.heap.size), hb6.block g hgw]; exact HGC.out) HCS.out hmc hmx HM.out.symm HCT.out (by omega) hm12 (by simp [go_sem]) (by simp [go_sem]) (by omega)).mono ?_
          rintro e w7 ⟨rfl, ⟨cur', hg7, hs7, ht7⟩, hf7⟩
          have hb7 : Below w.heap.size w w7 := below_fr (below_then hb (below_then hb6 (show Below w5.heap.size w5 _ by (repeat (first | with_reducible exact Below.refl _ _ | with_reducible assumption | with_reducible refine below_alloc ?_ _ | ((with_reducible refine Below.setCell ?_ ?_ _); rotate_left; (· first | exact Nat.le_refl _ | (simp; done) | (simp; omega))) | with_reducible refine below_drewN ?_ _ | with_reducible refine Below.drew ?_ | with_reducible refine below_then ?_ (by with_reducible assumption)))))) hf7 (fun i hi => by simp at hi; omega)
          have hnl : (l'.take k ++ ((1, recN tc0 ta1 tb1) :: l'.drop (k + 3))).length = m - 2 := by
            have := HM.out
            simp only [List.length_append, List.length_cons, List.length_take, List.length_drop]
            omega
          have ho7 : TokRow w7 w.heap.size (.slice (some ⟨g, 0, none⟩) (m - 2) c1) (l'.take k ++ ((1, recN tc0 ta1 tb1) :: l'.drop (k + 3))) := by
            unfold TokRow
            rw [hnl]
            exact ⟨by rw [encL_len insV_len, hnl], Or.inr ⟨g, c1, cur', rfl, hgb, hg7, by omega, hmx, hs7, ht7⟩⟩
          have he7 : foldF (l'.take k ++ ((1, recN tc0 ta1 tb1) :: l'.drop (k + 3))) = foldF l := by rw [← HE.out]; exact (foldF_step HST2.out).symm
          have hs7' : smT (l'.take k ++ ((1, recN tc0 ta1 tb1) :: l'.drop (k + 3))) := smT_fold (a := (1, ta1)) (b := (1, tb1)) (c := (tc0, tc1)) HS.out
          have HE7 := Lib.hid he7
          have HS7 := Lib.hid hs7'
          have HNL := Lib.hid hnl
          clear hg7 hs7 ht7 hf7 hnl he7 hs7' hb6
          go_wp2_with fail
          go_roundw
          case rel => exact ⟨_, m - 2, c1, 0, _, rfl, rfl, HNL.out.symm, HE7.out, HS7.out, by have := HNL.out; omega, by omega, by simp, ho7, hb7⟩
          case measure => simp [intOf, vlen]; omega
    · have hfin := Lib.hid (show foldF l = l' by rw [← HE.out]; exact foldF_stop (foldOnce_none fun j hj => HNO.out j (by omega)))
      have hk0 : ¬ (k : Int) + 2 < (m : Int) := by omega
      have HM := Lib.hid hm
      clear hm
      go_wp2_with fail
      go_ret
      exact ⟨_, rfl, by rw [hfin.out]; exact ho, hb⟩
end Go.Proofs.Ythdpkcmeepabjaa
