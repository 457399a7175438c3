/- Folding an expression: the reference's walk. -/
import Derived.Test.YthdpkcmeepabjaaFoldP
import Derived.Test.YthdpkcmeepabjaaCloneT
import Derived.IntWalk
import Derived.Deep.QuietTactic
import Derived.BigQuiet
set_option linter.unusedVariables false
set_option linter.unusedSimpArgs false
set_option maxRecDepth 100000
namespace Go.Proofs.Ythdpkcmeepabjaa
open Go.RowKit
theorem Sl.cut {α : Type} {R : Rp α} {w : World} {lo hi : Nat} {A : Option Addr} {n c : Nat} {l : List α} (h : Sl R w lo hi A n c l) (k : Nat) (hk : k ≤ n) : Sl R w lo hi A k c (l.take k) := by
  obtain ⟨h1, h2, h3, h4⟩ := h
  refine ⟨by rw [List.length_take]; omega, by omega, h3, fun hp => ?_⟩
  obtain ⟨b, off, rfl, hb1, hb2, hr⟩ := h4 (by omega)
  refine ⟨b, off, rfl, hb1, hb2, fun i hi' => ?_⟩
  have hil : i < l.length := by rw [List.length_take] at hi'; omega
  obtain ⟨cs, hr1, hr2⟩ := hr i hil
  exact ⟨cs, by rw [List.getElem_take]; exact hr1, hr2⟩
theorem Sl.from_ {α : Type} {R : Rp α} {w : World} {lo hi b off n c : Nat} {l : List α} (h : Sl R w lo hi (some ⟨b, off, none⟩) n c l) (k : Nat) (hk : k ≤ n) {A : Option Addr} (hA : k < n → A = some ⟨b, off + k * R.size, none⟩) : Sl R w lo hi A (n - k) (c - k) (l.drop k) := by
  obtain ⟨h1, h2, h3, h4⟩ := h
  refine ⟨by rw [List.length_drop]; omega, by omega, by omega, fun hp => ?_⟩
  obtain ⟨b', off', e, hb1, hb2, hr⟩ := h4 (by omega)
  injection e with e
  injection e with e1 e2
  subst e1 e2
  refine ⟨b, _, hA (by omega), hb1, hb2, fun i hi' => ?_⟩
  have hil : k + i < l.length := by rw [List.length_drop] at hi'; omega
  obtain ⟨cs, hr1, hr2⟩ := hr (k + i) hil
  refine ⟨cs, by rw [List.getElem_drop]; exact hr1, fun j hj => ?_⟩
  rw [Nat.add_assoc off, ← Nat.add_mul]
  exact hr2 j hj
def RetFold (l : List Tok) (w : World) (e : Ending) (w' : World) : Prop :=
  ∃ v, e = .returned (.tuple #[v, .bool (foldOnce l).isSome]) ∧ TokRow w' w.heap.size v ((foldOnce l).getD []) ∧ Below w.heap.size w w'
theorem RetFold.none_ {l : List Tok} {w w' : World} (h : foldOnce l = none) (hb : Below w.heap.size w w') : RetFold l w (.returned (.tuple #[.slice none 0 0, .bool false])) w' := by
  refine ⟨_, by rw [h]; rfl, ?_, hb⟩
  rw [h]; unfold TokRow; exact World.ownsRow_nil _ _ _ _
set_option maxHeartbeats 4000000 in
theorem specL13Fold (w : World) (lo hi : Nat) (A : Option Addr) (n c : Nat) (l : List Tok) (h : Sl TokR w lo hi A n c l) (hh : hi ≤ w.heap.size) (hn : n ≤ 12) (hsm : smT l) :
    Calls Try.prog 135 #[.slice A n c] w (RetFold l w) := by
  have HSM := Lib.hid hsm
  have HL := Lib.hid h.lenEq
  have hcle := h.2.1
  have hc63 : c ≤ 9223372036854775807 := by have := h.2.2.1; unfold maxLen at this; omega
  obtain ⟨inf, hif, hz0, hz1, hz2⟩ := info_parts Try.infoTok2
  have HIF := Lib.hid hif
  have HZ0 := Lib.hid hz0
  have HZ1 := Lib.hid hz1
  have HZ2 := Lib.hid hz2
  clear hsm hif hz0 hz1 hz2
  go_enter Try.func135, Try.ntmps135
  go_wp2_with fail
  go_loopw [4] (fun i wr => ∃ (k : Nat), i = .int .i64 ((k : Int) + 2) ∧ k ≤ n ∧ (∀ j, j < k → canAt l j = false) ∧ Below w.heap.size w wr) (fun i _ => n + 2 - (intOf i).toNat)
  case atStart => exact ⟨0, rfl, Nat.zero_le _, by simp, by (repeat (first | with_reducible exact Below.refl _ _ | with_reducible assumption | with_reducible refine below_alloc ?_ _ | ((with_reducible refine Below.setCell ?_ ?_ _); rotate_left; (· first | exact Nat.le_refl _ | (simp; done) | (simp; omega))) | with_reducible refine below_drewN ?_ _ | with_reducible refine Below.drew ?_ | with_reducible refine below_then ?_ (by with_reducible assumption)))⟩
  case round =>
    obtain ⟨k, rfl, hk, hno0, hb⟩ := hrel
    have HNO := Lib.hid hno0
    clear hno0
    have hbs := hb.size
    by_cases hlt : k + 2 < n
    · have hkl : k + 2 < l.length := by have := HL.out; omega
      have hr := h.below hb hh
      obtain ⟨b, o, a0, a1, hA, _, hbhi, ha, _, _, d0, d1⟩ := Tok_at hr (k := k) (by omega)
      subst hA
      obtain ⟨b', o', b0, b1, hA, _, _, hbb, _, _, d2, d3⟩ := Tok_at hr (k := k + 1) (by omega)
      injection hA with hA
      injection hA with hA1 hA2
      subst hA1 hA2
      obtain ⟨b', o', c0, c1, hA, _, _, hcc, _, _, d4, d5⟩ := Tok_at hr (k := k + 2) hlt
      injection hA with hA
      injection hA with hA1 hA2
      subst hA1 hA2
      have hcan := canAt_of hkl
      have hst := fun h2 => foldOnce_at (l := l) hkl HNO.out h2
      have sa := HSM.out _ (List.getElem_mem (by omega : k < l.length))
      have sb := HSM.out _ (List.getElem_mem (by omega : k + 1 < l.length))
      rw [ha, hbb, hcc] at hcan hst
      rw [ha] at sa
      rw [hbb] at sb
      have HCAN := Lib.hid hcan
      have HST := Lib.hid hst
      clear hcan hst ha hbb hcc
      have q0 : (k : Int) + 2 - 2 = (k : Int) := by omega
      have q1 : (k : Int) + 2 - 1 = (k : Int) + 1 := by omega
      have q5 : ((k : Int) + 1).toNat = k + 1 := by omega
      have q6 : ((k : Int) + 2).toNat = k + 2 := by omega
      have q7 : (k : Int) + 2 < (n : Int) := by omega
      have hno : canAt l k = false → Hid (∀ j, j < k + 1 → canAt l j = false) := fun h0 => Lib.hid fun j hj => by
        by_cases hjk : j = k
        · subst hjk; exact h0
        · exact HNO.out j (by omega)
      by_cases g1 : a0 = 1
      rotate_left
      · have e1 : (a0 != 1) = true := by simpa using g1
        have hno2 := hno (by rw [HCAN.out]; unfold canF; simp [g1])
        clear g1 hno
        go_wp2_with fail
        go_roundw
        case rel => exact ⟨k + 1, by go_num, by omega, hno2.out, by (repeat (first | with_reducible exact Below.refl _ _ | with_reducible assumption | with_reducible refine below_alloc ?_ _ | ((with_reducible refine Below.setCell ?_ ?_ _); rotate_left; (· first | exact Nat.le_refl _ | (simp; done) | (simp; omega))) | with_reducible refine below_drewN ?_ _ | with_reducible refine Below.drew ?_ | with_reducible refine below_then ?_ (by with_reducible assumption)))⟩
        case measure => simp [intOf]; omega
      subst g1
      by_cases g2 : b0 = 1
      rotate_left
      · have e1 : (b0 != 1) = true := by simpa using g2
        have hno2 := hno (by rw [HCAN.out]; unfold canF; simp [g2])
        clear g2 hno
        go_wp2_with fail
        go_roundw
        case rel => exact ⟨k + 1, by go_num, by omega, hno2.out, by (repeat (first | with_reducible exact Below.refl _ _ | with_reducible assumption | with_reducible refine below_alloc ?_ _ | ((with_reducible refine Below.setCell ?_ ?_ _); rotate_left; (· first | exact Nat.le_refl _ | (simp; done) | (simp; omega))) | with_reducible refine below_drewN ?_ _ | with_reducible refine Below.drew ?_ | with_reducible refine below_then ?_ (by with_reducible assumption)))⟩
        case measure => simp [intOf]; omega
      subst g2
      by_cases g3 : inB c0 3 8 = true
      rotate_left
      · have g3 : inB c0 3 8 = false := by simpa using g3
        have hno2 := hno (by rw [HCAN.out]; unfold canF; simp [g3])
        clear hno
        go_wp2_with (go_at_call 67; ((with_reducible refine (specL1In _ _ _ _).mono ?_); rintro e w5 ⟨rfl, rfl⟩))
        go_roundw
        case rel => exact ⟨k + 1, by go_num, by omega, hno2.out, by (repeat (first | with_reducible exact Below.refl _ _ | with_reducible assumption | with_reducible refine below_alloc ?_ _ | ((with_reducible refine Below.setCell ?_ ?_ _); rotate_left; (· first | exact Nat.le_refl _ | (simp; done) | (simp; omega))) | with_reducible refine below_drewN ?_ _ | with_reducible refine Below.drew ?_ | with_reducible refine below_then ?_ (by with_reducible assumption)))⟩
        case measure => simp [intOf]; omega
      have sa2 := sa.2.2 rfl
      have sb2 := sb.2.2 rfl
      by_cases g4 : recB c0 b1 = true
      rotate_left
      · have g4 : recB c0 b1 = false := by simpa using g4
        have hno2 := hno (by rw [HCAN.out]; unfold canF; simp [g4])
        clear hno
        go_wp2_with (go_at_call 67; ((with_reducible refine (specL1In _ _ _ _).mono ?_); rintro e w5 ⟨rfl, rfl⟩))
        go_quiet ((go_at_call 179; exact Calls.quiet_of_same ((specL2Reckon _ _ _ _ sa2 sb2).mono fun _ _ h => ⟨h.1, h.2.symm⟩)))
        go_wp2_with fail
        go_roundw
        case rel => exact ⟨k + 1, by go_num, by omega, hno2.out, by (repeat (first | with_reducible exact Below.refl _ _ | with_reducible assumption | with_reducible refine below_alloc ?_ _ | ((with_reducible refine Below.setCell ?_ ?_ _); rotate_left; (· first | exact Nat.le_refl _ | (simp; done) | (simp; omega))) | with_reducible refine below_drewN ?_ _ | with_reducible refine Below.drew ?_ | with_reducible refine below_then ?_ (by with_reducible assumption)))⟩
        case measure => simp [intOf]; omega
      · have hst := HST.out (by rw [HCAN.out]; unfold canF; simp [g3, g4])
        have HST2 := Lib.hid hst
        clear hst hno
        go_wp2_with (go_at_call 67; ((with_reducible refine (specL1In _ _ _ _).mono ?_); rintro e w5 ⟨rfl, rfl⟩))
        go_quiet ((go_at_call 179; exact Calls.quiet_of_same ((specL2Reckon _ _ _ _ sa2 sb2).mono fun _ _ h => ⟨h.1, h.2.symm⟩)))
        obtain ⟨W, hW⟩ : ∃ W, W = wr.drewN nq := ⟨_, rfl⟩
        have hbW : Below w.heap.size w W := by rw [hW]; (repeat (first | with_reducible exact Below.refl _ _ | with_reducible assumption | with_reducible refine below_alloc ?_ _ | ((with_reducible refine Below.setCell ?_ ?_ _); rotate_left; (· first | exact Nat.le_refl _ | (simp; done) | (simp; omega))) | with_reducible refine below_drewN ?_ _ | with_reducible refine Below.drew ?_ | with_reducible refine below_then ?_ (by with_reducible assumption)))
        have hsW := h.below hbW hh
        have hzW := hbW.size
        rw [← hW]
        have htl := Lib.hid (show (l.take k).length = k by rw [List.length_take]; omega)
        have hdl := Lib.hid (show (l.drop (k + 3)).length = n - (k + 3) by rw [List.length_drop, HL.out])
        clear hW hr d0 d1 d2 d3 d4 d5 hb hbs
        have hk3 : k + 3 ≤ n := by omega
        go_wp2_with (at_builtin; refine wpList_append_src _ rfl _ _ 117 rfl w.heap.size 202 inf (.agg #[.int .i64 0, .int .i64 0]) 2 16 Try.underlying117 HIF.out HZ0.out HZ1.out HZ2.out rfl (by decide) (.slice (some ⟨W.heap.size, 0, none⟩) 0 0) 0 [] rfl (World.ownsRow_made W #[] 0 hzW (by decide) (by simp)) (some ⟨b, o, none⟩) k c (encL insV (l.take k)) rfl (src_toks ((hsW.cut k (by omega)).below (show Below W.heap.size W _ by (repeat (first | with_reducible exact Below.refl _ _ | with_reducible assumption | with_reducible refine below_alloc ?_ _ | ((with_reducible refine Below.setCell ?_ ?_ _); rotate_left; (· first | exact Nat.le_refl _ | (simp; done) | (simp; omega))) | with_reducible refine below_drewN ?_ _ | with_reducible refine Below.drew ?_ | with_reducible refine below_then ?_ (by with_reducible assumption)))) (by omega))) (encL_one' insV_one) (by unfold maxLen; omega) (by omega) (by simp; omega) ?_)
        intro v1 w1 ho1 hg1 hat1
        replace ho1 : TokRow w1 w.heap.size v1 (l.take k) := by unfold TokRow; rw [htl.out]; simpa using ho1
        have hb1 : Below w.heap.size w w1 := (below_then hbW (show Below W.heap.size W (W.alloc (.cells #[] 202)) by (repeat (first | with_reducible exact Below.refl _ _ | with_reducible assumption | with_reducible refine below_alloc ?_ _ | ((with_reducible refine Below.setCell ?_ ?_ _); rotate_left; (· first | exact Nat.le_refl _ | (simp; done) | (simp; omega))) | with_reducible refine below_drewN ?_ _ | with_reducible refine Below.drew ?_ | with_reducible refine below_then ?_ (by with_reducible assumption))))).grown hg1 (by simp; omega) (fun g hg => by simp [Value.ownBlock] at hg; omega)
        have hz1 := hb1.size
        clear hg1 hat1 hbW hsW hzW
        go_wp2_with (at_builtin; refine wpList_append_own_at _ rfl _ _ 117 rfl w.heap.size 202 inf (.agg #[.int .i64 0, .int .i64 0]) 2 16 Try.underlying117 HIF.out HZ0.out HZ1.out HZ2.out rfl (by decide) v1 (l.take k).length (encL insV (l.take k)) rfl (ownsRow_below ho1 (show Below w1.heap.size w1 _ by (repeat (first | with_reducible exact Below.refl _ _ | with_reducible assumption | with_reducible refine below_alloc ?_ _ | ((with_reducible refine Below.setCell ?_ ?_ _); rotate_left; (· first | exact Nat.le_refl _ | (simp; done) | (simp; omega))) | with_reducible refine below_drewN ?_ _ | with_reducible refine Below.drew ?_ | with_reducible refine below_then ?_ (by with_reducible assumption))))) ⟨w1.heap.size, 0, none⟩ 1 1 [.int .i64 1, .int .i64 (recN c0 a1 b1)] rfl rfl (cell_new2 _ _ _ _ (by simp)) (by intro u hu; simp at hu; rcases hu with rfl | rfl <;> rfl) (by rw [htl.out]; unfold maxLen; omega) (by rw [htl.out]; omega) (by simp; omega) ?_)
        intro v2 w2 ho2 hg2 _ hat2
        replace ho2 : TokRow w2 w.heap.size v2 (l.take k ++ [(1, recN c0 a1 b1)]) := by unfold TokRow; rw [List.length_append, List.length_take, encL_append]; exact ho2
        have hb2 : Below w.heap.size w w2 := (below_then hb1 (show Below w1.heap.size w1 (w1.alloc (.cells #[.int .i64 1, .int .i64 (recN c0 a1 b1)] 202)) by (repeat (first | with_reducible exact Below.refl _ _ | with_reducible assumption | with_reducible refine below_alloc ?_ _ | ((with_reducible refine Below.setCell ?_ ?_ _); rotate_left; (· first | exact Nat.le_refl _ | (simp; done) | (simp; omega))) | with_reducible refine below_drewN ?_ _ | with_reducible refine Below.drew ?_ | with_reducible refine below_then ?_ (by with_reducible assumption))))).grown hg2 (by simp; omega) (fun g hg => (World.ownsRow.lt ho1 g hg).1)
        have hz2 := hb2.size
        have hs2 := h.below hb2 hh
        have hl2 := Lib.hid (show (l.take k ++ [(1, recN c0 a1 b1)]).length = k + 1 by rw [List.length_append, htl.out]; rfl)
        clear hg2 hat2 hb1 hz1 ho1
        have z0 : (k : Int) + 2 + 1 = (k : Int) + 3 := by omega
        have z1 : ((k : Int) + 3).toNat = k + 3 := by omega
        have ho2u : w2.ownsRow w.heap.size 202 2 v2 (k + 1) (encL insV (l.take k ++ [(1, recN c0 a1 b1)])) := by have := ho2; unfold TokRow at this; rwa [hl2.out] at this
        by_cases hc3 : c = k + 3
        all_goals
          go_wp2_with (at_builtin; refine wpList_append_src _ rfl _ _ 117 rfl w.heap.size 202 inf (.agg #[.int .i64 0, .int .i64 0]) 2 16 Try.underlying117 HIF.out HZ0.out HZ1.out HZ2.out rfl (by decide) v2 (k + 1) (encL insV (l.take k ++ [(1, recN c0 a1 b1)])) rfl ho2u _ (n - (k + 3)) _ (encL insV (l.drop (k + 3))) rfl (src_toks (hs2.from_ (k + 3) hk3 (by first | (intro hx; omega) | (intro _; rfl)))) (encL_one' insV_one) (by unfold maxLen; omega) (by omega) hz2 ?_)
          intro v3 w3 ho3 hg3 hat3
          replace ho3 : TokRow w3 w.heap.size v3 (l.take k ++ (fold3 (1, a1) (1, b1) (c0, c1) :: l.drop (k + 3))) := by
            have e1 : l.take k ++ (fold3 (1, a1) (1, b1) (c0, c1) :: l.drop (k + 3)) = (l.take k ++ [(1, recN c0 a1 b1)]) ++ l.drop (k + 3) := by simp [fold3]
            unfold TokRow; rw [e1, List.length_append, hdl.out, hl2.out, encL_append]; exact ho3
          have hb3 : Below w.heap.size w w3 := hb2.grown hg3 hz2 (fun g hg => (World.ownsRow.lt ho2 g hg).1)
          clear hg3 hat3 hb2 hz2 ho2 ho2u z0 z1
          go_wp2_with fail
          go_ret2
          exact ⟨v3, by rw [HST2.out]; rfl, by rw [HST2.out]; exact ho3, hb3⟩
    · have hfin := foldOnce_none (l := l) fun j hj => HNO.out j (by have := HL.out; omega)
      have HF := Lib.hid hfin
      have hk0 : ¬ (k : Int) + 2 < (n : Int) := by omega
      clear hfin
      go_wp2_with fail
      go_ret2
      exact RetFold.none_ HF.out hb
end Go.Proofs.Ythdpkcmeepabjaa
