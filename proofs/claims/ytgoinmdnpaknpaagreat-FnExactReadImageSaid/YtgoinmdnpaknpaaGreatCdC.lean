/- CodeBytes: both sides' tops, and their contracts. -/
import Derived.Test.YtgoinmdnpaknpaaGreatCdBi
import Derived.Test.YtgoinmdnpaknpaaGreatExprG
import Derived.Deep.DeepCutAuto
set_option linter.unusedVariables false
set_option linter.unusedSimpArgs false
set_option maxRecDepth 100000
namespace Go.Proofs.YtgoinmdnpaknpaaGreat
open Go.RowKit
attribute [local irreducible] wpList
theorem specL7Good (w : World) (lo hi : Nat) (A : Option Addr) (n c : Nat) (rs : List Row) (m : Nat) (h : Sl RowR w lo hi A n c rs) (hh : hi ≤ w.heap.size) (hm : m ≤ 1048576) :
    Calls Tryz.prog 45 #[.slice A n c, .int .i64 m] w (RetB (inB m 1 300 && decide (n ≤ 300) && rowsB rs m) w) := by
  obtain ⟨b1, hb1⟩ : ∃ b, inB m 1 300 = b := ⟨_, rfl⟩
  obtain ⟨b3, hb3⟩ : ∃ b, rowsB rs m = b := ⟨_, rfl⟩
  have B1 := Lib.hid hb1
  have B3 := Lib.hid hb3
  rw [hb1, hb3]
  clear hb1 hb3
  have bn := h.lenLe
  by_cases hn : n ≤ 300
  · have hi3 : (n : Int) ≤ 300 := by omega
    rw [show decide (n ≤ 300) = true by simpa using hn]
    go_enter Tryz.func45, Tryz.ntmps45
    go_wp2_with fail
    refine (specL1In w m 1 300).mono ?_
    rintro e w1 ⟨rfl, rfl⟩
    rw [B1.out]
    cases b1
    · go_wp2_with fail
      go_ret
      exact RetB.mk rfl (by exact belA)
    · go_wp2_with fail
      refine (specL5Rows _ lo hi A n c rs m h hh hm).mono ?_
      rintro e w2 ⟨rfl, hb⟩
      rw [B3.out]
      go_wp2_with fail
      go_ret
      exact RetB.mk rfl hb
  · have hi3 : ¬ (n : Int) ≤ 300 := by omega
    rw [show decide (n ≤ 300) = false by simpa using hn]
    go_enter Tryz.func45, Tryz.ntmps45
    go_wp2_with fail
    refine (specL1In w m 1 300).mono ?_
    rintro e w1 ⟨rfl, rfl⟩
    rw [B1.out]
    cases b1
    all_goals
      go_wp2_with fail
      go_ret
      exact RetB.mk rfl (by exact belA)
/-- One code in a row of the call's own. -/
theorem one_code {w : World} {X : Nat} {t : TypeId} {x0 x1 : Int} {A2 A3 A4 : Option Addr} {n2 c2 n3 c3 n4 c4 : Nat} {ss : List Int} {is : List Ins} {rs : List Row} (h2 : Sl intR w 0 w.heap.size A2 n2 c2 ss) (h3 : Sl InsR w 0 w.heap.size A3 n3 c3 is) (h4 : Sl RowR w 0 w.heap.size A4 n4 c4 rs) (i0 : I64 x0) (i1 : I64 x1)
    (hX : w.heap[X]? = some (.cells #[.int .i64 x0, .int .i64 x1, .slice A2 n2 c2, .slice A3 n3 c3, .slice A4 n4 c4] t)) : Sl CodeR w 0 w.heap.size (some ⟨X, 0, none⟩) 1 1 [(x0, x1, ss, is, rs)] := by
  refine ⟨rfl, Nat.le_refl _, by unfold maxLen; omega, fun _ => ⟨X, 0, rfl, Nat.zero_le _, blk_size hX, fun i hi => ?_⟩⟩
  have : i = 0 := by simpa using hi
  subst this
  refine ⟨[.int .i64 x0, .int .i64 x1, .slice A2 n2 c2, .slice A3 n3 c3, .slice A4 n4 c4], ⟨[_], [_, _, _, _], rfl, ⟨rfl, i0⟩, [_], [_, _, _], rfl, ⟨rfl, i1⟩, [_], [_, _], rfl, ⟨A2, n2, c2, rfl, h2⟩, [_], [_], rfl, ⟨A3, n3, c3, rfl, h3⟩, ⟨A4, n4, c4, rfl, h4⟩⟩, fun j hj => ?_⟩
  have hj5 : j < 5 := by simpa using hj
  have hc := cell_of_row w X j _ _ _ hX
  rw [show 0 + 0 * CodeR.size + j = j by omega, hc]
  have : j = 0 ∨ j = 1 ∨ j = 2 ∨ j = 3 ∨ j = 4 := by omega
  rcases this with rfl | rfl | rfl | rfl | rfl <;> rfl
set_option maxHeartbeats 8000000 in
theorem specL12Sized (w : World) (x0 x1 : Int) (A2 A3 A4 : Option Addr) (n2 c2 n3 c3 n4 c4 : Nat) (ss : List Int) (is : List Ins) (rs : List Row) (h2 : Sl intR w 0 w.heap.size A2 n2 c2 ss) (h3 : Sl InsR w 0 w.heap.size A3 n3 c3 is) (h4 : Sl RowR w 0 w.heap.size A4 n4 c4 rs) (hn3 : n3 ≤ 1048576) (i0 : I64 x0) (i1 : I64 x1) :
    Calls Tryz.prog 22 #[.agg #[.int .i64 x0, .int .i64 x1, .slice A2 n2 c2, .slice A3 n3 c3, .slice A4 n4 c4]] w (RetB (cbB (x0, x1, ss, is, rs)) w) := by
  have HL3 := Lib.hid h3.lenEq
  have HL4 := Lib.hid h4.lenEq
  obtain ⟨b1, hb1⟩ : ∃ b, codeSz (x0, x1, ss, is, rs) = b := ⟨_, rfl⟩
  obtain ⟨b2, hb2⟩ : ∃ b, (ss.all fun n => inB n 0 1000000) = b := ⟨_, rfl⟩
  obtain ⟨b3, hb3⟩ : ∃ b, (inB n3 1 300 && decide (n4 ≤ 300) && rowsB rs n3) = b := ⟨_, rfl⟩
  have B1 := Lib.hid hb1
  have B1s := Lib.hid (show sizedB [(x0, x1, ss, is, rs)] = b1 by rw [← hb1]; unfold sizedB; simp [inB])
  have B2 := Lib.hid hb2
  have B3 := Lib.hid hb3
  obtain ⟨g, hg⟩ : ∃ g, cbB (x0, x1, ss, is, rs) = g := ⟨_, rfl⟩
  have HG := Lib.hid (show g = (b1 && b2 && b3) by
    rw [← hg, ← hb1, ← hb2, ← hb3]
    unfold cbB
    simp only
    rw [HL3.out]
    cases hc : codeSz (x0, x1, ss, is, rs)
    · rfl
    · unfold codeSz at hc
      simp only [Bool.and_eq_true] at hc
      rw [HL3.out, HL4.out] at hc
      rw [hc.1.1.2, hc.1.2]
      cases rowsB rs n3 <;> cases (ss.all fun n => inB n 0 1000000) <;> rfl)
  rw [hg]
  clear hb1 hb2 hb3 hg
  go_enter Tryz.func22, Tryz.ntmps22
  go_upto_region 2 with fail
  obtain ⟨U, hU⟩ : ∃ U, U = ((w.alloc (.cells #[.int .i64 x0, .int .i64 x1, .slice A2 n2 c2, .slice A3 n3 c3, .slice A4 n4 c4] 39)).alloc (.cells #[.int .i64 x0, .int .i64 x1, .slice A2 n2 c2, .slice A3 n3 c3, .slice A4 n4 c4] 39)).alloc (.cells #[.slice (some ⟨w.heap.size + 1, 0, none⟩) 1 1] 24) := ⟨_, rfl⟩
  have hbU : Below w.heap.size w U := by rw [hU]; exact belA
  have hS := Lib.hid (show ∀ V', Below U.heap.size U V' → V'.cell? ⟨w.heap.size, 2, none⟩ = some (.slice A2 n2 c2) ∧ V'.cell? ⟨w.heap.size, 3, none⟩ = some (.slice A3 n3 c3) ∧ V'.cell? ⟨w.heap.size, 4, none⟩ = some (.slice A4 n4 c4) ∧ V'.cell? ⟨w.heap.size + 1 + 1, 0, none⟩ = some (.slice (some ⟨w.heap.size + 1, 0, none⟩) 1 1) from fun V' hV' =>
    ⟨below_cell hV' (by rw [hU]; simp [go_sem]), below_cell hV' (by rw [hU]; simp [go_sem]), below_cell hV' (by rw [hU]; simp [go_sem]), below_cell hV' (by rw [hU]; simp [go_sem])⟩)
  have hX : U.heap[w.heap.size + 1]? = some (.cells #[.int .i64 x0, .int .i64 x1, .slice A2 n2 c2, .slice A3 n3 c3, .slice A4 n4 c4] 39) := by
    rw [hU]
    exact below_at (Below.alloc (Below.refl _ _) (Nat.le_refl _) _) (by simp) (alloc_new' (by simp))
  have hone := Lib.hid (one_code (h2.next hbU) (h3.next hbU) (h4.next hbU) i0 i1 hX)
  have hzU := hbU.size
  rw [← hU]
  clear hU hX
  obtain ⟨k2, k3, k4, k5⟩ := hS.out U (Below.refl _ _)
  have hgg := HG.out
  subst hgg
  go_wp2_with fail
  refine (specL5Sized U 0 U.heap.size (some ⟨w.heap.size + 1, 0, none⟩) 1 1 _ hone.out (Nat.le_refl _)).mono ?_
  rintro e w5 ⟨rfl, t5⟩
  rw [B1s.out]
  clear k2 k3 k4 k5
  obtain ⟨k2, k3, k4, k5⟩ := hS.out w5 t5
  have y5 := t5.size
  have t5w : Below w.heap.size w w5 := hbU.trans (t5.mono hzU)
  cases b1
  · go_wp2_with fail
    go_ret
    exact RetB.mk rfl t5w
  go_wp2_with fail
  refine (specL1All w5 0 w.heap.size n2 c2 A2 ss 0 1000000 (h2.below t5w (Nat.le_refl _)) (by omega)).mono ?_
  rintro e w6 ⟨rfl, t6⟩
  rw [B2.out]
  have t56 : Below U.heap.size U w6 := t5.trans (t6.mono y5)
  have t6w : Below w.heap.size w w6 := hbU.trans (t56.mono hzU)
  clear k2 k3 k4 k5
  obtain ⟨k2, k3, k4, k5⟩ := hS.out w6 t56
  cases b2
  · go_wp2_with fail
    go_ret
    exact RetB.mk rfl t6w
  go_wp2_with fail
  refine (specL7Good w6 0 w.heap.size A4 n4 c4 rs n3 (h4.below t6w (Nat.le_refl _)) (by have := t6w.size; omega) hn3).mono ?_
  rintro e w7 ⟨rfl, t7⟩
  rw [B3.out]
  have t7w : Below w.heap.size w w7 := t6w.trans (t7.mono t6w.size)
  go_wp2_with fail
  go_ret
  exact RetB.mk (by cases b3 <;> rfl) t7w
theorem cbR_no {c : Code} (h : cbB c = false) : cbR c = ([], false) := by unfold cbR; rw [h]; rfl
theorem cbR_long {c : Code} (h : cbB c = true) (hl : ¬ (cbL c).length ≤ 2000) : cbR c = ([], false) := by unfold cbR; rw [if_neg (by rw [h]; simpa using hl)]
theorem cbR_yes {c : Code} (h : cbB c = true) (hl : (cbL c).length ≤ 2000) : cbR c = (cbL c, true) := by unfold cbR; rw [if_pos (by rw [h]; simpa using hl)]
end Go.Proofs.YtgoinmdnpaknpaaGreat
