/- Whether a code has its sizes: walks of both sides. -/
import Derived.Test.YtgoinmdnpaknpaaGreatCheckP
import Derived.Test.YtgoinmdnpaknpaaGreatTyIm
import Derived.Test.YtgoinmdnpaknpaaGreatExprG
set_option linter.unusedVariables false
set_option linter.unusedSimpArgs false
set_option maxRecDepth 100000
namespace Go.Proofs.YtgoinmdnpaknpaaGreat
open Go.RowKit
theorem implHasN (w : World) (o : Int) : Calls Tryz.prog 61 #[.int .i64 o] w (RetB (hasNB o) w) := by
  go_enter Tryz.func61, Tryz.ntmps61
  go_wp2_with fail
  all_goals
    go_ret
    exact RetB.mk (by simp_all [hasNB]) (by exact belA)
theorem specL5HasN (w : World) (o : Int) : Calls Tryz.prog 40 #[.int .i64 o] w (RetB (hasNB o) w) := by
  go_enter Tryz.func40, Tryz.ntmps40
  go_wp2_with fail
  all_goals
    go_ret
    exact RetB.mk (by simp_all [hasNB]) (by exact belA)
theorem insB_out {o n : Int} (h : inB o 1 18 = false) : insB (o, n) = false := by
  have h' : ¬ (1 ≤ o ∧ o ≤ 18) := fun hx => by rw [inB_true hx] at h; cases h
  have hn : hasNB o = false := by unfold hasNB; simp; omega
  unfold insB
  simp only
  rw [if_neg (by omega), if_neg (by omega), if_neg (by simp [hn]), h]; rfl
set_option maxHeartbeats 1000000 in
theorem implIsIns (w : World) (o n : Int) (hn : I64 n) : Calls Tryz.prog 95 #[.agg #[.int .i64 o, .int .i64 n]] w (RetB (insB (o, n)) w) := by
  by_cases h0 : inB o 1 18 = true
  rotate_left
  · have h0 : inB o 1 18 = false := by simpa using h0
    have hq := Lib.hid (insB_out (n := n) h0)
    go_enter Tryz.func95, Tryz.ntmps95
    go_wp2_with (go_at_call 65; ((with_reducible refine (implWithin _ _ _ _).mono ?_); rintro e w2 ⟨rfl, rfl⟩))
    go_ret
    exact RetB.mk hq.out.symm (by exact belA)
  by_cases h1 : o = 1
  · subst h1
    go_enter Tryz.func95, Tryz.ntmps95
    go_wp2_with (first
      | (go_at_call 65; ((with_reducible refine (implWithin _ _ _ _).mono ?_); rintro e w2 ⟨rfl, rfl⟩))
      | (go_at_call 109; ((with_reducible refine (implIsSmall _ _ hn).mono ?_); rintro e w2 ⟨rfl, hb⟩)))
    go_ret
    exact RetB.mk rfl (by exact belA)
  by_cases h4 : o = 4
  · subst h4
    go_enter Tryz.func95, Tryz.ntmps95
    go_wp2_with (first
      | (go_at_call 65; ((with_reducible refine (implWithin _ _ _ _).mono ?_); rintro e w2 ⟨rfl, rfl⟩))
      | (go_at_call 110; ((with_reducible refine (implIsReckoned _ _).mono ?_); rintro e w2 ⟨rfl, hb⟩)))
    go_ret
    exact RetB.mk rfl (by exact belA)
  have d1 : (o == 1) = false := by simpa using h1
  have d4 : (o == 4) = false := by simpa using h4
  by_cases hh : hasNB o = true
  · have hq := Lib.hid (show insB (o, n) = inB n 0 1000000 by unfold insB; simp only; rw [if_neg h1, if_neg h4, if_pos hh])
    go_enter Tryz.func95, Tryz.ntmps95
    go_wp2_with fail
    refine (implWithin _ _ _ _).mono ?_
    rintro e w2 ⟨rfl, rfl⟩
    go_wp2_with fail
    refine (implHasN _ _).mono ?_
    rintro e w2 ⟨rfl, hb⟩
    obtain ⟨hcE, hfE⟩ := bcell hb
    have t1 : w2.cell? ⟨w.heap.size, 1, none⟩ = some (.int .i64 n) := by simp [hcE, go_sem]
    clear hcE hfE
    go_wp2_with fail
    refine (implWithin _ _ _ _).mono ?_
    rintro e w3 ⟨rfl, rfl⟩
    go_wp2_with fail
    go_ret
    exact RetB.mk hq.out.symm (by exact belA)
  · have hh : hasNB o = false := by simpa using hh
    have hq := Lib.hid (show insB (o, n) = (n == 0) by unfold insB; simp only; rw [if_neg h1, if_neg h4, if_neg (by simp [hh]), h0]; rfl)
    go_enter Tryz.func95, Tryz.ntmps95
    go_wp2_with fail
    refine (implWithin _ _ _ _).mono ?_
    rintro e w2 ⟨rfl, rfl⟩
    go_wp2_with fail
    refine (implHasN _ _).mono ?_
    rintro e w2 ⟨rfl, hb⟩
    obtain ⟨hcE, hfE⟩ := bcell hb
    have t1 : w2.cell? ⟨w.heap.size, 1, none⟩ = some (.int .i64 n) := by simp [hcE, go_sem]
    clear hcE hfE
    go_wp2_with fail
    go_ret
    exact RetB.mk hq.out.symm (by exact belA)
set_option maxHeartbeats 1000000 in
theorem specL5Ins (w : World) (o n : Int) : Calls Tryz.prog 50 #[.agg #[.int .i64 o, .int .i64 n]] w (RetB (insB (o, n)) w) := by
  by_cases h1 : o = 1
  · subst h1
    go_enter Tryz.func50, Tryz.ntmps50
    go_wp2_with (go_at_call 81; ((with_reducible refine (specL2Bound _ _).mono ?_); rintro e w2 ⟨rfl, hb⟩))
    go_ret
    exact RetB.mk rfl (by exact belA)
  by_cases h4 : o = 4
  · subst h4
    go_enter Tryz.func50, Tryz.ntmps50
    go_wp2_with (go_at_call 49; ((with_reducible refine (specL1In _ _ _ _).mono ?_); rintro e w2 ⟨rfl, rfl⟩))
    go_ret
    exact RetB.mk rfl (by exact belA)
  have d1 : (o == 1) = false := by simpa using h1
  have d4 : (o == 4) = false := by simpa using h4
  by_cases hh : hasNB o = true
  · have hq := Lib.hid (show insB (o, n) = inB n 0 1000000 by unfold insB; simp only; rw [if_neg h1, if_neg h4, if_pos hh])
    go_enter Tryz.func50, Tryz.ntmps50
    go_wp2_with fail
    refine (specL5HasN _ _).mono ?_
    rintro e w2 ⟨rfl, hb⟩
    obtain ⟨hcE, hfE⟩ := bcell hb
    have t1 : w2.cell? ⟨w.heap.size, 1, none⟩ = some (.int .i64 n) := by simp [hcE, go_sem]
    clear hcE hfE
    go_wp2_with fail
    refine (specL1In _ _ _ _).mono ?_
    rintro e w3 ⟨rfl, rfl⟩
    go_wp2_with fail
    go_ret
    exact RetB.mk hq.out.symm (by exact belA)
  · have hh : hasNB o = false := by simpa using hh
    have hq := Lib.hid (show insB (o, n) = (inB o 1 18 && n == 0) by unfold insB; simp only; rw [if_neg h1, if_neg h4, if_neg (by simp [hh])])
    go_enter Tryz.func50, Tryz.ntmps50
    go_wp2_with fail
    refine (specL5HasN _ _).mono ?_
    rintro e w2 ⟨rfl, hb⟩
    obtain ⟨hcE, hfE⟩ := bcell hb
    have t0 : w2.cell? ⟨w.heap.size, 0, none⟩ = some (.int .i64 o) := by simp [hcE, go_sem]
    have t1 : w2.cell? ⟨w.heap.size, 1, none⟩ = some (.int .i64 n) := by simp [hcE, go_sem]
    clear hcE hfE
    go_wp2_with fail
    refine (specL1In _ _ _ _).mono ?_
    rintro e w3 ⟨rfl, rfl⟩
    go_wp2_with fail
    all_goals
      go_ret
      exact RetB.mk (by rw [hq.out]; simp_all) (by exact belA)
end Go.Proofs.YtgoinmdnpaknpaaGreat
