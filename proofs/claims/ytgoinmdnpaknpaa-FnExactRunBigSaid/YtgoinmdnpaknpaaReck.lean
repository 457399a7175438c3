/- Reckoning: both sides. Walks. -/
import Derived.Test.YtgoinmdnpaknpaaKit1
import Derived.WalkLawsBesides
set_option linter.unusedVariables false
set_option linter.unusedSimpArgs false
set_option maxRecDepth 100000
namespace Go.Proofs.Ytgoinmdnpaknpaa
open Go.RowKit
/-- Within the bounds of numbers. -/
def I32 (n : Int) : Prop := -2147483648 ≤ n ∧ n ≤ 2147483647
def wrapV (n : Int) : Int := wrap32 n
theorem wrapV_small (n : Int) : I32 (wrapV n) := by unfold wrapV wrap32 I32; omega
theorem wrapV_id {n : Int} (h : I32 n) : wrapV n = n := by unfold wrapV wrap32; unfold I32 at h; omega
theorem wrap64_wrap32 (n : Int) : wrap64 (wrap32 n) = wrap32 n := by unfold wrap64 wrap32; omega
def recN (op x y : Int) : Int :=
  if op = 3 then wrapV (x + y) else if op = 4 then wrapV (x - y) else if op = 5 then wrapV (x * y) else if op = 6 then (if y = 0 then 0 else wrapV (x.tdiv y)) else if op = 7 then (if x < y then 1 else 0) else (if x = y then 1 else 0)
def recB (op y : Int) : Bool := !(op == 6 && y == 0)
theorem recN_small (op x y : Int) : I32 (recN op x y) := by
  unfold recN
  split
  · exact wrapV_small _
  split
  · exact wrapV_small _
  split
  · exact wrapV_small _
  split
  · split
    · unfold I32; omega
    · exact wrapV_small _
  split
  · split <;> (unfold I32; omega)
  · split <;> (unfold I32; omega)
theorem mul_small {x y : Int} (hx : I32 x) (hy : I32 y) : -4611686018427387904 ≤ x * y ∧ x * y ≤ 4611686018427387904 := by
  unfold I32 at hx hy
  have h1 : x.natAbs ≤ 2147483648 := by omega
  have h2 : y.natAbs ≤ 2147483648 := by omega
  have h3 : (x * y).natAbs ≤ 2147483648 * 2147483648 := by rw [Int.natAbs_mul]; exact Nat.mul_le_mul h1 h2
  omega
theorem tdiv_small {x y : Int} (hx : I32 x) : -2147483648 ≤ x.tdiv y ∧ x.tdiv y ≤ 2147483648 := by
  unfold I32 at hx
  have h1 : (x.tdiv y).natAbs ≤ x.natAbs := Int.natAbs_tdiv_le_natAbs x y
  omega
theorem implWrapOf (w : World) (n : Int) : Calls Try.prog 143 #[.int .i64 n] w fun e w' => e = .returned (.int .i64 (wrapV n)) ∧ w = w' := by
  go_enter Try.func143, Try.ntmps143
  go_wp2_with fail
  go_ret
  exact ⟨ret_int (wrap64_wrap32 n), rfl⟩
theorem specL2Wrap (w : World) (n : Int) : Calls Try.prog 142 #[.int .i64 n] w fun e w' => e = .returned (.int .i64 (wrapV n)) ∧ w = w' := by
  go_enter Try.func142, Try.ntmps142
  go_wp2_with fail
  go_ret
  exact ⟨ret_int (wrap64_wrap32 n), rfl⟩
set_option maxHeartbeats 1000000 in
theorem implReckon (w : World) (op x y : Int) (hx : I32 x) (hy : I32 y) : Calls Try.prog 137 #[.int .i64 op, .int .i64 x, .int .i64 y] w fun e w' => e = .returned (.tuple #[.int .i64 (recN op x y), .bool (recB op y)]) ∧ w = w' := by
  have hm := mul_small hx hy
  have hd := tdiv_small (y := y) hx
  unfold I32 at hx hy
  by_cases h3 : op = 3
  · subst h3
    go_enter Try.func137, Try.ntmps137
    go_wp2_with (go_at_call 143; refine (implWrapOf _ _).mono ?_; rintro e w' ⟨rfl, rfl⟩)
    go_ret2
    exact ⟨rfl, rfl⟩
  by_cases h4 : op = 4
  · subst h4
    go_enter Try.func137, Try.ntmps137
    go_wp2_with (go_at_call 143; refine (implWrapOf _ _).mono ?_; rintro e w' ⟨rfl, rfl⟩)
    go_ret2
    exact ⟨rfl, rfl⟩
  by_cases h5 : op = 5
  · subst h5
    go_enter Try.func137, Try.ntmps137
    go_wp2_with (go_at_call 143; refine (implWrapOf _ _).mono ?_; rintro e w' ⟨rfl, rfl⟩)
    go_ret2
    exact ⟨rfl, rfl⟩
  by_cases h6 : op = 6
  · subst h6
    by_cases hy0 : y = 0
    · subst hy0
      clear hd hm
      go_enter Try.func137, Try.ntmps137
      go_wp2_with (go_at_call 143; refine (implWrapOf _ _).mono ?_; rintro e w' ⟨rfl, rfl⟩)
      go_ret2
      exact ⟨rfl, rfl⟩
    · have e1 : (y == 0) = false := by simpa using hy0
      have HR := Lib.hid (show recN 6 x y = wrapV (x.tdiv y) by unfold recN; simp [hy0])
      have HB := Lib.hid (show recB 6 y = true by unfold recB; simp [hy0])
      rw [HR.out, HB.out]
      go_enter Try.func137, Try.ntmps137
      go_wp2_with (go_at_call 143; refine (implWrapOf _ _).mono ?_; rintro e w' ⟨rfl, rfl⟩)
      go_ret2
      exact ⟨rfl, rfl⟩
  have e3 : (op == 3) = false := by simpa using h3
  have e4 : (op == 4) = false := by simpa using h4
  have e5 : (op == 5) = false := by simpa using h5
  have e6 : (op == 6) = false := by simpa using h6
  have HB := Lib.hid (show recB op y = true by unfold recB; simp [h6])
  rw [HB.out]
  by_cases h7 : op = 7
  · subst h7
    clear hm hd
    by_cases hl : x < y
    · have HR := Lib.hid (show recN 7 x y = 1 by unfold recN; simp [hl])
      rw [HR.out]
      go_enter Try.func137, Try.ntmps137
      go_wp2_with fail
      go_ret2
      exact ⟨rfl, rfl⟩
    · have HR := Lib.hid (show recN 7 x y = 0 by unfold recN; simp [hl])
      rw [HR.out]
      go_enter Try.func137, Try.ntmps137
      go_wp2_with fail
      go_ret2
      exact ⟨rfl, rfl⟩
  have e7 : (op == 7) = false := by simpa using h7
  clear hm hd
  by_cases hl : x = y
  · subst hl
    have HR := Lib.hid (show recN op x x = 1 by unfold recN; simp [h3, h4, h5, h6, h7])
    rw [HR.out]
    clear h3 h4 h5 h6 h7
    go_enter Try.func137, Try.ntmps137
    go_wp2_with fail
    go_ret2
    exact ⟨rfl, rfl⟩
  · have HR := Lib.hid (show recN op x y = 0 by unfold recN; simp [h3, h4, h5, h6, h7, hl])
    have hl' : (x == y) = false := by simpa using hl
    rw [HR.out]
    clear h3 h4 h5 h6 h7 hl
    go_enter Try.func137, Try.ntmps137
    go_wp2_with fail
    go_ret2
    exact ⟨rfl, rfl⟩
set_option maxHeartbeats 1000000 in
theorem specL2Reckon (w : World) (op x y : Int) (hx : I32 x) (hy : I32 y) : Calls Try.prog 133 #[.int .i64 op, .int .i64 x, .int .i64 y] w fun e w' => e = .returned (.tuple #[.int .i64 (recN op x y), .bool (recB op y)]) ∧ w = w' := by
  have hm := mul_small hx hy
  have hd := tdiv_small (y := y) hx
  unfold I32 at hx hy
  by_cases h3 : op = 3
  · subst h3
    go_enter Try.func133, Try.ntmps133
    go_wp2_with (go_at_call 142; refine (specL2Wrap _ _).mono ?_; rintro e w' ⟨rfl, rfl⟩)
    go_ret2
    exact ⟨rfl, rfl⟩
  by_cases h4 : op = 4
  · subst h4
    go_enter Try.func133, Try.ntmps133
    go_wp2_with (go_at_call 142; refine (specL2Wrap _ _).mono ?_; rintro e w' ⟨rfl, rfl⟩)
    go_ret2
    exact ⟨rfl, rfl⟩
  by_cases h5 : op = 5
  · subst h5
    go_enter Try.func133, Try.ntmps133
    go_wp2_with (go_at_call 142; refine (specL2Wrap _ _).mono ?_; rintro e w' ⟨rfl, rfl⟩)
    go_ret2
    exact ⟨rfl, rfl⟩
  by_cases h6 : op = 6
  · subst h6
    by_cases hy0 : y = 0
    · subst hy0
      clear hd hm
      go_enter Try.func133, Try.ntmps133
      go_wp2_with (go_at_call 142; refine (specL2Wrap _ _).mono ?_; rintro e w' ⟨rfl, rfl⟩)
      go_ret2
      exact ⟨rfl, rfl⟩
    · have e1 : (y == 0) = false := by simpa using hy0
      have HR := Lib.hid (show recN 6 x y = wrapV (x.tdiv y) by unfold recN; simp [hy0])
      have HB := Lib.hid (show recB 6 y = true by unfold recB; simp [hy0])
      rw [HR.out, HB.out]
      go_enter Try.func133, Try.ntmps133
      go_wp2_with (go_at_call 142; refine (specL2Wrap _ _).mono ?_; rintro e w' ⟨rfl, rfl⟩)
      go_ret2
      exact ⟨rfl, rfl⟩
  have e3 : (op == 3) = false := by simpa using h3
  have e4 : (op == 4) = false := by simpa using h4
  have e5 : (op == 5) = false := by simpa using h5
  have e6 : (op == 6) = false := by simpa using h6
  have HB := Lib.hid (show recB op y = true by unfold recB; simp [h6])
  rw [HB.out]
  by_cases h7 : op = 7
  · subst h7
    clear hm hd
    by_cases hl : x < y
    · have HR := Lib.hid (show recN 7 x y = 1 by unfold recN; simp [hl])
      rw [HR.out]
      go_enter Try.func133, Try.ntmps133
      go_wp2_with fail
      go_ret2
      exact ⟨rfl, rfl⟩
    · have HR := Lib.hid (show recN 7 x y = 0 by unfold recN; simp [hl])
      rw [HR.out]
      go_enter Try.func133, Try.ntmps133
      go_wp2_with fail
      go_ret2
      exact ⟨rfl, rfl⟩
  have e7 : (op == 7) = false := by simpa using h7
  clear hm hd
  by_cases hl : x = y
  · subst hl
    have HR := Lib.hid (show recN op x x = 1 by unfold recN; simp [h3, h4, h5, h6, h7])
    rw [HR.out]
    clear h3 h4 h5 h6 h7
    go_enter Try.func133, Try.ntmps133
    go_wp2_with fail
    go_ret2
    exact ⟨rfl, rfl⟩
  · have HR := Lib.hid (show recN op x y = 0 by unfold recN; simp [h3, h4, h5, h6, h7, hl])
    have hl' : (x == y) = false := by simpa using hl
    rw [HR.out]
    clear h3 h4 h5 h6 h7 hl
    go_enter Try.func133, Try.ntmps133
    go_wp2_with fail
    go_ret2
    exact ⟨rfl, rfl⟩
end Go.Proofs.Ytgoinmdnpaknpaa
