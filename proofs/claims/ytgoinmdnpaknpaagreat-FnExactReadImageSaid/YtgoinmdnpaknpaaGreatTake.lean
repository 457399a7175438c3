/- How many numbers an instruction takes and puts: walks of both sides. -/
import Derived.Test.YtgoinmdnpaknpaaGreatCheckP
import Derived.Deep.QuietTactic
import Derived.BigQuiet
set_option linter.unusedVariables false
set_option linter.unusedSimpArgs false
set_option maxRecDepth 100000
namespace Go.Proofs.YtgoinmdnpaknpaaGreat
open Go.RowKit
section
variable {x : Image} {o n : Int}
theorem takes_a (h : o = 1 ∨ o = 2 ∨ o = 5 ∨ o = 6) : takesF x (o, n) = 0 ∧ putsF (o, n) = 1 := by
  unfold takesF putsF
  simp only
  exact ⟨by rw [if_neg (by omega), if_neg (by omega), if_neg (by omega)], by rw [if_pos (by omega)]⟩
theorem takes_b (h : o = 3 ∨ o = 8 ∨ o = 9 ∨ o = 11 ∨ o = 13 ∨ o = 15) : takesF x (o, n) = 1 ∧ putsF (o, n) = 0 := by
  unfold takesF putsF
  simp only
  exact ⟨by rw [if_pos (by omega)], by rw [if_neg (by omega)]⟩
theorem takes_c : takesF x (4, n) = 2 ∧ putsF (4, n) = 1 := by
  unfold takesF putsF
  simp
theorem takes_d : takesF x (7, n) = parF x n ∧ putsF (7, n) = 1 := by
  unfold takesF putsF
  simp
theorem takes_e (h1 : ¬ (o = 1 ∨ o = 2 ∨ o = 5 ∨ o = 6)) (h2 : ¬ (o = 3 ∨ o = 8 ∨ o = 9 ∨ o = 11 ∨ o = 13 ∨ o = 15)) (h3 : ¬ o = 4) (h4 : ¬ o = 7) : takesF x (o, n) = 0 ∧ putsF (o, n) = 0 := by
  unfold takesF putsF
  simp only
  exact ⟨by rw [if_neg (by omega), if_neg (by omega), if_neg (by omega)], by rw [if_neg (by omega)]⟩
end
theorem parF_at {x : Image} {k : Nat} {c : Code} (hk : k < x.length) (h : x[k] = c) : parF x (k : Int) = c.1 := by
  unfold parF; rw [Int.toNat_natCast]; simp [List.getD, hk, h]
set_option maxHeartbeats 2000000 in
theorem implTakesPuts (w : World) (lo hi : Nat) (A : Option Addr) (n c : Nat) (x : List Code) (o k : Int) (h : Sl CodeR w lo hi A n c x) (hh : hi ≤ w.heap.size) (h7 : o = 7 → 0 ≤ k ∧ k < n) :
    Calls Tryz.prog 101 #[.agg #[.slice A n c], .agg #[.int .i64 o, .int .i64 k]] w (RetV (.tuple #[.int .i64 (takesF x (o, k)), .int .i64 (putsF (o, k))]) w) := by
  by_cases h1 : o = 1 ∨ o = 2 ∨ o = 5 ∨ o = 6
  · have hq := takes_a (x := x) (n := k) h1
    have q1 := Lib.hid hq.1
    have q2 := Lib.hid hq.2
    clear hq h7
    rcases h1 with rfl | rfl | rfl | rfl
    all_goals
      go_enter Tryz.func101, Tryz.ntmps101
      go_wp2_with fail
      go_ret2
      exact ⟨by rw [q1.out, q2.out]; rfl, by exact belA⟩
  by_cases h2 : o = 3 ∨ o = 8 ∨ o = 9 ∨ o = 11 ∨ o = 13 ∨ o = 15
  · have hq := takes_b (x := x) (n := k) h2
    have q1 := Lib.hid hq.1
    have q2 := Lib.hid hq.2
    clear hq h7 h1
    rcases h2 with rfl | rfl | rfl | rfl | rfl | rfl
    all_goals
      go_enter Tryz.func101, Tryz.ntmps101
      go_wp2_with fail
      go_ret2
      exact ⟨by rw [q1.out, q2.out]; rfl, by exact belA⟩
  by_cases h3 : o = 4
  · subst h3
    have hq := takes_c (x := x) (n := k)
    have q1 := Lib.hid hq.1
    have q2 := Lib.hid hq.2
    clear hq h7 h1 h2
    go_enter Tryz.func101, Tryz.ntmps101
    go_wp2_with fail
    go_ret2
    exact ⟨by rw [q1.out, q2.out]; rfl, by exact belA⟩
  by_cases h4 : o = 7
  · subst h4
    have hq := takes_d (x := x) (n := k)
    obtain ⟨j, rfl⟩ := Int.eq_ofNat_of_zero_le (h7 rfl).1
    have hj : j < n := by have := (h7 rfl).2; omega
    obtain ⟨b, off, x0, x1, A2, n2, c2, s2, A3, n3, c3, s3, A4, n4, c4, s4, rfl, _, _, hl, i0, i1, _, _, _, d0, d1, d2, d3, d4⟩ := Code_at h hj
    have q1 := Lib.hid (hq.1.trans (parF_at (by have := h.lenEq; omega) hl))
    have q2 := Lib.hid hq.2
    have hlt := World.block_lt_of_cell? w _ d0
    clear hq h7 h1 h2 h3 hl
    go_enter Tryz.func101, Tryz.ntmps101
    go_wp2_with fail
    go_ret2
    exact ⟨by rw [q1.out, q2.out]; rfl, by exact belA⟩
  · have hq := takes_e (x := x) (n := k) h1 h2 h3 h4
    have q1 := Lib.hid hq.1
    have q2 := Lib.hid hq.2
    have e1 : (o == 1) = false := by simp; omega
    have e2 : (o == 2) = false := by simp; omega
    have e3 : (o == 3) = false := by simp; omega
    have e4 : (o == 4) = false := by simp; omega
    have e5 : (o == 5) = false := by simp; omega
    have e6 : (o == 6) = false := by simp; omega
    have e7 : (o == 7) = false := by simp; omega
    have e8 : (o == 8) = false := by simp; omega
    have e9 : (o == 9) = false := by simp; omega
    have e11 : (o == 11) = false := by simp; omega
    have e13 : (o == 13) = false := by simp; omega
    have e15 : (o == 15) = false := by simp; omega
    clear hq h7 h1 h2 h3 h4
    go_enter Tryz.func101, Tryz.ntmps101
    go_wp2_with fail
    go_ret2
    exact ⟨by rw [q1.out, q2.out]; rfl, by exact belA⟩
set_option maxHeartbeats 2000000 in
theorem specL5Takes (w : World) (lo hi : Nat) (A : Option Addr) (n c : Nat) (x : List Code) (o k : Int) (h : Sl CodeR w lo hi A n c x) (hh : hi ≤ w.heap.size) (h7 : o = 7 → 0 ≤ k ∧ k < n) :
    Calls Tryz.prog 83 #[.agg #[.slice A n c], .agg #[.int .i64 o, .int .i64 k]] w (RetV (.tuple #[.int .i64 (takesF x (o, k)), .int .i64 (putsF (o, k))]) w) := by
  by_cases h1 : o = 1 ∨ o = 2 ∨ o = 5 ∨ o = 6
  · have hq := takes_a (x := x) (n := k) h1
    have q1 := Lib.hid hq.1
    have q2 := Lib.hid hq.2
    clear hq h7
    rcases h1 with rfl | rfl | rfl | rfl
    all_goals
      go_enter Tryz.func83, Tryz.ntmps83
      go_wp2_with fail
      go_ret2
      exact ⟨by rw [q1.out, q2.out]; rfl, by exact belA⟩
  by_cases h2 : o = 3 ∨ o = 8 ∨ o = 9 ∨ o = 11 ∨ o = 13 ∨ o = 15
  · have hq := takes_b (x := x) (n := k) h2
    have q1 := Lib.hid hq.1
    have q2 := Lib.hid hq.2
    clear hq h7 h1
    rcases h2 with rfl | rfl | rfl | rfl | rfl | rfl
    all_goals
      go_enter Tryz.func83, Tryz.ntmps83
      go_wp2_with fail
      go_ret2
      exact ⟨by rw [q1.out, q2.out]; rfl, by exact belA⟩
  by_cases h3 : o = 4
  · subst h3
    have hq := takes_c (x := x) (n := k)
    have q1 := Lib.hid hq.1
    have q2 := Lib.hid hq.2
    clear hq h7 h1 h2
    go_enter Tryz.func83, Tryz.ntmps83
    go_wp2_with fail
    go_ret2
    exact ⟨by rw [q1.out, q2.out]; rfl, by exact belA⟩
  by_cases h4 : o = 7
  · subst h4
    have hq := takes_d (x := x) (n := k)
    obtain ⟨j, rfl⟩ := Int.eq_ofNat_of_zero_le (h7 rfl).1
    have hj : j < n := by have := (h7 rfl).2; omega
    obtain ⟨b, off, x0, x1, A2, n2, c2, s2, A3, n3, c3, s3, A4, n4, c4, s4, rfl, _, _, hl, i0, i1, _, _, _, d0, d1, d2, d3, d4⟩ := Code_at h hj
    have q1 := Lib.hid (hq.1.trans (parF_at (by have := h.lenEq; omega) hl))
    have q2 := Lib.hid hq.2
    have hlt := World.block_lt_of_cell? w _ d0
    clear hq h7 h1 h2 h3 hl
    go_enter Tryz.func83, Tryz.ntmps83
    go_wp2_with fail
    go_ret2
    exact ⟨by rw [q1.out, q2.out]; rfl, by exact belA⟩
  · have hq := takes_e (x := x) (n := k) h1 h2 h3 h4
    have q1 := Lib.hid hq.1
    have q2 := Lib.hid hq.2
    have e1 : (o == 1) = false := by simp; omega
    have e2 : (o == 2) = false := by simp; omega
    have e3 : (o == 3) = false := by simp; omega
    have e4 : (o == 4) = false := by simp; omega
    have e5 : (o == 5) = false := by simp; omega
    have e6 : (o == 6) = false := by simp; omega
    have e7 : (o == 7) = false := by simp; omega
    have e8 : (o == 8) = false := by simp; omega
    have e9 : (o == 9) = false := by simp; omega
    have e11 : (o == 11) = false := by simp; omega
    have e13 : (o == 13) = false := by simp; omega
    have e15 : (o == 15) = false := by simp; omega
    clear hq h7 h1 h2 h3 h4
    go_enter Tryz.func83, Tryz.ntmps83
    go_wp2_with fail
    go_ret2
    exact ⟨by rw [q1.out, q2.out]; rfl, by exact belA⟩
end Go.Proofs.YtgoinmdnpaknpaaGreat
