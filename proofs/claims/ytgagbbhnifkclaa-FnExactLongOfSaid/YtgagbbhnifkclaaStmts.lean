/- Whether a statement is as said: walks of both sides. -/
import Derived.Test.YtgagbbhnifkclaaPgA
set_option linter.unusedVariables false
set_option linter.unusedSimpArgs false
set_option maxRecDepth 100000
namespace Go.Proofs.Ytgagbbhnifkclaa
open Go.RowKit

/-- As said; one that puts off the function -1 is, too. (np params, nx tokens, nt and ne in the blocks) -/
def stmtI (fv : Int) (ps : List Int) (k n : Int) (ex : List Tok) (np nx nt ne : Nat) : Bool :=
  if inB k 1 9 = false ∨ (¬ k = 7 ∧ 0 < ne) ∨ (¬ k = 7 ∧ ¬ k = 8 ∧ 0 < nt) then false
  else if k = 3 then (nx == 0) && (n == -1 || (inB n 0 ((np : Int) - 1) && ps.getD n.toNat 0 == 0))
  else if k = 6 then (nx == 0) && n == 0
  else if k = 1 then inB n 0 (fv - 1) && decide (0 < highF ex fv ps)
  else n == 0 && decide (0 < highF ex fv ps)
set_option maxHeartbeats 4000000 in
theorem implIsStmt (w : World) (lo hi lo' hi' : Nat) (u0 fv : Int) (v2 v3 : Value) (k n : Int) (A2 : Option Addr) (n2 c2 : Nat) (ex : List Tok) (A3 A4 : Option Addr) (n3 c3 n4 c4 : Nat) (A n' c' : _) (ps : List Int)
    (h2 : Sl TokR w lo hi A2 n2 c2 ex) (h : Sl intR w lo' hi' A n' c' ps) (hh : hi ≤ w.heap.size) (hh' : hi' ≤ w.heap.size) (hv : 0 ≤ fv ∧ fv ≤ 100) (hp : goodNeeds ps) (hn' : n' ≤ 100) (m3 : n3 ≤ 1048576) (m4 : n4 ≤ 1048576) :
    Calls Try.prog 174 #[.agg #[.int .i64 u0, .int .i64 fv, v2, v3], .agg #[.int .i64 k, .int .i64 n, .slice A2 n2 c2, .slice A3 n3 c3, .slice A4 n4 c4], .slice A n' c'] w (RetB (stmtI fv ps k n ex n' n2 n3 n4) w) := by
  have e1 := h.lenEq
  have e2 := h2.lenEq
  have b2 := h2.lenLe
  have HP := Lib.hid hp
  obtain ⟨v1, v2'⟩ := hv
  clear hp
  by_cases hN : 0 ≤ n ∧ n < (n' : Int)
  · obtain ⟨g1, g2⟩ := hN
    obtain ⟨j, rfl⟩ := Int.eq_ofNat_of_zero_le g1
    have hj : j < n' := by omega
    obtain ⟨b, o, rfl, _, _, hc1, _⟩ := h.int_at hj
    have hbw : b < w.heap.size := World.block_lt_of_cell? w _ hc1
    have hI : inB (j : Int) 0 ((n' : Int) - 1) = true := inB_true (by omega)
    have hG : ps[j]'(by omega) = ps.getD j 0 := by simp [List.getD, e1, hj]
    rw [hG] at hc1
    have hm : ((j : Int) == -1) = false := by first | (simp; done) | (simp; omega)
    clear hG
    clear e1 e2
    go_enter Try.func174, Try.ntmps174
    go_wp2_with (first
      | (go_at_call 105; ((with_reducible refine (implWithin _ _ _ _).mono ?_); rintro e w2 ⟨rfl, rfl⟩))
      | (go_at_call 91; ((with_reducible refine (implHighOf _ lo hi lo' hi' _ _ _ _ _ _ ex _ ps (h2.below (show Below w.heap.size w _ by (repeat (first | with_reducible exact Below.refl _ _ | with_reducible assumption | with_reducible refine below_alloc ?_ _ | ((with_reducible refine Below.setCell ?_ ?_ _); rotate_left; (· first | exact Nat.le_refl _ | (simp; done) | (simp; omega))) | with_reducible refine below_drewN ?_ _ | with_reducible refine Below.drew ?_ | with_reducible refine below_then ?_ (by with_reducible assumption)))) hh) (h.below (show Below w.heap.size w _ by (repeat (first | with_reducible exact Below.refl _ _ | with_reducible assumption | with_reducible refine below_alloc ?_ _ | ((with_reducible refine Below.setCell ?_ ?_ _); rotate_left; (· first | exact Nat.le_refl _ | (simp; done) | (simp; omega))) | with_reducible refine below_drewN ?_ _ | with_reducible refine Below.drew ?_ | with_reducible refine below_then ?_ (by with_reducible assumption)))) hh') (by first | omega | (simp; omega)) (by first | omega | (simp; omega)) (by omega) HP.out hn').mono ?_); rintro e w2 ⟨rfl, hb⟩)))
    all_goals
      go_ret
      exact RetB.mk (by simp_all [stmtI]) (by (repeat (first | with_reducible exact Below.refl _ _ | with_reducible assumption | with_reducible refine below_alloc ?_ _ | ((with_reducible refine Below.setCell ?_ ?_ _); rotate_left; (· first | exact Nat.le_refl _ | (simp; done) | (simp; omega))) | with_reducible refine below_drewN ?_ _ | with_reducible refine Below.drew ?_ | with_reducible refine below_then ?_ (by with_reducible assumption))))
  · have hI : inB n 0 ((n' : Int) - 1) = false := inB_false (by omega)
    clear e1 e2 hN
    go_enter Try.func174, Try.ntmps174
    go_wp2_with (first
      | (go_at_call 105; ((with_reducible refine (implWithin _ _ _ _).mono ?_); rintro e w2 ⟨rfl, rfl⟩))
      | (go_at_call 91; ((with_reducible refine (implHighOf _ lo hi lo' hi' _ _ _ _ _ _ ex _ ps (h2.below (show Below w.heap.size w _ by (repeat (first | with_reducible exact Below.refl _ _ | with_reducible assumption | with_reducible refine below_alloc ?_ _ | ((with_reducible refine Below.setCell ?_ ?_ _); rotate_left; (· first | exact Nat.le_refl _ | (simp; done) | (simp; omega))) | with_reducible refine below_drewN ?_ _ | with_reducible refine Below.drew ?_ | with_reducible refine below_then ?_ (by with_reducible assumption)))) hh) (h.below (show Below w.heap.size w _ by (repeat (first | with_reducible exact Below.refl _ _ | with_reducible assumption | with_reducible refine below_alloc ?_ _ | ((with_reducible refine Below.setCell ?_ ?_ _); rotate_left; (· first | exact Nat.le_refl _ | (simp; done) | (simp; omega))) | with_reducible refine below_drewN ?_ _ | with_reducible refine Below.drew ?_ | with_reducible refine below_then ?_ (by with_reducible assumption)))) hh') (by first | omega | (simp; omega)) (by first | omega | (simp; omega)) (by omega) HP.out hn').mono ?_); rintro e w2 ⟨rfl, hb⟩)))
    all_goals
      go_ret
      exact RetB.mk (by simp_all [stmtI]) (by (repeat (first | with_reducible exact Below.refl _ _ | with_reducible assumption | with_reducible refine below_alloc ?_ _ | ((with_reducible refine Below.setCell ?_ ?_ _); rotate_left; (· first | exact Nat.le_refl _ | (simp; done) | (simp; omega))) | with_reducible refine below_drewN ?_ _ | with_reducible refine Below.drew ?_ | with_reducible refine below_then ?_ (by with_reducible assumption))))

def stmtS (fv : Int) (ps : List Int) (k n : Int) (ex : List Tok) (np nx nt ne : Nat) : Bool :=
  if k = 1 then goodE ex fv ps && inB n 0 (fv - 1) && ((nt : Int) + ne == 0)
  else if k = 2 ∨ k = 4 ∨ k = 5 ∨ k = 9 then goodE ex fv ps && (n == 0 && ((nt : Int) + ne == 0))
  else if k = 3 then (nx == 0) && inB n 0 ((np : Int) - 1) && ((nt : Int) + ne == 0)
  else if k = 6 then (nx == 0) && (n == 0 && ((nt : Int) + ne == 0))
  else if k = 7 then goodE ex fv ps && n == 0
  else if k = 8 then goodE ex fv ps && n == 0 && ((ne : Int) == 0)
  else false
set_option maxHeartbeats 8000000 in
theorem specL3Stmt (w : World) (lo hi lo' hi' : Nat) (u0 fv : Int) (v2 v3 : Value) (k n : Int) (A2 : Option Addr) (n2 c2 : Nat) (ex : List Tok) (A3 A4 : Option Addr) (n3 c3 n4 c4 : Nat) (A n' c' : _) (ps : List Int)
    (h2 : Sl TokR w lo hi A2 n2 c2 ex) (h : Sl intR w lo' hi' A n' c' ps) (hh : hi ≤ w.heap.size) (hh' : hi' ≤ w.heap.size) (hv : 0 ≤ fv ∧ fv ≤ 100) (hn' : n' ≤ 100) (m2 : n2 ≤ 1048576) (m3 : n3 ≤ 1048576) (m4 : n4 ≤ 1048576) :
    Calls Try.prog 211 #[.agg #[.int .i64 u0, .int .i64 fv, v2, v3], .agg #[.int .i64 k, .int .i64 n, .slice A2 n2 c2, .slice A3 n3 c3, .slice A4 n4 c4], .slice A n' c'] w (RetB (stmtS fv ps k n ex n' n2 n3 n4) w) := by
  obtain ⟨v1, v2'⟩ := hv
  obtain ⟨gE, hgE0⟩ : ∃ g, g = goodE ex fv ps := ⟨_, rfl⟩
  have hgE := Lib.hid hgE0
  clear hgE0
  go_enter Try.func211, Try.ntmps211
  go_wp2_with fail
  refine (specGoodExpr _ lo hi lo' hi' _ _ _ _ _ _ ex fv ps (h2.below (show Below w.heap.size w _ by (repeat (first | with_reducible exact Below.refl _ _ | with_reducible assumption | with_reducible refine below_alloc ?_ _ | ((with_reducible refine Below.setCell ?_ ?_ _); rotate_left; (· first | exact Nat.le_refl _ | (simp; done) | (simp; omega))) | with_reducible refine below_drewN ?_ _ | with_reducible refine Below.drew ?_ | with_reducible refine below_then ?_ (by with_reducible assumption)))) hh) (h.below (show Below w.heap.size w _ by (repeat (first | with_reducible exact Below.refl _ _ | with_reducible assumption | with_reducible refine below_alloc ?_ _ | ((with_reducible refine Below.setCell ?_ ?_ _); rotate_left; (· first | exact Nat.le_refl _ | (simp; done) | (simp; omega))) | with_reducible refine below_drewN ?_ _ | with_reducible refine Below.drew ?_ | with_reducible refine below_then ?_ (by with_reducible assumption)))) hh') (by first | omega | (simp; omega)) (by first | omega | (simp; omega)) m2).mono ?_
  rintro e w2 ⟨rfl, hb2⟩
  rw [← hgE.out]
  obtain ⟨hcE, hfE⟩ := bcell hb2
  have hz2 := hb2.size
  have t1 : w2.cell? ⟨w.heap.size, 1, none⟩ = some (.int .i64 fv) := by simp [hcE, go_sem]
  have s0 : w2.cell? ⟨w.heap.size + 1, 0, none⟩ = some (.int .i64 k) := by simp [hcE, go_sem]
  have s1 : w2.cell? ⟨w.heap.size + 1, 1, none⟩ = some (.int .i64 n) := by simp [hcE, go_sem]
  have s2 : w2.cell? ⟨w.heap.size + 1, 2, none⟩ = some (.slice A2 n2 c2) := by simp [hcE, go_sem]
  have s3 : w2.cell? ⟨w.heap.size + 1, 3, none⟩ = some (.slice A3 n3 c3) := by simp [hcE, go_sem]
  have s4 : w2.cell? ⟨w.heap.size + 1, 4, none⟩ = some (.slice A4 n4 c4) := by simp [hcE, go_sem]
  clear hcE hfE
  have hb : Below w.heap.size w w2 := by (repeat (first | with_reducible exact Below.refl _ _ | with_reducible assumption | with_reducible refine below_alloc ?_ _ | ((with_reducible refine Below.setCell ?_ ?_ _); rotate_left; (· first | exact Nat.le_refl _ | (simp; done) | (simp; omega))) | with_reducible refine below_drewN ?_ _ | with_reducible refine Below.drew ?_ | with_reducible refine below_then ?_ (by with_reducible assumption)))
  have hq : stmtS fv ps k n ex n' n2 n3 n4 = stmtS fv ps k n ex n' n2 n3 n4 := rfl
  conv at hq => rhs; unfold stmtS; simp only [← hgE.out]
  have hQ := Lib.hid hq
  clear hq hgE hb2 hz2
  go_wp2_with (first
      | (go_at_call 100; ((with_reducible refine (specL1In _ _ _ _).mono ?_); rintro e w2 ⟨rfl, rfl⟩)))
  all_goals
    go_ret
    exact RetB.mk (by rw [hQ.out]; clear hQ; simp_all) hb
end Go.Proofs.Ytgagbbhnifkclaa
