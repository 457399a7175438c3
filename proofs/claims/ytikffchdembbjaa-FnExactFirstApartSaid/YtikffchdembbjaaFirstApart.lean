/- Where two outcomes part first: both sides. Walks. -/
import Derived.Test.YtikffchdembbjaaTyOutcome
import Derived.Deep.QuietTactic
import Derived.BigQuiet
set_option linter.unusedVariables false
set_option linter.unusedSimpArgs false
namespace Go.Proofs.Ytikffchdembbjaa
open Go.RowKit

/-- How far two lists go together. -/
def cp : List Int → List Int → Nat
  | x :: xs, y :: ys => if x = y then cp xs ys + 1 else 0
  | _, _ => 0
theorem cp_eq : ∀ {l l' : List Int} {k : Nat}, l.take k = l'.take k → k ≤ l.length → k ≤ l'.length → (∀ (h1 : k < l.length) (h2 : k < l'.length), ¬ l[k] = l'[k]) → cp l l' = k
  | [], l', k, _, h1, _, _ => by
    have : k = 0 := by simpa using h1
    subst this
    unfold cp; rfl
  | x :: xs, [], k, _, _, h2, _ => by
    have : k = 0 := by simpa using h2
    subst this
    unfold cp; rfl
  | x :: xs, y :: ys, 0, _, _, _, h => by
    unfold cp
    exact if_neg (h (by simp) (by simp))
  | x :: xs, y :: ys, k + 1, ht, h1, h2, h => by
    unfold cp
    simp only [List.take_succ_cons, List.cons.injEq] at ht
    rw [if_pos ht.1, cp_eq (k := k) ht.2 (by simpa using h1) (by simpa using h2) (fun a b => h (by simpa using a) (by simpa using b))]
/-- The result's number. -/
noncomputable def faN (l l' : List Int) : Int := if eqB l l' = true then 0 else (cp l l' : Int)
theorem fa_same {l l' : List Int} (h : l = l') : faN l l' = 0 := if_pos (eqB_true h)
theorem fa_apart {l l' : List Int} {k : Nat} (h : ¬ l = l') (hk : cp l l' = k) : faN l l' = (k : Int) := by
  unfold faN; rw [if_neg (by rw [eqB_false h]; simp), hk]
def RetFa (l l' : List Int) (w : World) (e : Ending) (w' : World) : Prop := ∃ r b, e = .returned (.tuple #[.int .i64 r, .bool b]) ∧ r = faN l l' ∧ b = !eqB l l' ∧ Below w.heap.size w w'

set_option maxHeartbeats 1000000 in
theorem implFirstApart (w : World) (lo hi lo' hi' : Nat) (x0 x1 : Int) (A : Option Addr) (n c : Nat) (l : List Int) (x3 x0' x1' : Int) (A' : Option Addr) (n' c' : Nat) (l' : List Int) (x3' : Int)
    (h : Sl intR w lo hi A n c l) (h' : Sl intR w lo' hi' A' n' c' l') (hh : hi ≤ w.heap.size) (hh' : hi' ≤ w.heap.size) :
    Calls Try.prog 19 #[.agg #[.int .i64 x0, .int .i64 x1, .slice A n c, .int .i64 x3], .agg #[.int .i64 x0', .int .i64 x1', .slice A' n' c', .int .i64 x3']] w (RetFa l l' w) := by
  have e1 := h.lenEq
  have e2 := h'.lenEq
  have b1 := h.lenLe
  have b2 := h'.lenLe
  go_enter Try.func19, Try.ntmps19
  go_wp2_with fail
  go_loopw [6] (fun i wr => ∃ k : Nat, k ≤ n ∧ k ≤ n' ∧ i = .int .i64 k ∧ l.take k = l'.take k ∧ wr.cell? ⟨w.heap.size, 2, none⟩ = some (.slice A n c) ∧ wr.cell? ⟨w.heap.size + 1, 2, none⟩ = some (.slice A' n' c') ∧ Below w.heap.size w wr) (fun i _ => n - (intOf i).toNat)
  case atStart => exact ⟨0, Nat.zero_le _, Nat.zero_le _, rfl, rfl, by simp [go_sem], by simp [go_sem], by (repeat (first | with_reducible exact Below.refl _ _ | with_reducible assumption | with_reducible refine below_alloc ?_ _ | ((with_reducible refine Below.setCell ?_ ?_ _); rotate_left; (· first | exact Nat.le_refl _ | (simp; done) | (simp; omega))) | with_reducible refine below_drewN ?_ _ | with_reducible refine Below.drew ?_ | with_reducible refine below_then ?_ (by with_reducible assumption)))⟩
  case round =>
    obtain ⟨k, hk, hk', rfl, ht0, ca, cb, hb⟩ := hrel
    have ht := Lib.hid ht0
    clear ht0
    by_cases hlt : k < n ∧ k < n'
    · obtain ⟨l1, l2⟩ := hlt
      obtain ⟨b, o, rfl, q1, q2, hc1, _⟩ := (h.below hb hh).int_at l1
      obtain ⟨b', o', rfl, q3, q4, hc2, _⟩ := (h'.below hb hh').int_at l2
      have hmin : decide ((k : Int) < if n' < n then (n' : Int) else (n : Int)) = true := by simp; split <;> omega
      by_cases he : l[k]'(by omega) = l'[k]'(by omega)
      · have he1 : (l[k]'(by omega) == l'[k]'(by omega)) = true := by simp [he]
        have hs := Lib.hid (take_eq_snoc ht.out (by omega) (by omega) he)
        clear he
        go_wp2_with fail
        go_quiet (fail)
        go_wp2_with fail
        all_goals
          go_roundw
          case rel => exact ⟨k + 1, by omega, by omega, by go_num, hs.out, ca, cb, by (repeat (first | with_reducible exact Below.refl _ _ | with_reducible assumption | with_reducible refine below_alloc ?_ _ | ((with_reducible refine Below.setCell ?_ ?_ _); rotate_left; (· first | exact Nat.le_refl _ | (simp; done) | (simp; omega))) | with_reducible refine below_drewN ?_ _ | with_reducible refine Below.drew ?_ | with_reducible refine below_then ?_ (by with_reducible assumption)))⟩
          case measure => simp [intOf]; omega
      · have hcp := Lib.hid (cp_eq (k := k) ht.out (by omega) (by omega) (fun _ _ => he))
        have hne := Lib.hid (eqB_false (ne_of_at (by omega) (by omega) he))
        have hnl := Lib.hid (ne_of_at (l := l) (l' := l') (by omega) (by omega) he)
        have he1 : (l[k]'(by omega) == l'[k]'(by omega)) = false := by simp [he]
        have h1 : ((k : Int) == (n : Int)) = false := by simp; omega
        clear he
        go_wp2_with fail
        go_quiet (fail)
        go_wp2_with fail
        all_goals (go_ret2; exact ⟨_, _, rfl, (fa_apart hnl.out hcp.out).symm, by rw [hne.out]; rfl, by (repeat (first | with_reducible exact Below.refl _ _ | with_reducible assumption | with_reducible refine below_alloc ?_ _ | ((with_reducible refine Below.setCell ?_ ?_ _); rotate_left; (· first | exact Nat.le_refl _ | (simp; done) | (simp; omega))) | with_reducible refine below_drewN ?_ _ | with_reducible refine Below.drew ?_ | with_reducible refine below_then ?_ (by with_reducible assumption)))⟩)
    · have hmin : decide ((k : Int) < if n' < n then (n' : Int) else (n : Int)) = false := by simp; split <;> omega
      by_cases hq : k = n ∧ k = n'
      · have hl := Lib.hid (eq_of_takes ht.out (by omega) (by omega))
        have h1 : ((k : Int) == (n : Int)) = true := by simp; omega
        have h2 : ((k : Int) == (n' : Int)) = true := by simp; omega
        clear hq
        go_wp2_with fail
        go_quiet (fail)
        go_wp2_with fail
        all_goals (go_ret2; exact ⟨_, _, rfl, (fa_same hl.out).symm, by rw [eqB_true hl.out]; rfl, by (repeat (first | with_reducible exact Below.refl _ _ | with_reducible assumption | with_reducible refine below_alloc ?_ _ | ((with_reducible refine Below.setCell ?_ ?_ _); rotate_left; (· first | exact Nat.le_refl _ | (simp; done) | (simp; omega))) | with_reducible refine below_drewN ?_ _ | with_reducible refine Below.drew ?_ | with_reducible refine below_then ?_ (by with_reducible assumption)))⟩)
      · have hnl := Lib.hid (show ¬ l = l' by rintro rfl; omega)
        have hcp := Lib.hid (cp_eq (k := k) ht.out (by omega) (by omega) (fun _ _ => by omega))
        by_cases h0 : k = n
        · have h1 : ((k : Int) == (n : Int)) = true := by simp; omega
          have h2 : ((k : Int) == (n' : Int)) = false := by simp; omega
          clear h0 hq
          go_wp2_with fail
          go_quiet (fail)
          go_wp2_with fail
          all_goals (go_ret2; exact ⟨_, _, rfl, (fa_apart hnl.out hcp.out).symm, by rw [eqB_false hnl.out]; rfl, by (repeat (first | with_reducible exact Below.refl _ _ | with_reducible assumption | with_reducible refine below_alloc ?_ _ | ((with_reducible refine Below.setCell ?_ ?_ _); rotate_left; (· first | exact Nat.le_refl _ | (simp; done) | (simp; omega))) | with_reducible refine below_drewN ?_ _ | with_reducible refine Below.drew ?_ | with_reducible refine below_then ?_ (by with_reducible assumption)))⟩)
        · have h1 : ((k : Int) == (n : Int)) = false := by simp; omega
          have h3 : k < n := by omega
          obtain rfl : k = n' := by omega
          clear hq h0 hlt
          go_wp2_with fail
          go_quiet (fail)
          go_wp2_with fail
          all_goals (go_ret2; exact ⟨_, _, rfl, (fa_apart hnl.out hcp.out).symm, by rw [eqB_false hnl.out]; rfl, by (repeat (first | with_reducible exact Below.refl _ _ | with_reducible assumption | with_reducible refine below_alloc ?_ _ | ((with_reducible refine Below.setCell ?_ ?_ _); rotate_left; (· first | exact Nat.le_refl _ | (simp; done) | (simp; omega))) | with_reducible refine below_drewN ?_ _ | with_reducible refine Below.drew ?_ | with_reducible refine below_then ?_ (by with_reducible assumption)))⟩)
set_option maxHeartbeats 1000000 in
theorem specFirstApart (w : World) (lo hi lo' hi' : Nat) (x0 x1 : Int) (A : Option Addr) (n c : Nat) (l : List Int) (x3 x0' x1' : Int) (A' : Option Addr) (n' c' : Nat) (l' : List Int) (x3' : Int)
    (h : Sl intR w lo hi A n c l) (h' : Sl intR w lo' hi' A' n' c' l') (hh : hi ≤ w.heap.size) (hh' : hi' ≤ w.heap.size) :
    Calls Try.prog 17 #[.agg #[.int .i64 x0, .int .i64 x1, .slice A n c, .int .i64 x3], .agg #[.int .i64 x0', .int .i64 x1', .slice A' n' c', .int .i64 x3']] w (RetFa l l' w) := by
  have e1 := h.lenEq
  have e2 := h'.lenEq
  have b1 := h.lenLe
  have b2 := h'.lenLe
  go_enter Try.func17, Try.ntmps17
  go_wp2_with fail
  go_loopw [6] (fun i wr => ∃ k : Nat, k ≤ n ∧ k ≤ n' ∧ i = .int .i64 k ∧ l.take k = l'.take k ∧ wr.cell? ⟨w.heap.size, 2, none⟩ = some (.slice A n c) ∧ wr.cell? ⟨w.heap.size + 1, 2, none⟩ = some (.slice A' n' c') ∧ Below w.heap.size w wr) (fun i _ => n - (intOf i).toNat)
  case atStart => exact ⟨0, Nat.zero_le _, Nat.zero_le _, rfl, rfl, by simp [go_sem], by simp [go_sem], by (repeat (first | with_reducible exact Below.refl _ _ | with_reducible assumption | with_reducible refine below_alloc ?_ _ | ((with_reducible refine Below.setCell ?_ ?_ _); rotate_left; (· first | exact Nat.le_refl _ | (simp; done) | (simp; omega))) | with_reducible refine below_drewN ?_ _ | with_reducible refine Below.drew ?_ | with_reducible refine below_then ?_ (by with_reducible assumption)))⟩
  case round =>
    obtain ⟨k, hk, hk', rfl, ht0, ca, cb, hb⟩ := hrel
    have ht := Lib.hid ht0
    clear ht0
    by_cases l1 : k < n
    · by_cases l2 : k < n'
      · obtain ⟨b, o, rfl, q1, q2, hc1, _⟩ := (h.below hb hh).int_at l1
        obtain ⟨b', o', rfl, q3, q4, hc2, _⟩ := (h'.below hb hh').int_at l2
        have g1 : decide ((n : Int) ≤ (k : Int)) = false := by simp; omega
        have g2 : decide ((n' : Int) ≤ (k : Int)) = false := by simp; omega
        by_cases he : l[k]'(by omega) = l'[k]'(by omega)
        · have he1 : (l[k]'(by omega) != l'[k]'(by omega)) = false := by simp [he]
          have hs := Lib.hid (take_eq_snoc ht.out (by omega) (by omega) he)
          clear he
          go_wp2_with fail
          go_quiet (fail)
          go_wp2_with fail
          go_roundw
          case rel => exact ⟨k + 1, by omega, by omega, by go_num, hs.out, ca, cb, by (repeat (first | with_reducible exact Below.refl _ _ | with_reducible assumption | with_reducible refine below_alloc ?_ _ | ((with_reducible refine Below.setCell ?_ ?_ _); rotate_left; (· first | exact Nat.le_refl _ | (simp; done) | (simp; omega))) | with_reducible refine below_drewN ?_ _ | with_reducible refine Below.drew ?_ | with_reducible refine below_then ?_ (by with_reducible assumption)))⟩
          case measure => simp [intOf]; omega
        · have hcp := Lib.hid (cp_eq (k := k) ht.out (by omega) (by omega) (fun _ _ => he))
          have hnl := Lib.hid (ne_of_at (l := l) (l' := l') (by omega) (by omega) he)
          have he1 : (l[k]'(by omega) != l'[k]'(by omega)) = true := by simp [he]
          clear he
          go_wp2_with fail
          go_quiet (fail)
          go_wp2_with fail
          go_ret2
          exact ⟨_, _, rfl, (fa_apart hnl.out hcp.out).symm, by rw [eqB_false hnl.out]; rfl, by (repeat (first | with_reducible exact Below.refl _ _ | with_reducible assumption | with_reducible refine below_alloc ?_ _ | ((with_reducible refine Below.setCell ?_ ?_ _); rotate_left; (· first | exact Nat.le_refl _ | (simp; done) | (simp; omega))) | with_reducible refine below_drewN ?_ _ | with_reducible refine Below.drew ?_ | with_reducible refine below_then ?_ (by with_reducible assumption)))⟩
      · have hnl := Lib.hid (show ¬ l = l' by rintro rfl; omega)
        have hcp := Lib.hid (cp_eq (k := k) ht.out (by omega) (by omega) (fun _ _ => by omega))
        have g1 : decide ((n : Int) ≤ (k : Int)) = false := by simp; omega
        have g2 : decide ((n' : Int) ≤ (k : Int)) = true := by simp; omega
        have g3 : decide (n ≤ k) = false := by simp; omega
        have g4 : decide (n' ≤ k) = true := by simp; omega
        have g5 : n' ≤ k := by omega
        clear l2
        go_wp2_with fail
        go_quiet (fail)
        go_wp2_with fail
        go_ret2
        exact ⟨_, _, rfl, (fa_apart hnl.out hcp.out).symm, by rw [eqB_false hnl.out]; rfl, by (repeat (first | with_reducible exact Below.refl _ _ | with_reducible assumption | with_reducible refine below_alloc ?_ _ | ((with_reducible refine Below.setCell ?_ ?_ _); rotate_left; (· first | exact Nat.le_refl _ | (simp; done) | (simp; omega))) | with_reducible refine below_drewN ?_ _ | with_reducible refine Below.drew ?_ | with_reducible refine below_then ?_ (by with_reducible assumption)))⟩
    · by_cases l2 : k < n'
      · have hnl := Lib.hid (show ¬ l = l' by rintro rfl; omega)
        have hcp := Lib.hid (cp_eq (k := k) ht.out (by omega) (by omega) (fun _ _ => by omega))
        have g1 : decide ((n : Int) ≤ (k : Int)) = true := by simp; omega
        have g3 : decide (n ≤ k) = true := by simp; omega
        have g5 : n ≤ k := by omega
        clear l1
        go_wp2_with fail
        go_quiet (fail)
        go_wp2_with fail
        go_ret2
        exact ⟨_, _, rfl, (fa_apart hnl.out hcp.out).symm, by rw [eqB_false hnl.out]; rfl, by (repeat (first | with_reducible exact Below.refl _ _ | with_reducible assumption | with_reducible refine below_alloc ?_ _ | ((with_reducible refine Below.setCell ?_ ?_ _); rotate_left; (· first | exact Nat.le_refl _ | (simp; done) | (simp; omega))) | with_reducible refine below_drewN ?_ _ | with_reducible refine Below.drew ?_ | with_reducible refine below_then ?_ (by with_reducible assumption)))⟩
      · have hl := Lib.hid (eq_of_takes ht.out (by omega) (by omega))
        go_wp2_with fail
        go_ret2
        exact ⟨_, _, rfl, (fa_same hl.out).symm, by rw [eqB_true hl.out]; rfl, by (repeat (first | with_reducible exact Below.refl _ _ | with_reducible assumption | with_reducible refine below_alloc ?_ _ | ((with_reducible refine Below.setCell ?_ ?_ _); rotate_left; (· first | exact Nat.le_refl _ | (simp; done) | (simp; omega))) | with_reducible refine below_drewN ?_ _ | with_reducible refine Below.drew ?_ | with_reducible refine below_then ?_ (by with_reducible assumption)))⟩
noncomputable def faB (l l' : List Int) : Bool := !eqB l l'
theorem implFirstApartC (w : World) (x0 x1 : Int) (A : Option Addr) (n c : Nat) (l : List Int) (x3 x0' x1' : Int) (A' : Option Addr) (n' c' : Nat) (l' : List Int) (x3' : Int)
    (h : Sl intR w 0 w.heap.size A n c l) (_ : l.length ≤ 1048576) (_ : I64 x0) (_ : I64 x1) (_ : I64 x3) (h' : Sl intR w 0 w.heap.size A' n' c' l') (_ : l'.length ≤ 1048576) (_ : I64 x0') (_ : I64 x1') (_ : I64 x3') :
    Calls Try.prog 19 #[.agg #[.int .i64 x0, .int .i64 x1, .slice A n c, .int .i64 x3], .agg #[.int .i64 x0', .int .i64 x1', .slice A' n' c', .int .i64 x3']] w (RetV (.tuple #[.int .i64 (faN l l'), .bool (faB l l')]) w) :=
  (implFirstApart w 0 _ 0 _ x0 x1 A n c l x3 x0' x1' A' n' c' l' x3' h h' (Nat.le_refl _) (Nat.le_refl _)).mono fun _ _ ⟨_, _, he, hr, hq, hb⟩ => ⟨by rw [he, hr, hq]; rfl, hb⟩
theorem specFirstApartC (w : World) (x0 x1 : Int) (A : Option Addr) (n c : Nat) (l : List Int) (x3 x0' x1' : Int) (A' : Option Addr) (n' c' : Nat) (l' : List Int) (x3' : Int)
    (h : Sl intR w 0 w.heap.size A n c l) (_ : l.length ≤ 1048576) (_ : I64 x0) (_ : I64 x1) (_ : I64 x3) (h' : Sl intR w 0 w.heap.size A' n' c' l') (_ : l'.length ≤ 1048576) (_ : I64 x0') (_ : I64 x1') (_ : I64 x3') :
    Calls Try.prog 17 #[.agg #[.int .i64 x0, .int .i64 x1, .slice A n c, .int .i64 x3], .agg #[.int .i64 x0', .int .i64 x1', .slice A' n' c', .int .i64 x3']] w (RetV (.tuple #[.int .i64 (faN l l'), .bool (faB l l')]) w) :=
  (specFirstApart w 0 _ 0 _ x0 x1 A n c l x3 x0' x1' A' n' c' l' x3' h h' (Nat.le_refl _) (Nat.le_refl _)).mono fun _ _ ⟨_, _, he, hr, hq, hb⟩ => ⟨by rw [he, hr, hq]; rfl, hb⟩
end Go.Proofs.Ytikffchdembbjaa
