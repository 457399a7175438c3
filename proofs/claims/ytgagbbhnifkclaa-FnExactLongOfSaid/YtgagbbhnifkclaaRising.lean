/- Rising numbers within bounds: the reference's walk. -/
import Derived.Test.YtgagbbhnifkclaaHigh
set_option linter.unusedVariables false
set_option linter.unusedSimpArgs false
set_option maxRecDepth 100000
namespace Go.Proofs.Ytgagbbhnifkclaa
open Go.RowKit
def risP (l : List Int) (a b : Int) (i : Nat) : Bool := inB (l.getD i 0) a b && (i == 0 || decide (l.getD (i - 1) 0 < l.getD i 0))
def risB (l : List Int) (a b : Int) : Bool := (List.range l.length).all (risP l a b)
theorem risP_of {l : List Int} {a b : Int} {i : Nat} {x : Int} (hi : i < l.length) (hx : l[i] = x) : risP l a b i = (inB x a b && (i == 0 || decide (l.getD (i - 1) 0 < x))) := by
  have : l.getD i 0 = x := by simp [List.getD, hi, hx]
  unfold risP; rw [this]
theorem range_all_succ {p : Nat → Bool} {k : Nat} (h : (List.range k).all p = true) (hp : p k = true) : (List.range (k + 1)).all p = true := by
  rw [List.range_succ, List.all_append, h]; simpa using hp
theorem range_all_false {p : Nat → Bool} {k n : Nat} (hk : k < n) (hp : p k = false) : (List.range n).all p = false := by
  rw [List.all_eq_false]; exact ⟨k, List.mem_range.2 hk, by simpa using hp⟩
theorem risB_pw {l : List Int} {a b : Int} : risB l a b = true ↔ (∀ x, x ∈ l → a ≤ x ∧ x ≤ b) ∧ l.Pairwise (· < ·) := by
  unfold risB
  rw [List.all_eq_true]
  constructor
  · intro h
    have h1 : ∀ i (hi : i < l.length), inB l[i] a b = true ∧ (i = 0 ∨ l.getD (i - 1) 0 < l[i]) := by
      intro i hi
      have := h i (List.mem_range.2 hi)
      rw [risP_of hi rfl] at this
      simpa using this
    refine ⟨fun x hx => ?_, ?_⟩
    · obtain ⟨i, hi, rfl⟩ := List.getElem_of_mem hx
      exact inB_iff.1 (h1 i hi).1
    · rw [List.pairwise_iff_getElem]
      intro i j hi hj hij
      induction j with
      | zero => omega
      | succ j ih =>
        have h2 := (h1 (j + 1) hj).2
        have h3 : l.getD (j + 1 - 1) 0 = l[j]'(by omega) := by
          rw [show j + 1 - 1 = j from rfl]; simp only [List.getD]; rw [List.getElem?_eq_getElem (by omega), Option.getD_some]
        rw [h3] at h2
        by_cases e : i = j
        · subst e; omega
        · have := ih (by omega) (by omega); omega
  · rintro ⟨h1, h2⟩ i hi
    have hi := List.mem_range.1 hi
    rw [risP_of hi rfl, inB_true (h1 _ (List.getElem_mem hi))]
    rcases i with _ | i
    · rfl
    · have h3 : l.getD (i + 1 - 1) 0 = l[i]'(by omega) := by
        rw [show i + 1 - 1 = i from rfl]; simp only [List.getD]; rw [List.getElem?_eq_getElem (by omega), Option.getD_some]
      rw [h3]
      have := List.pairwise_iff_getElem.1 h2 i (i + 1) (by omega) hi (by omega)
      simpa using this
theorem risB_count {l : List Int} {a b : Int} (h : risB l a b = true) (x : Int) : l.count x ≤ 1 :=
  List.nodup_iff_count.1 ((risB_pw.1 h).2.imp fun h => by omega) x
theorem specL1Rising (w : World) (lo hi n c : Nat) (A : Option Addr) (l : List Int) (a b : Int) (h : Sl intR w lo hi A n c l) (hh : hi ≤ w.heap.size) :
    Calls Try.prog 248 #[.slice A n c, .int .i64 a, .int .i64 b] w (RetB (risB l a b) w) := by
  have e1 := h.lenEq
  have b1 := h.lenLe
  go_enter Try.func248, Try.ntmps248
  go_wp2_with fail
  go_loopw [11] (fun i wr => ∃ k : Nat, k ≤ n ∧ i = .int .i64 k ∧ (List.range k).all (risP l a b) = true ∧ Below w.heap.size w wr) (fun i _ => n - (intOf i).toNat)
  case atStart => exact ⟨0, Nat.zero_le _, rfl, rfl, Below.refl _ _⟩
  case round =>
    obtain ⟨k, hk, rfl, ht0, hb⟩ := hrel
    have ht := Lib.hid ht0
    clear ht0
    by_cases hlt : k < n
    · obtain ⟨b', o, rfl, _, _, hc1, _⟩ := (h.below hb hh).int_at hlt
      generalize hl0 : l[k]'(by omega) = x at hc1
      have hP := risP_of (a := a) (b := b) (by omega) hl0
      have hok := Lib.hid (fun (hp : risP l a b k = true) => range_all_succ ht.out hp)
      have hno := Lib.hid (fun (hp : risP l a b k = false) => range_all_false (n := l.length) (by omega) hp)
      clear hl0
      cases k with
      | zero =>
        have hP' := Lib.hid (show risP l a b 0 = inB x a b by rw [hP]; simp)
        clear hP
        have hc0 : wr.cell? ⟨b', o, none⟩ = some (.int .i64 x) := hc1
        go_wp2_with (go_at_call 100; refine (specL1In _ _ _ _).mono ?_; rintro e w2 ⟨rfl, rfl⟩)
        all_goals first
          | (go_roundw
             case rel => exact ⟨1, by omega, by go_num, hok.out (by rw [hP'.out]; simp_all), by (repeat (first | with_reducible exact Below.refl _ _ | with_reducible assumption | with_reducible refine below_alloc ?_ _ | ((with_reducible refine Below.setCell ?_ ?_ _); rotate_left; (· first | exact Nat.le_refl _ | (simp; done) | (simp; omega))) | with_reducible refine below_drewN ?_ _ | with_reducible refine Below.drew ?_ | with_reducible refine below_then ?_ (by with_reducible assumption)))⟩
             case measure => simp [intOf]; omega)
          | (go_ret
             exact RetB.mk (by rw [risB, hno.out (by rw [hP'.out]; simp_all)]) (by (repeat (first | with_reducible exact Below.refl _ _ | with_reducible assumption | with_reducible refine below_alloc ?_ _ | ((with_reducible refine Below.setCell ?_ ?_ _); rotate_left; (· first | exact Nat.le_refl _ | (simp; done) | (simp; omega))) | with_reducible refine below_drewN ?_ _ | with_reducible refine Below.drew ?_ | with_reducible refine below_then ?_ (by with_reducible assumption)))))
      | succ j =>
        obtain ⟨b2, o2, hA, _, _, hc2, _⟩ := (h.below hb hh).int_at (k := j) (by omega)
        injection hA with hA
        injection hA with hA1 hA2
        subst hA1 hA2
        generalize hl1 : l[j]'(by omega) = y at hc2
        have hy : l.getD j 0 = y := by simp only [List.getD]; rw [List.getElem?_eq_getElem (by omega), hl1, Option.getD_some]
        have hP' := Lib.hid (show risP l a b (j + 1) = (inB x a b && decide (y < x)) by rw [hP, show j + 1 - 1 = j from rfl, hy]; simp)
        have hkk : ((j + 1 : Nat) : Int) - 1 = (j : Int) := by omega
        have hk0 : decide ((0 : Int) < ((j + 1 : Nat) : Int)) = true := by first | omega | (simp; done) | (simp; omega)
        clear hP hl1 hy
        by_cases hyx : y < x
        all_goals
          go_wp2_with (go_at_call 100; refine (specL1In _ _ _ _).mono ?_; rintro e w2 ⟨rfl, rfl⟩)
          all_goals first
            | (go_roundw
               case rel => exact ⟨j + 1 + 1, by omega, by go_num, hok.out (by rw [hP'.out]; simp_all), by (repeat (first | with_reducible exact Below.refl _ _ | with_reducible assumption | with_reducible refine below_alloc ?_ _ | ((with_reducible refine Below.setCell ?_ ?_ _); rotate_left; (· first | exact Nat.le_refl _ | (simp; done) | (simp; omega))) | with_reducible refine below_drewN ?_ _ | with_reducible refine Below.drew ?_ | with_reducible refine below_then ?_ (by with_reducible assumption)))⟩
               case measure => simp [intOf]; omega)
            | (go_ret
               exact RetB.mk (by rw [risB, hno.out (by rw [hP'.out]; simp_all)]) (by (repeat (first | with_reducible exact Below.refl _ _ | with_reducible assumption | with_reducible refine below_alloc ?_ _ | ((with_reducible refine Below.setCell ?_ ?_ _); rotate_left; (· first | exact Nat.le_refl _ | (simp; done) | (simp; omega))) | with_reducible refine below_drewN ?_ _ | with_reducible refine Below.drew ?_ | with_reducible refine below_then ?_ (by with_reducible assumption)))))
    · go_wp2
      go_ret
      exact RetB.mk (by rw [risB, show l.length = k by omega, ht.out]) hb
end Go.Proofs.Ytgagbbhnifkclaa
