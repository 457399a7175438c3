/- slices.Reverse over a row of ints of the caller's own. Walk. -/
import Derived.Test.YtfilenabhjjidaaInts
import Derived.RegionTactic
import Derived.BigRegion
set_option linter.unusedVariables false
set_option linter.unusedSimpArgs false
set_option linter.unnecessarySimpa false
set_option maxRecDepth 100000
namespace Go.Proofs.Ytfilenabhjjidaa
open Go.RowKit

/-- The list with its first i and last i places exchanged. -/
def rv (xs : List Int) (i : Nat) : List Int := (List.range xs.length).map fun p => if p < i ∨ xs.length ≤ p + i then xs.getD (xs.length - 1 - p) 0 else xs.getD p 0
theorem rv_len (xs : List Int) (i : Nat) : (rv xs i).length = xs.length := by simp [rv]
theorem rv_at (xs : List Int) (i p : Nat) (hp : p < xs.length) : (rv xs i)[p]'(by rw [rv_len]; exact hp) = if p < i ∨ xs.length ≤ p + i then xs.getD (xs.length - 1 - p) 0 else xs.getD p 0 := by simp [rv]
theorem rv_zero (xs : List Int) : rv xs 0 = xs := by
  apply List.ext_getElem (rv_len xs 0)
  intro p h1 h2
  rw [rv_at xs 0 p h2, if_neg (by omega)]
  simp [List.getD, h2]
theorem rv_end (xs : List Int) (i : Nat) (h : xs.length ≤ 2 * i + 1) : rv xs i = xs.reverse := by
  apply List.ext_getElem (by simp [rv_len])
  intro p h1 h2
  have hp : p < xs.length := by simpa using h2
  rw [rv_at xs i p hp, List.getElem_reverse]
  split
  · simp [List.getD, show xs.length - 1 - p < xs.length by omega]
  · have : xs.length - 1 - p = p := by omega
    simp [List.getD, hp, this]
theorem rv_step (xs : List Int) (i : Nat) (h : 2 * i + 1 < xs.length) : ((rv xs i).set i (xs.getD (xs.length - 1 - i) 0)).set (xs.length - 1 - i) (xs.getD i 0) = rv xs (i + 1) := by
  apply List.ext_getElem (by simp [rv_len])
  intro p h1 h2
  have hp : p < xs.length := by simpa [rv_len] using h2
  rw [rv_at xs (i + 1) p hp, List.getElem_set, List.getElem_set]
  by_cases e1 : xs.length - 1 - i = p
  · rw [if_pos e1, if_pos (by omega)]
    congr 1; omega
  · rw [if_neg e1]
    by_cases e2 : i = p
    · rw [if_pos e2, if_pos (by omega)]; subst e2; rfl
    · rw [if_neg e2, rv_at xs i p hp]
      by_cases e3 : p < i ∨ xs.length ≤ p + i
      · rw [if_pos e3, if_pos (by omega)]
      · rw [if_neg e3, if_neg (by omega)]

set_option maxHeartbeats 1000000 in
theorem reverseInts (w : World) (B n c : Nat) (A : Option Addr) (xs : List Int) (h : w.ownsRow B 3 1 (.slice A n c) n (xs.map (Value.int .i64))) (hl : xs.length = n) (hn : n ≤ 1152921504606846976) :
    Calls Try.prog 88 #[.slice A n c] w fun e w' => e = .returned (.tuple #[]) ∧ w'.ownsRow B 3 1 (.slice A n c) n (xs.reverse.map (Value.int .i64)) ∧ w.grownBy w' (Value.slice A n c).ownBlock := by
  subst hl
  go_enter Try.func88, Try.ntmps88
  go_wp2_with fail
  go_loopw [2, 3] (fun i j wr => ∃ k : Nat, i = .int .i64 k ∧ j = .int .i64 ((xs.length : Int) - 1 - (k : Int)) ∧ 2 * k ≤ xs.length + 1 ∧ wr.ownsRow B 3 1 (.slice A xs.length c) xs.length ((rv xs k).map (Value.int .i64)) ∧ w.grownBy wr (Value.slice A xs.length c).ownBlock) (fun i _ _ => xs.length + 2 - (intOf i).toNat)
  case atStart => exact ⟨0, rfl, by simp, by omega, by rw [rv_zero]; exact h, World.grownBy.refl _ _⟩
  case round =>
    obtain ⟨k, rfl, rfl, hk, ho, hg⟩ := hrel
    by_cases hlt : 2 * k + 1 < xs.length
    · have hd : decide ((k : Int) < (xs.length : Int) - 1 - (k : Int)) = true := by simp; omega
      obtain ⟨_, ⟨_, h0, _⟩ | ⟨g, hA, _⟩⟩ : xs.length = xs.length ∧ ((A = none ∧ xs.length = 0 ∧ c = 0) ∨ ∃ g, A = some ⟨g, 0, none⟩ ∧ xs.length ≤ c) := by
        rcases ho.2 with ⟨h1, h2⟩ | ⟨g, cap, cur, h1, _, _, h3, _⟩
        · injection h1 with a b d; exact ⟨rfl, .inl ⟨a, h2, d⟩⟩
        · injection h1 with a b d; subst a d; exact ⟨rfl, .inr ⟨g, rfl, h3⟩⟩
      · omega
      subst hA
      obtain ⟨m, hm0⟩ : ∃ m : Nat, (xs.length : Int) - 1 - (k : Int) = (m : Int) := ⟨xs.length - 1 - k, by omega⟩
      have hmH := Lib.hid (show xs.length - 1 - k = m by omega)
      simp only [hm0] at hd ⊢
      have hmI := Lib.hid hm0
      have hkm : k < m := by omega
      have hm1 : m < xs.length := by omega
      have hk1 : k < xs.length := by omega
      have hne1 : ¬ k = m := by omega
      have hne2 : ¬ m = k := by omega
      clear hm0 hd
      have hc1 : wr.cell? ⟨g, k, none⟩ = some (.int .i64 (xs.getD k 0)) := by
        rw [ho.cellAt k (by omega), List.getElem?_map, List.getElem?_eq_getElem (by rw [rv_len]; exact hk1), rv_at xs k k hk1, if_neg (by have := hmH.out; omega)]; rfl
      have hc2 : wr.cell? ⟨g, m, none⟩ = some (.int .i64 (xs.getD m 0)) := by
        rw [ho.cellAt m (by omega), List.getElem?_map, List.getElem?_eq_getElem (by rw [rv_len]; exact hm1), rv_at xs k m hm1, if_neg (by have := hmH.out; omega)]; rfl
      have f1 := ho.frozenAt k
      have f2 := ho.frozenAt m
      have hst := ((ho.stored k (.int .i64 (xs.getD m 0))).1.stored m (.int .i64 (xs.getD k 0))).1
      have hrs := rv_step xs k (by omega)
      rw [hmH.out] at hrs
      rw [← List.map_set, ← List.map_set, hrs] at hst
      clear hrs
      generalize hva : xs.getD k 0 = va at *
      generalize hvb : xs.getD m 0 = vb at *
      clear hva hvb
      go_wp2_with fail
      go_region
      have hg2 : w.grownBy ((wr.setCell ⟨g, k, none⟩ (.int .i64 vb)).setCell ⟨g, m, none⟩ (.int .i64 va)).drew (Value.slice (some ⟨g, 0, none⟩) xs.length c).ownBlock :=
        ⟨hg.os, hg.tape, hg.output, by simpa [World.setCell] using hg.size, fun q hq hne => by
          have e1 : q ≠ g := fun e => hne (by subst e; rfl)
          show (((wr.setCell ⟨g, k, none⟩ (.int .i64 vb)).setCell ⟨g, m, none⟩ (.int .i64 va))).heap[q]? = _
          rw [Below.heap_setCell _ _ _ _ e1, Below.heap_setCell _ _ _ _ e1]
          exact hg.block q hq hne⟩
      go_wp2_with fail
      go_roundw
      case rel => exact ⟨k + 1, by go_num, int_eq (by have := hmI.out; omega), by omega, hst, hg2⟩
      case measure => simp [intOf]; omega
    · have hd : decide ((k : Int) < (xs.length : Int) - 1 - (k : Int)) = false := by simp; omega
      have hr := rv_end xs k (by omega)
      rw [hr] at ho
      clear hr
      go_wp2_with fail
      go_end0
      exact ⟨rfl, ho, hg⟩
end Go.Proofs.Ytfilenabhjjidaa
