/- Marks read back: int. Printed by heldgen.py. Walks. -/
import Derived.Test.YtfilenabhjjidaaMk
set_option linter.unusedVariables false
set_option linter.unusedSimpArgs false
set_option linter.unnecessarySimpa false
set_option maxRecDepth 100000
namespace Go.Proofs.Ytfilenabhjjidaa
open Go.RowKit

theorem mkL_get {α : Type} {mkf : Int → α → α} {cnt : α → Nat} {l : List α} {j : Nat} {k : Int} (hj : j < l.length) : (mkL mkf cnt k l)[j]'(by rw [mkL_len]; exact hj) = mkf (k + (cntL cnt (l.take j) : Int)) l[j] := by
  induction l generalizing j k with
  | nil => simp at hj
  | cons x l ih =>
    cases j with
    | zero => simp [mkL, cntL]
    | succ j =>
      simp only [mkL, List.getElem_cons_succ, List.take_succ_cons]
      rw [ih (by simpa using hj)]
      simp [cntL, Int.add_assoc]
/-- What a mark is read back to: the next mark. -/
def RetHd (N : Int) (w : World) (e : Ending) (w' : World) : Prop := ∃ r, e = .returned (.int .i64 r) ∧ r = N ∧ Below w.heap.size w w'

set_option maxHeartbeats 2000000 in
theorem hdInts (w : World) (lo hi n c : Nat) (A : Option Addr) (l : List Int) (k : Int) (h : Sl intR w lo hi A n c (mkL mkInt cntInt k l)) (hh : hi ≤ w.heap.size) (hk1 : 0 ≤ k) (hk2 : k + (cntL cntInt l : Int) ≤ 1152921504606846976) :
    Calls Try.prog 29 #[.slice A n c, .int .i64 k] w (RetHd (k + (cntL cntInt l : Int)) w) := by
  have e1 : l.length = n := by have := h.lenEq; rwa [mkL_len] at this
  have b1 := h.lenLe
  go_enter Try.func29, Try.ntmps29
  go_wp2_with fail
  go_loopw [1, 5] (fun kk i wr => ∃ (j : Nat) (K : Int), j ≤ n ∧ i = .int .i64 j ∧ kk = .int .i64 K ∧ K = k + (cntL cntInt (l.take j) : Int) ∧ Below w.heap.size w wr) (fun _ i _ => n - (intOf i).toNat)
  case atStart => exact ⟨0, k, Nat.zero_le _, rfl, rfl, by simp [cntL], Below.refl _ _⟩
  case round =>
    obtain ⟨j, K, hj, rfl, rfl, hK0, hb⟩ := hrel
    have a0 : 0 ≤ K := by omega
    have a1 : K ≤ 1152921504606846976 := by have := cntL_take_le (cnt := cntInt) l j; omega
    have hhr : hi ≤ wr.heap.size := by have := hb.size; omega
    have hK := Lib.hid hK0
    by_cases hlt : j < n
    · have hg := mkL_get (mkf := mkInt) (cnt := cntInt) (l := l) (j := j) (k := k) (by omega)
      have hs0 := cntL_succ (cnt := cntInt) (l := l) (k := j) (by omega)
      have hle := cntL_take_le (cnt := cntInt) l (j + 1)
      obtain ⟨b, o, rfl, _, _, hc1, _⟩ := (h.below hb hh).int_at hlt
      rw [hg, ← hK0] at hc1
      have hK1 := Lib.hid (show K + 1 = k + (cntL cntInt (l.take (j + 1)) : Int) by rw [hs0]; simp only [cntInt]; omega)
      clear hg hs0 hle hK0
      unfold mkInt at hc1
      go_wp2_with fail
      go_roundw
      case rel => exact ⟨j + 1, K + 1, by omega, by go_num, by first | rfl | go_num, hK1.out, hb⟩
      case measure => simp [intOf]; omega
    · have hK2 := Lib.hid (show K = k + (cntL cntInt l : Int) by rw [hK0, List.take_of_length_le (by omega)])
      clear hK0
      go_wp2_with fail
      go_ret
      exact ⟨_, rfl, hK2.out, hb⟩
end Go.Proofs.Ytfilenabhjjidaa
