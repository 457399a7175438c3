/- Marks read back: a list of lists of ints. Walks. -/
import Derived.Test.YtmnkgcjbckamnaaGreatMkIntL
import Derived.Test.YtmnkgcjbckamnaaGreatKit1
set_option linter.unusedVariables false
set_option linter.unusedSimpArgs false
set_option linter.unnecessarySimpa false
set_option maxRecDepth 100000
namespace Go.Proofs.YtmnkgcjbckamnaaGreat
open Go.RowKit

set_option maxHeartbeats 2000000 in
theorem hdIntLs (w : World) (lo hi n c : Nat) (A : Option Addr) (l : List IntL) (k : Int) (h : Sl IntLR w lo hi A n c (mkL mkIntL cntIntL k l)) (hh : hi ≤ w.heap.size) (hk1 : 0 ≤ k) (hk2 : k + (cntL cntIntL l : Int) ≤ 1152921504606846976) :
    Calls Tryz.prog 31 #[.slice A n c, .int .i64 k] w (RetHd (k + (cntL cntIntL l : Int)) w) := by
  have e1 : l.length = n := by have := h.lenEq; rwa [mkL_len] at this
  have b1 := h.lenLe
  go_enter Tryz.func31, Tryz.ntmps31
  go_wp2_with fail
  go_loopw [1, 5] (fun kk i wr => ∃ (j : Nat) (K : Int), j ≤ n ∧ i = .int .i64 j ∧ kk = .int .i64 K ∧ K = k + (cntL cntIntL (l.take j) : Int) ∧ Below w.heap.size w wr) (fun _ i _ => n - (intOf i).toNat)
  case atStart => exact ⟨0, k, Nat.zero_le _, rfl, rfl, by simp [cntL], Below.refl _ _⟩
  case round =>
    obtain ⟨j, K, hj, rfl, rfl, hK0, hb⟩ := hrel
    have a0 : 0 ≤ K := by omega
    have a1 : K ≤ 1152921504606846976 := by have := cntL_take_le (cnt := cntIntL) l j; omega
    have hhr : hi ≤ wr.heap.size := by have := hb.size; omega
    have hK := Lib.hid hK0
    by_cases hlt : j < n
    · have hg := mkL_get (mkf := mkIntL) (cnt := cntIntL) (l := l) (j := j) (k := k) (by omega)
      have hs0 := cntL_succ (cnt := cntIntL) (l := l) (k := j) (by omega)
      have hle := cntL_take_le (cnt := cntIntL) l (j + 1)
      obtain ⟨b, o, A2, n2, c2, s2, rfl, _, _, hl0, h2, d0⟩ := IntL_at (h.below hb hh) hlt
      rw [hl0, ← hK0] at hg
      generalize l[j]'(by omega) = y at hg hs0
      unfold mkIntL at hg
      subst hg
      have hs := Lib.hid (show cntL cntIntL (l.take (j + 1)) = cntL cntIntL (l.take j) + cntL cntInt y from hs0)
      have hle2 := Lib.hid hle
      clear hs0 hle hK0 hl0
      have bb : K + (cntL cntInt y : Int) ≤ 1152921504606846976 := by have := hs.out; have := hle2.out; have := hK.out; omega
      go_wp2_with fail
      refine (hdInts _ lo hi n2 c2 A2 y K h2 (by omega) (by omega) bb).mono ?_
      rintro e w2 ⟨r2, rfl, q2, hb2⟩
      have p2 : 0 ≤ r2 := by omega
      have P2 : r2 ≤ 1152921504606846976 := by omega
      replace q2 := Lib.hid q2
      clear bb
      replace hb := below_then hb hb2
      have hK1 := Lib.hid (show r2 = k + (cntL cntIntL (l.take (j + 1)) : Int) by have := hs.out; have := hK.out; have := q2.out; omega)
      go_wp2_with fail
      go_roundw
      case rel => exact ⟨j + 1, r2, by omega, by go_num, by first | rfl | go_num, hK1.out, hb⟩
      case measure => simp [intOf]; omega
    · have hK2 := Lib.hid (show K = k + (cntL cntIntL l : Int) by rw [hK0, List.take_of_length_le (by omega)])
      clear hK0
      go_wp2_with fail
      go_ret
      exact ⟨_, rfl, hK2.out, hb⟩
end Go.Proofs.YtmnkgcjbckamnaaGreat
