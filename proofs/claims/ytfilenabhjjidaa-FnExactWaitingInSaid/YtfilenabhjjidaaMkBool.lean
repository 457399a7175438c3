/- Marks over slices of bools. Walk. -/
import Derived.Test.YtfilenabhjjidaaMk
import Derived.Test.YtfilenabhjjidaaBools
set_option linter.unusedVariables false
set_option linter.unusedSimpArgs false
set_option maxRecDepth 100000
namespace Go.Proofs.Ytfilenabhjjidaa
open Go.RowKit

def mkBool (k : Int) (_ : Bool) : Bool := k % 3 == 0
def cntBool (_ : Bool) : Nat := 1
theorem cntL_bool (l : List Bool) : cntL cntBool l = l.length := by
  induction l with
  | nil => rfl
  | cons x l ih => unfold cntL at ih ⊢; simp [cntBool, ih]; omega
set_option maxHeartbeats 1000000 in
theorem mkBools (w : World) (n c : Nat) (A : Option Addr) (F : List Nat) (l : List Bool) (k : Int) (h : OwnSl boolR w 4 F (.slice A n c) l) (h1 : 0 ≤ k) (h2 : k + (cntL cntBool l : Int) ≤ 1152921504606846976) :
    Calls Try.prog 157 #[.slice A n c, .int .i64 k] w (RetMk boolR 4 mkBool cntBool l k F (.slice A n c) w) := by
  obtain ⟨_, hx, _, hl⟩ := h.row'
  have bn : n ≤ 9223372036854775807 := by obtain ⟨_, ⟨_, h0, _⟩ | ⟨_, _, h3, h4⟩⟩ := ownsRow_cases hx <;> omega
  clear hx
  rw [cntL_bool] at h2
  go_enter Try.func157, Try.ntmps157
  go_wp2_with fail
  go_loopw [1, 5] (fun kk i wr => ∃ (j : Nat) (K : Int), j ≤ n ∧ i = .int .i64 j ∧ kk = .int .i64 K ∧ K = k + (j : Int) ∧ OwnSl boolR wr 4 F (.slice A n c) (mkL mkBool cntBool k (l.take j) ++ l.drop j) ∧ Fr F w wr) (fun _ i _ => n - (intOf i).toNat)
  case atStart => exact ⟨0, k, Nat.zero_le _, rfl, rfl, by simp, by simpa [mkL] using h, Fr.refl _ _⟩
  case round =>
    obtain ⟨j, K, hj, rfl, rfl, hK0, ho, hb⟩ := hrel
    have hK := Lib.hid hK0
    have hk0 : 0 ≤ K := by omega
    by_cases hlt : j < n
    · have hjl : j < l.length := by omega
      have hk2 : K ≤ 1152921504606846976 := by omega
      clear hK0
      obtain ⟨g, pre, cs, post, Fj, hA, hn0, hpre, hown, hrow, hgF, hgj, _, put0⟩ := ho.focus (by decide) (j := j) (by simp [mkL_len]; omega)
      clear hn0
      subst hA
      rw [mkL_at hjl] at hown
      have put := Lib.hid put0
      have hltF := Lib.hid ho.lt
      clear put0 ho
      obtain ⟨rfl, rfl, _⟩ := hown
      have hpre1 : pre.length = j := by rw [hpre]; exact Nat.mul_one j
      have hpreH := Lib.hid hpre1
      clear hpre hpre1
      have u0 : wr.cell? ⟨g, j, none⟩ = some (.bool l[j]) := rowCell hrow hpreH.out (i := 0) (by simp)
      generalize hq0 : l[j] = q at u0
      have v0 := hrow.frozenAt j
      have r1 := rowSet hrow hpreH.out (i := 0) (by simp) (.bool (K % 3 == 0))
      simp only [List.set_cons_zero] at r1
      have fin : ∀ W : World, W.ownsRow 0 4 1 (.slice (some ⟨g, 0, none⟩) n c) n (pre ++ [.bool (K % 3 == 0)] ++ post) → Fr [g] wr W → OwnSl boolR W 4 F (.slice (some ⟨g, 0, none⟩) n c) (mkL mkBool cntBool k (l.take (j + 1)) ++ l.drop (j + 1)) := by
        intro W hr hf
        have := put.out W _ (mkBool K l[j]) ⟨rfl, rfl, trivial⟩ hr (fun q hq hne hnot => hf.block q (hltF.out q hq) (fun hx => hne (by simpa using hx)))
        have e1 : K = k + (cntL cntBool (l.take j) : Int) := by rw [cntL_bool, List.length_take, Nat.min_eq_left (by omega)]; exact hK.out
        rw [e1, mkL_step hjl] at this
        exact this
      have finH := Lib.hid fin
      clear fin hq0
      go_wp2_with fail
      go_roundw
      case rel => exact ⟨j + 1, _, by omega, by go_num, rfl, by have := hK.out; omega, finH.out _ r1 (by (repeat (first | with_reducible exact Fr.refl _ _ | with_reducible assumption | ((with_reducible refine Fr.setCell ?_ ?_ _); rotate_left; (· first | (simp; done) | assumption | (simp; assumption))) | with_reducible refine Fr.drewN ?_ _ | with_reducible refine Fr.drew ?_ | with_reducible refine Fr.alloc ?_ _ | with_reducible refine Fr.trans ?_ (Fr.of_below (by with_reducible assumption))))), by (repeat (first | with_reducible exact Fr.refl _ _ | with_reducible assumption | ((with_reducible refine Fr.setCell ?_ ?_ _); rotate_left; (· first | (simp; done) | assumption | (simp; assumption))) | with_reducible refine Fr.drewN ?_ _ | with_reducible refine Fr.drew ?_ | with_reducible refine Fr.alloc ?_ _ | with_reducible refine Fr.trans ?_ (Fr.of_below (by with_reducible assumption))))⟩
      case measure => simp [intOf]; omega
    · clear hK0
      have hjn := Lib.hid (show j = n by omega)
      have e1 : mkL mkBool cntBool k (l.take j) ++ l.drop j = mkL mkBool cntBool k l := by rw [List.take_of_length_le (by omega), List.drop_of_length_le (by omega), List.append_nil]
      rw [e1] at ho
      clear e1
      have hlH := Lib.hid hl
      clear hl
      go_wp2_with fail
      go_ret
      exact ⟨_, rfl, by rw [cntL_bool]; have := hK.out; have := hjn.out; have := hlH.out; omega, ho, hb⟩
end Go.Proofs.Ytfilenabhjjidaa
