/- Marks over slices of Note. Printed by markgen.py. Walks. -/
import Derived.Test.YtfilenabhjjidaaMk
import Derived.Test.YtfilenabhjjidaaNotes
set_option linter.unusedVariables false
set_option linter.unusedSimpArgs false
set_option linter.unnecessarySimpa false
set_option maxRecDepth 100000
namespace Go.Proofs.Ytfilenabhjjidaa
open Go.RowKit

def cntNote (x : Note) : Nat := 1 + 1 + 1
def mkNote (k : Int) (x : Note) : Note := (k, (k + 1), ((k + 1) + 1))
theorem Note_ownx {w : World} {F : List Nat} {cs : List Value} {x : Note} (h : noteR.own w F cs x) : ∃ x0 x1 x2, cs = ([.int .i64 x0, .int .i64 x1, .int .i64 x2] : List Value) ∧ x = (x0, x1, x2) ∧ F = [] ∧ ([] : List Nat).Nodup ∧ I64 x0 ∧ I64 x1 ∧ I64 x2 := by
  obtain ⟨_, _, _, _, rfl, rfl, ⟨rfl, rfl, i0⟩, ⟨_, _, _, _, rfl, rfl, ⟨rfl, rfl, i1⟩, ⟨rfl, rfl, i2⟩, nd1⟩, nd0⟩ := h
  exact ⟨x.1, x.2.1, x.2.2, rfl, rfl, by simp, by simpa using nd0, i0, i1, i2⟩
set_option maxHeartbeats 2000000 in
theorem mkNotes (w : World) (n c : Nat) (A : Option Addr) (F : List Nat) (l : List Note) (k : Int) (h : OwnSl noteR w 112 F (.slice A n c) l) (h1 : 0 ≤ k) (h2 : k + (cntL cntNote l : Int) ≤ 1152921504606846976) :
    Calls Try.prog 45 #[.slice A n c, .int .i64 k] w (RetMk noteR 112 mkNote cntNote l k F (.slice A n c) w) := by
  obtain ⟨_, hx, _, hl⟩ := h.row'
  have bn : n ≤ 9223372036854775807 := by obtain ⟨_, ⟨_, h0, _⟩ | ⟨_, _, h3, h4⟩⟩ := ownsRow_cases hx <;> omega
  clear hx
  go_enter Try.func45, Try.ntmps45
  go_wp2_with fail
  go_loopw [1, 5] (fun kk i wr => ∃ (j : Nat) (K : Int), j ≤ n ∧ i = .int .i64 j ∧ kk = .int .i64 K ∧ K = k + (cntL cntNote (l.take j) : Int) ∧ OwnSl noteR wr 112 F (.slice A n c) (mkL mkNote cntNote k (l.take j) ++ l.drop j) ∧ Fr F w wr) (fun _ i _ => n - (intOf i).toNat)
  case atStart => exact ⟨0, k, Nat.zero_le _, rfl, rfl, by simp [cntL], by simpa [mkL] using h, Fr.refl _ _⟩
  case round =>
    obtain ⟨j, K, hj, rfl, rfl, hK0, ho, hb⟩ := hrel
    have hK := Lib.hid hK0
    have hk0 : 0 ≤ K := by omega
    clear hK0
    by_cases hlt : j < n
    · have hjl : j < l.length := by omega
      have c1 := cntL_succ (cnt := cntNote) hjl
      have c2 := cntL_take_le (cnt := cntNote) l (j + 1)
      have hk2 : K + (cntNote l[j] : Int) ≤ 1152921504606846976 := by have := hK.out; omega
      have hK1 := Lib.hid (show K + (cntNote l[j] : Int) = k + (cntL cntNote (l.take (j + 1)) : Int) by have := hK.out; omega)
      clear c1 c2
      obtain ⟨g, pre, cs, post, Fj, hA, hn0, hpre, hown, hrow, hgF, hgj, hsub0, put0⟩ := ho.focus (by decide) (j := j) (by simp [mkL_len]; omega)
      clear hn0
      subst hA
      rw [mkL_at hjl] at hown
      have hsub := Lib.hid hsub0
      clear hsub0
      have put := Lib.hid put0
      have hltF := Lib.hid ho.lt
      clear put0 ho
      obtain ⟨x0, x1, x2, rfl, hx0, rfl, hnd, _, _, _⟩ := Note_ownx hown
      have hx := Lib.hid hx0
      rw [hx0] at hk2
      simp only [cntNote] at hk2
      clear hx0 hown
      have hpreH : Hid (pre.length = j * 3) := hpre
      clear hpre
      have r0 := hrow
      have fa : Fr (g :: []) wr wr := Fr.refl _ _
      have u0 : wr.cell? ⟨g, j * 3, none⟩ = some (.int .i64 x0) := rowCell hrow hpreH.out (i := 0) (by simp)
      have u1 : wr.cell? ⟨g, j * 3 + 1, none⟩ = some (.int .i64 x1) := rowCell hrow hpreH.out (i := 1) (by simp)
      have u2 : wr.cell? ⟨g, j * 3 + 2, none⟩ = some (.int .i64 x2) := rowCell hrow hpreH.out (i := 2) (by simp)
      have v0 := hrow.frozenAt (j * 3)
      have v1 := hrow.frozenAt (j * 3 + 1)
      have v2 := hrow.frozenAt (j * 3 + 2)
      have r1 := rowSet r0 hpreH.out (i := 0) (by simp) (.int .i64 K)
      simp only [List.set_cons_zero, List.set_cons_succ] at r1
      have r2 := rowSet r1 hpreH.out (i := 1) (by simp) (.int .i64 (K + 1))
      simp only [List.set_cons_zero, List.set_cons_succ] at r2
      have r3 := rowSet r2 hpreH.out (i := 2) (by simp) (.int .i64 (K + 1 + 1))
      simp only [List.set_cons_zero, List.set_cons_succ] at r3
      have hfin := Lib.hid (show mkNote K l[j] = (K, (K + 1), (K + 1 + 1)) by rw [hx.out]; simp only [mkNote])
      have hcnt := Lib.hid (show K + 1 + 1 + 1 = K + (cntNote l[j] : Int) by rw [hx.out]; simp only [cntNote];  omega)
      have fin : ∀ W : World, W.ownsRow 0 112 3 (.slice (some ⟨g, 0, none⟩) n c) n (pre ++ [.int .i64 K, .int .i64 (K + 1), .int .i64 (K + 1 + 1)] ++ post) → Fr [g] wr W → OwnSl noteR W 112 F (.slice (some ⟨g, 0, none⟩) n c) (mkL mkNote cntNote k (l.take (j + 1)) ++ l.drop (j + 1)) := by
        intro W hr hf
        have hall : Fr (g :: []) wr W := fr_then (hf.more (fun z hz => by simp at hz; subst hz; exact List.mem_cons_self ..)) fa
        have := put.out W _ (mkNote K l[j]) (by rw [hfin.out]; exact Note_own _ _ _ _ ⟨by omega, by omega⟩ ⟨by omega, by omega⟩ ⟨by omega, by omega⟩) hr (fun q hq hne hnot => hall.block q (hltF.out q hq) (fun hx => by rcases List.mem_cons.1 hx with hx | hx; exact hne hx; exact hnot hx))
        have e1 := hK.out
        rw [e1, mkL_step hjl] at this
        exact this
      have finH := Lib.hid fin
      clear fin
      go_wp2_with fail
      go_roundw
      case rel => exact ⟨j + 1, _, by omega, by go_num, rfl, by rw [← hK1.out, ← hcnt.out], finH.out _ r3 (by (repeat (first | with_reducible exact Fr.refl _ _ | with_reducible assumption | ((with_reducible refine Fr.setCell ?_ ?_ _); rotate_left; (· first | (simp; done) | assumption | (simp; assumption))) | with_reducible refine Fr.drewN ?_ _ | with_reducible refine Fr.drew ?_ | with_reducible refine Fr.alloc ?_ _ | with_reducible refine Fr.trans ?_ (Fr.of_below (by with_reducible assumption))))), by (repeat (first | with_reducible exact Fr.refl _ _ | with_reducible assumption | ((with_reducible refine Fr.setCell ?_ ?_ _); rotate_left; (· first | (simp; done) | assumption | (simp; assumption))) | with_reducible refine Fr.drewN ?_ _ | with_reducible refine Fr.drew ?_ | with_reducible refine Fr.alloc ?_ _ | with_reducible refine Fr.trans ?_ (Fr.of_below (by with_reducible assumption))))⟩
      case measure => simp [intOf]; omega
    · have hjn := Lib.hid (show j = n by omega)
      have e1 : mkL mkNote cntNote k (l.take j) ++ l.drop j = mkL mkNote cntNote k l := by rw [List.take_of_length_le (by omega), List.drop_of_length_le (by omega), List.append_nil]
      rw [e1] at ho
      clear e1
      rw [List.take_of_length_le (by omega)] at hK
      go_wp2_with fail
      go_ret
      exact ⟨_, rfl, hK.out, ho, hb⟩
end Go.Proofs.Ytfilenabhjjidaa
