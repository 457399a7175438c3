/- Marks over a list of lists of ints. Printed by intlgen.py. Walks. -/
import Derived.Test.YtmnkgcjbckamnaaGreatKit1
import Derived.Test.YtmnkgcjbckamnaaGreatTyIntL
set_option linter.unusedVariables false
set_option linter.unusedSimpArgs false
set_option linter.unnecessarySimpa false
set_option maxRecDepth 100000
namespace Go.Proofs.YtmnkgcjbckamnaaGreat
open Go.RowKit

def cntIntL (x : IntL) : Nat := cntL cntInt x
def mkIntL (k : Int) (x : IntL) : IntL := mkL mkInt cntInt k x
theorem IntL_ownx {w : World} {F : List Nat} {cs : List Value} {x : IntL} (h : IntLR.own w F cs x) : ∃ A0 n0 c0 s0 F0, cs = ([.slice A0 n0 c0] : List Value) ∧ x = s0 ∧ F0 = F ∧ (F0 : List Nat).Nodup ∧ OwnSl intR w 3 F0 (.slice A0 n0 c0) s0 := by
  obtain ⟨A, n, c, rfl, o⟩ := h
  have o' := o
  obtain ⟨_, _, _, _, _, hn⟩ := o'
  exact ⟨A, n, c, x, F, rfl, rfl, rfl, hn, o⟩
theorem IntL_own {w : World} {A0 : Option Addr} {n0 c0 : Nat} {s0 : List Int} {F0 : List Nat} (o0 : OwnSl intR w 3 F0 (.slice A0 n0 c0) s0)  (hF : (F0).Nodup) : IntLR.own w (F0) [.slice A0 n0 c0] s0 := ⟨A0, n0, c0, rfl, o0⟩
set_option maxHeartbeats 2000000 in
theorem mkIntLs (w : World) (n c : Nat) (A : Option Addr) (F : List Nat) (l : List IntL) (k : Int) (h : OwnSl IntLR w 26 F (.slice A n c) l) (h1 : 0 ≤ k) (h2 : k + (cntL cntIntL l : Int) ≤ 1152921504606846976) :
    Calls Tryz.prog 30 #[.slice A n c, .int .i64 k] w (RetMk IntLR 26 mkIntL cntIntL l k F (.slice A n c) w) := by
  obtain ⟨_, hx, _, hl⟩ := h.row'
  have bn : n ≤ 9223372036854775807 := by obtain ⟨_, ⟨_, h0, _⟩ | ⟨_, _, h3, h4⟩⟩ := ownsRow_cases hx <;> omega
  clear hx
  go_enter Tryz.func30, Tryz.ntmps30
  go_wp2_with fail
  go_loopw [1, 5] (fun kk i wr => ∃ (j : Nat) (K : Int), j ≤ n ∧ i = .int .i64 j ∧ kk = .int .i64 K ∧ K = k + (cntL cntIntL (l.take j) : Int) ∧ OwnSl IntLR wr 26 F (.slice A n c) (mkL mkIntL cntIntL k (l.take j) ++ l.drop j) ∧ Fr F w wr) (fun _ i _ => n - (intOf i).toNat)
  case atStart => exact ⟨0, k, Nat.zero_le _, rfl, rfl, by simp [cntL], by simpa [mkL] using h, Fr.refl _ _⟩
  case round =>
    obtain ⟨j, K, hj, rfl, rfl, hK0, ho, hb⟩ := hrel
    have hK := Lib.hid hK0
    have hk0 : 0 ≤ K := by omega
    clear hK0
    by_cases hlt : j < n
    · have hjl : j < l.length := by omega
      have c1 := cntL_succ (cnt := cntIntL) hjl
      have c2 := cntL_take_le (cnt := cntIntL) l (j + 1)
      have hk2 : K + (cntIntL l[j] : Int) ≤ 1152921504606846976 := by have := hK.out; omega
      have hK1 := Lib.hid (show K + (cntIntL l[j] : Int) = k + (cntL cntIntL (l.take (j + 1)) : Int) by have := hK.out; omega)
      clear c1 c2
      obtain ⟨g, pre, cs, post, Fj, hA, hn0, hpre, hown, hrow, hgF, hgj, hsub0, put0⟩ := ho.focus (by decide) (j := j) (by simp [mkL_len]; omega)
      clear hn0
      subst hA
      rw [mkL_at hjl] at hown
      have hsub := Lib.hid hsub0
      clear hsub0
      have put := Lib.hid put0
      have hltF := Lib.hid ho.lt
      clear put0 ho
      obtain ⟨A0, n0, c0, s0, F0, rfl, hx0, rfl, hnd, o0⟩ := IntL_ownx hown
      have hx := Lib.hid hx0
      rw [hx0] at hk2
      simp only [cntIntL] at hk2
      clear hx0 hown
      have hpreH : Hid (pre.length = j * 1) := hpre
      clear hpre
      have r0 := hrow
      have g0 : g ∉ F0 := fun hh => hgj (by simp [hh])
      have fa : Fr (g :: F0) wr wr := Fr.refl _ _
      have u0 : wr.cell? ⟨g, j, none⟩ = some (.slice A0 n0 c0) := by have t := rowCell hrow hpreH.out (i := 0) (by simp); rw [Nat.mul_one] at t; exact t
      have v0 := hrow.frozenAt j
      go_wp2_with fail
      refine (mkInts _ n0 c0 A0 F0 s0 (K) (o0.fr (G := [g]) (by (repeat (first | with_reducible exact Fr.refl _ _ | with_reducible assumption | ((with_reducible refine Fr.setCell ?_ ?_ _); rotate_left; (· first | (simp; done) | assumption | (simp; assumption))) | with_reducible refine Fr.drewN ?_ _ | with_reducible refine Fr.drew ?_ | with_reducible refine Fr.alloc ?_ _ | with_reducible refine Fr.trans ?_ (Fr.of_below (by with_reducible assumption))))) (fun q hq hq' => by simp at hq'; subst hq'; exact g0 hq)) (by omega) (by omega)).mono ?_
      rintro e w0 ⟨k0, rfl, hk00, o0, f0⟩
      have z0 : K ≤ k0 := by omega
      have hq0 := Lib.hid hk00
      have y0 : k0 + (0 : Nat) ≤ 1152921504606846976 := by omega
      clear hk00
      replace fa : Fr (g :: F0) wr w0 := fr_then (f0.more (fun q hq => List.mem_cons_of_mem _ (by simp [hq]))) (by (repeat (first | with_reducible exact Fr.refl _ _ | with_reducible assumption | ((with_reducible refine Fr.setCell ?_ ?_ _); rotate_left; (· first | (simp; done) | assumption | (simp; assumption))) | with_reducible refine Fr.drewN ?_ _ | with_reducible refine Fr.drew ?_ | with_reducible refine Fr.alloc ?_ _ | with_reducible refine Fr.trans ?_ (Fr.of_below (by with_reducible assumption)))))
      have r1 := row_fr r0 f0 g0
      clear u0 v0
      have u0 : w0.cell? ⟨g, j, none⟩ = some (.slice A0 n0 c0) := by have t := rowCell r1 hpreH.out (i := 0) (by simp); rw [Nat.mul_one] at t; exact t
      have v0 := r1.frozenAt j
      have hfin := Lib.hid (show mkIntL K l[j] = mkL mkInt cntInt K s0 by rw [hx.out]; simp only [mkIntL, ← hq0.out])
      have hcnt := Lib.hid (show k0 = K + (cntIntL l[j] : Int) by rw [hx.out]; simp only [cntIntL]; have a0 := hq0.out; omega)
      have fin : ∀ W : World, W.ownsRow 0 26 1 (.slice (some ⟨g, 0, none⟩) n c) n (pre ++ [.slice A0 n0 c0] ++ post) → Fr [g] w0 W → OwnSl IntLR W 26 F (.slice (some ⟨g, 0, none⟩) n c) (mkL mkIntL cntIntL k (l.take (j + 1)) ++ l.drop (j + 1)) := by
        intro W hr hf
        have hall : Fr (g :: F0) wr W := fr_then (hf.more (fun z hz => by simp at hz; subst hz; exact List.mem_cons_self ..)) fa
        have := put.out W _ (mkIntL K l[j]) (by rw [hfin.out]; exact IntL_own (o0.fr hf (fun q hq hq' => by simp at hq'; subst hq'; exact g0 hq))  hnd) hr (fun q hq hne hnot => hall.block q (hltF.out q hq) (fun hx => by rcases List.mem_cons.1 hx with hx | hx; exact hne hx; exact hnot hx))
        have e1 := hK.out
        rw [e1, mkL_step hjl] at this
        exact this
      have hbF : Fr F w w0 := fr_then (fa.more (fun q hq => by rcases List.mem_cons.1 hq with rfl | hq; exact hgF; exact hsub.out q hq)) hb
      have finH := Lib.hid fin
      clear fin
      go_wp2_with fail
      go_roundw
      case rel => exact ⟨j + 1, _, by omega, by go_num, rfl, by rw [← hK1.out, ← hcnt.out], finH.out _ r1 (by (repeat (first | with_reducible exact Fr.refl _ _ | with_reducible assumption | ((with_reducible refine Fr.setCell ?_ ?_ _); rotate_left; (· first | (simp; done) | assumption | (simp; assumption))) | with_reducible refine Fr.drewN ?_ _ | with_reducible refine Fr.drew ?_ | with_reducible refine Fr.alloc ?_ _ | with_reducible refine Fr.trans ?_ (Fr.of_below (by with_reducible assumption))))), by (repeat (first | with_reducible exact Fr.refl _ _ | with_reducible assumption | ((with_reducible refine Fr.setCell ?_ ?_ _); rotate_left; (· first | (simp; done) | assumption | (simp; assumption))) | with_reducible refine Fr.drewN ?_ _ | with_reducible refine Fr.drew ?_ | with_reducible refine Fr.alloc ?_ _ | with_reducible refine Fr.trans ?_ (Fr.of_below (by with_reducible assumption))))⟩
      case measure => simp [intOf]; omega
    · have hjn := Lib.hid (show j = n by omega)
      have e1 : mkL mkIntL cntIntL k (l.take j) ++ l.drop j = mkL mkIntL cntIntL k l := by rw [List.take_of_length_le (by omega), List.drop_of_length_le (by omega), List.append_nil]
      rw [e1] at ho
      clear e1
      rw [List.take_of_length_le (by omega)] at hK
      go_wp2_with fail
      go_ret
      exact ⟨_, rfl, hK.out, ho, hb⟩
end Go.Proofs.YtmnkgcjbckamnaaGreat
