/- Marks over slices of Frame. Printed by markgen.py. Walks. -/
import Derived.Test.YtfilenabhjjidaaMk
import Derived.Test.YtfilenabhjjidaaTyFrame
import Derived.Test.YtfilenabhjjidaaMkBool
set_option linter.unusedVariables false
set_option linter.unusedSimpArgs false
set_option linter.unnecessarySimpa false
set_option maxRecDepth 100000
namespace Go.Proofs.Ytfilenabhjjidaa
open Go.RowKit

def cntFrame (x : Frame) : Nat := 1 + 1 + 1 + cntL cntInt (x.2.2.2.1) + cntL cntInt (x.2.2.2.2.1) + cntL cntBool (x.2.2.2.2.2.1) + 1 + 1 + 1 + 1 + 1
def mkFrame (k : Int) (x : Frame) : Frame := (k, (k + 1), ((k + 1) + 1), mkL mkInt cntInt (((k + 1) + 1) + 1) (x.2.2.2.1), mkL mkInt cntInt ((((k + 1) + 1) + 1) + (cntL cntInt (x.2.2.2.1) : Int)) (x.2.2.2.2.1), mkL mkBool cntBool (((((k + 1) + 1) + 1) + (cntL cntInt (x.2.2.2.1) : Int)) + (cntL cntInt (x.2.2.2.2.1) : Int)) (x.2.2.2.2.2.1), ((((((k + 1) + 1) + 1) + (cntL cntInt (x.2.2.2.1) : Int)) + (cntL cntInt (x.2.2.2.2.1) : Int)) + (cntL cntBool (x.2.2.2.2.2.1) : Int)), (((((((k + 1) + 1) + 1) + (cntL cntInt (x.2.2.2.1) : Int)) + (cntL cntInt (x.2.2.2.2.1) : Int)) + (cntL cntBool (x.2.2.2.2.2.1) : Int)) + 1), ((((((((k + 1) + 1) + 1) + (cntL cntInt (x.2.2.2.1) : Int)) + (cntL cntInt (x.2.2.2.2.1) : Int)) + (cntL cntBool (x.2.2.2.2.2.1) : Int)) + 1) + 1), (((((((((k + 1) + 1) + 1) + (cntL cntInt (x.2.2.2.1) : Int)) + (cntL cntInt (x.2.2.2.2.1) : Int)) + (cntL cntBool (x.2.2.2.2.2.1) : Int)) + 1) + 1) + 1), (((((((((((k + 1) + 1) + 1) + (cntL cntInt (x.2.2.2.1) : Int)) + (cntL cntInt (x.2.2.2.2.1) : Int)) + (cntL cntBool (x.2.2.2.2.2.1) : Int)) + 1) + 1) + 1) + 1) % 3 == 0))
theorem Frame_ownx {w : World} {F : List Nat} {cs : List Value} {x : Frame} (h : FrameR.own w F cs x) : ∃ x0 x1 x2 A3 n3 c3 s3 A4 n4 c4 s4 A5 n5 c5 s5 x6 x7 x8 x9 y10 F3 F4 F5, cs = ([.int .i64 x0, .int .i64 x1, .int .i64 x2, .slice A3 n3 c3, .slice A4 n4 c4, .slice A5 n5 c5, .int .i64 x6, .int .i64 x7, .int .i64 x8, .int .i64 x9, .bool y10] : List Value) ∧ x = (x0, x1, x2, s3, s4, s5, x6, x7, x8, x9, y10) ∧ F = (F3 ++ (F4 ++ F5)) ∧ ((F3 ++ (F4 ++ F5)) : List Nat).Nodup ∧ I64 x0 ∧ I64 x1 ∧ I64 x2 ∧ OwnSl intR w 3 F3 (.slice A3 n3 c3) s3 ∧ OwnSl intR w 3 F4 (.slice A4 n4 c4) s4 ∧ OwnSl boolR w 4 F5 (.slice A5 n5 c5) s5 ∧ I64 x6 ∧ I64 x7 ∧ I64 x8 ∧ I64 x9 := by
  obtain ⟨_, _, _, _, rfl, rfl, ⟨rfl, rfl, i0⟩, ⟨_, _, _, _, rfl, rfl, ⟨rfl, rfl, i1⟩, ⟨_, _, _, _, rfl, rfl, ⟨rfl, rfl, i2⟩, ⟨_, _, F3, _, rfl, rfl, ⟨A3, n3, c3, rfl, o3⟩, ⟨_, _, F4, _, rfl, rfl, ⟨A4, n4, c4, rfl, o4⟩, ⟨_, _, F5, _, rfl, rfl, ⟨A5, n5, c5, rfl, o5⟩, ⟨_, _, _, _, rfl, rfl, ⟨rfl, rfl, i6⟩, ⟨_, _, _, _, rfl, rfl, ⟨rfl, rfl, i7⟩, ⟨_, _, _, _, rfl, rfl, ⟨rfl, rfl, i8⟩, ⟨_, _, _, _, rfl, rfl, ⟨rfl, rfl, i9⟩, ⟨rfl, rfl, _⟩, nd9⟩, nd8⟩, nd7⟩, nd6⟩, nd5⟩, nd4⟩, nd3⟩, nd2⟩, nd1⟩, nd0⟩ := h
  exact ⟨x.1, x.2.1, x.2.2.1, A3, n3, c3, x.2.2.2.1, A4, n4, c4, x.2.2.2.2.1, A5, n5, c5, x.2.2.2.2.2.1, x.2.2.2.2.2.2.1, x.2.2.2.2.2.2.2.1, x.2.2.2.2.2.2.2.2.1, x.2.2.2.2.2.2.2.2.2.1, x.2.2.2.2.2.2.2.2.2.2, F3, F4, F5, rfl, rfl, by simp, by simpa using nd0, i0, i1, i2, o3, o4, o5, i6, i7, i8, i9⟩
set_option maxHeartbeats 2000000 in
theorem mkFrames (w : World) (n c : Nat) (A : Option Addr) (F : List Nat) (l : List Frame) (k : Int) (h : OwnSl FrameR w 127 F (.slice A n c) l) (h1 : 0 ≤ k) (h2 : k + (cntL cntFrame l : Int) ≤ 1152921504606846976) :
    Calls Try.prog 90 #[.slice A n c, .int .i64 k] w (RetMk FrameR 127 mkFrame cntFrame l k F (.slice A n c) w) := by
  obtain ⟨_, hx, _, hl⟩ := h.row'
  have bn : n ≤ 9223372036854775807 := by obtain ⟨_, ⟨_, h0, _⟩ | ⟨_, _, h3, h4⟩⟩ := ownsRow_cases hx <;> omega
  clear hx
  go_enter Try.func90, Try.ntmps90
  go_wp2_with fail
  go_loopw [1, 5] (fun kk i wr => ∃ (j : Nat) (K : Int), j ≤ n ∧ i = .int .i64 j ∧ kk = .int .i64 K ∧ K = k + (cntL cntFrame (l.take j) : Int) ∧ OwnSl FrameR wr 127 F (.slice A n c) (mkL mkFrame cntFrame k (l.take j) ++ l.drop j) ∧ Fr F w wr) (fun _ i _ => n - (intOf i).toNat)
  case atStart => exact ⟨0, k, Nat.zero_le _, rfl, rfl, by simp [cntL], by simpa [mkL] using h, Fr.refl _ _⟩
  case round =>
    obtain ⟨j, K, hj, rfl, rfl, hK0, ho, hb⟩ := hrel
    have hK := Lib.hid hK0
    have hk0 : 0 ≤ K := by omega
    clear hK0
    by_cases hlt : j < n
    · have hjl : j < l.length := by omega
      have c1 := cntL_succ (cnt := cntFrame) hjl
      have c2 := cntL_take_le (cnt := cntFrame) l (j + 1)
      have hk2 : K + (cntFrame l[j] : Int) ≤ 1152921504606846976 := by have := hK.out; omega
      have hK1 := Lib.hid (show K + (cntFrame l[j] : Int) = k + (cntL cntFrame (l.take (j + 1)) : Int) by have := hK.out; omega)
      clear c1 c2
      obtain ⟨g, pre, cs, post, Fj, hA, hn0, hpre, hown, hrow, hgF, hgj, hsub0, put0⟩ := ho.focus (by decide) (j := j) (by simp [mkL_len]; omega)
      clear hn0
      subst hA
      rw [mkL_at hjl] at hown
      have hsub := Lib.hid hsub0
      clear hsub0
      have put := Lib.hid put0
      have hltF := Lib.hid ho.lt
      clear put0 ho
      obtain ⟨x0, x1, x2, A3, n3, c3, s3, A4, n4, c4, s4, A5, n5, c5, s5, x6, x7, x8, x9, y10, F3, F4, F5, rfl, hx0, rfl, hnd, _, _, _, o3, o4, o5, _, _, _, _⟩ := Frame_ownx hown
      have hx := Lib.hid hx0
      rw [hx0] at hk2
      simp only [cntFrame] at hk2
      clear hx0 hown
      have hpreH : Hid (pre.length = j * 11) := hpre
      clear hpre
      have r0 := hrow
      have g3 : g ∉ F3 := fun hh => hgj (by simp [hh])
      have g4 : g ∉ F4 := fun hh => hgj (by simp [hh])
      have g5 : g ∉ F5 := fun hh => hgj (by simp [hh])
      have D34 : ∀ z, z ∈ F3 → z ∉ F4 := fun z h1 h2 => (List.nodup_append.1 hnd).2.2 z h1 z (List.mem_append_left _ h2) rfl
      have D43 : ∀ z, z ∈ F4 → z ∉ F3 := fun z h1 h2 => D34 z h2 h1
      have D35 : ∀ z, z ∈ F3 → z ∉ F5 := fun z h1 h2 => (List.nodup_append.1 hnd).2.2 z h1 z (List.mem_append_right _ h2) rfl
      have D53 : ∀ z, z ∈ F5 → z ∉ F3 := fun z h1 h2 => D35 z h2 h1
      have D45 : ∀ z, z ∈ F4 → z ∉ F5 := fun z h1 h2 => (List.nodup_append.1 (List.nodup_append.1 hnd).2.1).2.2 z h1 z h2 rfl
      have D54 : ∀ z, z ∈ F5 → z ∉ F4 := fun z h1 h2 => D45 z h2 h1
      have fa : Fr (g :: (F3 ++ (F4 ++ F5))) wr wr := Fr.refl _ _
      have u0 : wr.cell? ⟨g, j * 11, none⟩ = some (.int .i64 x0) := rowCell hrow hpreH.out (i := 0) (by simp)
      have u1 : wr.cell? ⟨g, j * 11 + 1, none⟩ = some (.int .i64 x1) := rowCell hrow hpreH.out (i := 1) (by simp)
      have u2 : wr.cell? ⟨g, j * 11 + 2, none⟩ = some (.int .i64 x2) := rowCell hrow hpreH.out (i := 2) (by simp)
      have u3 : wr.cell? ⟨g, j * 11 + 3, none⟩ = some (.slice A3 n3 c3) := rowCell hrow hpreH.out (i := 3) (by simp)
      have u4 : wr.cell? ⟨g, j * 11 + 4, none⟩ = some (.slice A4 n4 c4) := rowCell hrow hpreH.out (i := 4) (by simp)
      have u5 : wr.cell? ⟨g, j * 11 + 5, none⟩ = some (.slice A5 n5 c5) := rowCell hrow hpreH.out (i := 5) (by simp)
      have u6 : wr.cell? ⟨g, j * 11 + 6, none⟩ = some (.int .i64 x6) := rowCell hrow hpreH.out (i := 6) (by simp)
      have u7 : wr.cell? ⟨g, j * 11 + 7, none⟩ = some (.int .i64 x7) := rowCell hrow hpreH.out (i := 7) (by simp)
      have u8 : wr.cell? ⟨g, j * 11 + 8, none⟩ = some (.int .i64 x8) := rowCell hrow hpreH.out (i := 8) (by simp)
      have u9 : wr.cell? ⟨g, j * 11 + 9, none⟩ = some (.int .i64 x9) := rowCell hrow hpreH.out (i := 9) (by simp)
      have u10 : wr.cell? ⟨g, j * 11 + 10, none⟩ = some (.bool y10) := rowCell hrow hpreH.out (i := 10) (by simp)
      have v0 := hrow.frozenAt (j * 11)
      have v1 := hrow.frozenAt (j * 11 + 1)
      have v2 := hrow.frozenAt (j * 11 + 2)
      have v3 := hrow.frozenAt (j * 11 + 3)
      have v4 := hrow.frozenAt (j * 11 + 4)
      have v5 := hrow.frozenAt (j * 11 + 5)
      have v6 := hrow.frozenAt (j * 11 + 6)
      have v7 := hrow.frozenAt (j * 11 + 7)
      have v8 := hrow.frozenAt (j * 11 + 8)
      have v9 := hrow.frozenAt (j * 11 + 9)
      have v10 := hrow.frozenAt (j * 11 + 10)
      have r1 := rowSet r0 hpreH.out (i := 0) (by simp) (.int .i64 K)
      simp only [List.set_cons_zero, List.set_cons_succ] at r1
      have r2 := rowSet r1 hpreH.out (i := 1) (by simp) (.int .i64 (K + 1))
      simp only [List.set_cons_zero, List.set_cons_succ] at r2
      have r3 := rowSet r2 hpreH.out (i := 2) (by simp) (.int .i64 (K + 1 + 1))
      simp only [List.set_cons_zero, List.set_cons_succ] at r3
      go_wp2_with fail
      refine (mkInts _ n3 c3 A3 F3 s3 (K + 1 + 1 + 1) (o3.fr (G := [g]) (by (repeat (first | with_reducible exact Fr.refl _ _ | with_reducible assumption | ((with_reducible refine Fr.setCell ?_ ?_ _); rotate_left; (· first | (simp; done) | assumption | (simp; assumption))) | with_reducible refine Fr.drewN ?_ _ | with_reducible refine Fr.drew ?_ | with_reducible refine Fr.alloc ?_ _ | with_reducible refine Fr.trans ?_ (Fr.of_below (by with_reducible assumption))))) (fun q hq hq' => by simp at hq'; subst hq'; exact g3 hq)) (by omega) (by omega)).mono ?_
      rintro e w3 ⟨k3, rfl, hk30, o3, f3⟩
      have z3 : K + 1 + 1 + 1 ≤ k3 := by omega
      have hq3 := Lib.hid hk30
      have y3 : k3 + (cntL cntInt s4 + cntL cntBool s5 + 1 + 1 + 1 + 1 + 1 : Nat) ≤ 1152921504606846976 := by omega
      clear hk30
      replace fa : Fr (g :: (F3 ++ (F4 ++ F5))) wr w3 := fr_then (f3.more (fun q hq => List.mem_cons_of_mem _ (by simp [hq]))) (by (repeat (first | with_reducible exact Fr.refl _ _ | with_reducible assumption | ((with_reducible refine Fr.setCell ?_ ?_ _); rotate_left; (· first | (simp; done) | assumption | (simp; assumption))) | with_reducible refine Fr.drewN ?_ _ | with_reducible refine Fr.drew ?_ | with_reducible refine Fr.alloc ?_ _ | with_reducible refine Fr.trans ?_ (Fr.of_below (by with_reducible assumption)))))
      replace o4 := o4.fr2 f3 (G := [g]) (by (repeat (first | with_reducible exact Fr.refl _ _ | with_reducible assumption | ((with_reducible refine Fr.setCell ?_ ?_ _); rotate_left; (· first | (simp; done) | assumption | (simp; assumption))) | with_reducible refine Fr.drewN ?_ _ | with_reducible refine Fr.drew ?_ | with_reducible refine Fr.alloc ?_ _ | with_reducible refine Fr.trans ?_ (Fr.of_below (by with_reducible assumption))))) (fun q hq hq' => by simp at hq'; subst hq'; exact g4 hq) D43
      replace o5 := o5.fr2 f3 (G := [g]) (by (repeat (first | with_reducible exact Fr.refl _ _ | with_reducible assumption | ((with_reducible refine Fr.setCell ?_ ?_ _); rotate_left; (· first | (simp; done) | assumption | (simp; assumption))) | with_reducible refine Fr.drewN ?_ _ | with_reducible refine Fr.drew ?_ | with_reducible refine Fr.alloc ?_ _ | with_reducible refine Fr.trans ?_ (Fr.of_below (by with_reducible assumption))))) (fun q hq hq' => by simp at hq'; subst hq'; exact g5 hq) D53
      have r4 := row_fr r3 f3 g3
      clear u0 v0 u1 v1 u2 v2 u3 v3 u4 v4 u5 v5 u6 v6 u7 v7 u8 v8 u9 v9 u10 v10
      have u0 : w3.cell? ⟨g, j * 11, none⟩ = some (.int .i64 K) := rowCell r4 hpreH.out (i := 0) (by simp)
      have u1 : w3.cell? ⟨g, j * 11 + 1, none⟩ = some (.int .i64 (K + 1)) := rowCell r4 hpreH.out (i := 1) (by simp)
      have u2 : w3.cell? ⟨g, j * 11 + 2, none⟩ = some (.int .i64 (K + 1 + 1)) := rowCell r4 hpreH.out (i := 2) (by simp)
      have u3 : w3.cell? ⟨g, j * 11 + 3, none⟩ = some (.slice A3 n3 c3) := rowCell r4 hpreH.out (i := 3) (by simp)
      have u4 : w3.cell? ⟨g, j * 11 + 4, none⟩ = some (.slice A4 n4 c4) := rowCell r4 hpreH.out (i := 4) (by simp)
      have u5 : w3.cell? ⟨g, j * 11 + 5, none⟩ = some (.slice A5 n5 c5) := rowCell r4 hpreH.out (i := 5) (by simp)
      have u6 : w3.cell? ⟨g, j * 11 + 6, none⟩ = some (.int .i64 x6) := rowCell r4 hpreH.out (i := 6) (by simp)
      have u7 : w3.cell? ⟨g, j * 11 + 7, none⟩ = some (.int .i64 x7) := rowCell r4 hpreH.out (i := 7) (by simp)
      have u8 : w3.cell? ⟨g, j * 11 + 8, none⟩ = some (.int .i64 x8) := rowCell r4 hpreH.out (i := 8) (by simp)
      have u9 : w3.cell? ⟨g, j * 11 + 9, none⟩ = some (.int .i64 x9) := rowCell r4 hpreH.out (i := 9) (by simp)
      have u10 : w3.cell? ⟨g, j * 11 + 10, none⟩ = some (.bool y10) := rowCell r4 hpreH.out (i := 10) (by simp)
      have v0 := r4.frozenAt (j * 11)
      have v1 := r4.frozenAt (j * 11 + 1)
      have v2 := r4.frozenAt (j * 11 + 2)
      have v3 := r4.frozenAt (j * 11 + 3)
      have v4 := r4.frozenAt (j * 11 + 4)
      have v5 := r4.frozenAt (j * 11 + 5)
      have v6 := r4.frozenAt (j * 11 + 6)
      have v7 := r4.frozenAt (j * 11 + 7)
      have v8 := r4.frozenAt (j * 11 + 8)
      have v9 := r4.frozenAt (j * 11 + 9)
      have v10 := r4.frozenAt (j * 11 + 10)
      go_wp2_with fail
      refine (mkInts _ n4 c4 A4 F4 s4 (k3) (o4.fr (G := [g]) (by (repeat (first | with_reducible exact Fr.refl _ _ | with_reducible assumption | ((with_reducible refine Fr.setCell ?_ ?_ _); rotate_left; (· first | (simp; done) | assumption | (simp; assumption))) | with_reducible refine Fr.drewN ?_ _ | with_reducible refine Fr.drew ?_ | with_reducible refine Fr.alloc ?_ _ | with_reducible refine Fr.trans ?_ (Fr.of_below (by with_reducible assumption))))) (fun q hq hq' => by simp at hq'; subst hq'; exact g4 hq)) (by omega) (by omega)).mono ?_
      rintro e w4 ⟨k4, rfl, hk40, o4, f4⟩
      have z4 : k3 ≤ k4 := by omega
      have hq4 := Lib.hid hk40
      have y4 : k4 + (cntL cntBool s5 + 1 + 1 + 1 + 1 + 1 : Nat) ≤ 1152921504606846976 := by omega
      clear hk40
      replace fa : Fr (g :: (F3 ++ (F4 ++ F5))) wr w4 := fr_then (f4.more (fun q hq => List.mem_cons_of_mem _ (by simp [hq]))) (by (repeat (first | with_reducible exact Fr.refl _ _ | with_reducible assumption | ((with_reducible refine Fr.setCell ?_ ?_ _); rotate_left; (· first | (simp; done) | assumption | (simp; assumption))) | with_reducible refine Fr.drewN ?_ _ | with_reducible refine Fr.drew ?_ | with_reducible refine Fr.alloc ?_ _ | with_reducible refine Fr.trans ?_ (Fr.of_below (by with_reducible assumption)))))
      replace o3 := o3.fr2 f4 (G := [g]) (by (repeat (first | with_reducible exact Fr.refl _ _ | with_reducible assumption | ((with_reducible refine Fr.setCell ?_ ?_ _); rotate_left; (· first | (simp; done) | assumption | (simp; assumption))) | with_reducible refine Fr.drewN ?_ _ | with_reducible refine Fr.drew ?_ | with_reducible refine Fr.alloc ?_ _ | with_reducible refine Fr.trans ?_ (Fr.of_below (by with_reducible assumption))))) (fun q hq hq' => by simp at hq'; subst hq'; exact g3 hq) D34
      replace o5 := o5.fr2 f4 (G := [g]) (by (repeat (first | with_reducible exact Fr.refl _ _ | with_reducible assumption | ((with_reducible refine Fr.setCell ?_ ?_ _); rotate_left; (· first | (simp; done) | assumption | (simp; assumption))) | with_reducible refine Fr.drewN ?_ _ | with_reducible refine Fr.drew ?_ | with_reducible refine Fr.alloc ?_ _ | with_reducible refine Fr.trans ?_ (Fr.of_below (by with_reducible assumption))))) (fun q hq hq' => by simp at hq'; subst hq'; exact g5 hq) D54
      have r5 := row_fr r4 f4 g4
      clear u0 v0 u1 v1 u2 v2 u3 v3 u4 v4 u5 v5 u6 v6 u7 v7 u8 v8 u9 v9 u10 v10
      have u0 : w4.cell? ⟨g, j * 11, none⟩ = some (.int .i64 K) := rowCell r5 hpreH.out (i := 0) (by simp)
      have u1 : w4.cell? ⟨g, j * 11 + 1, none⟩ = some (.int .i64 (K + 1)) := rowCell r5 hpreH.out (i := 1) (by simp)
      have u2 : w4.cell? ⟨g, j * 11 + 2, none⟩ = some (.int .i64 (K + 1 + 1)) := rowCell r5 hpreH.out (i := 2) (by simp)
      have u3 : w4.cell? ⟨g, j * 11 + 3, none⟩ = some (.slice A3 n3 c3) := rowCell r5 hpreH.out (i := 3) (by simp)
      have u4 : w4.cell? ⟨g, j * 11 + 4, none⟩ = some (.slice A4 n4 c4) := rowCell r5 hpreH.out (i := 4) (by simp)
      have u5 : w4.cell? ⟨g, j * 11 + 5, none⟩ = some (.slice A5 n5 c5) := rowCell r5 hpreH.out (i := 5) (by simp)
      have u6 : w4.cell? ⟨g, j * 11 + 6, none⟩ = some (.int .i64 x6) := rowCell r5 hpreH.out (i := 6) (by simp)
      have u7 : w4.cell? ⟨g, j * 11 + 7, none⟩ = some (.int .i64 x7) := rowCell r5 hpreH.out (i := 7) (by simp)
      have u8 : w4.cell? ⟨g, j * 11 + 8, none⟩ = some (.int .i64 x8) := rowCell r5 hpreH.out (i := 8) (by simp)
      have u9 : w4.cell? ⟨g, j * 11 + 9, none⟩ = some (.int .i64 x9) := rowCell r5 hpreH.out (i := 9) (by simp)
      have u10 : w4.cell? ⟨g, j * 11 + 10, none⟩ = some (.bool y10) := rowCell r5 hpreH.out (i := 10) (by simp)
      have v0 := r5.frozenAt (j * 11)
      have v1 := r5.frozenAt (j * 11 + 1)
      have v2 := r5.frozenAt (j * 11 + 2)
      have v3 := r5.frozenAt (j * 11 + 3)
      have v4 := r5.frozenAt (j * 11 + 4)
      have v5 := r5.frozenAt (j * 11 + 5)
      have v6 := r5.frozenAt (j * 11 + 6)
      have v7 := r5.frozenAt (j * 11 + 7)
      have v8 := r5.frozenAt (j * 11 + 8)
      have v9 := r5.frozenAt (j * 11 + 9)
      have v10 := r5.frozenAt (j * 11 + 10)
      go_wp2_with fail
      refine (mkBools _ n5 c5 A5 F5 s5 (k4) (o5.fr (G := [g]) (by (repeat (first | with_reducible exact Fr.refl _ _ | with_reducible assumption | ((with_reducible refine Fr.setCell ?_ ?_ _); rotate_left; (· first | (simp; done) | assumption | (simp; assumption))) | with_reducible refine Fr.drewN ?_ _ | with_reducible refine Fr.drew ?_ | with_reducible refine Fr.alloc ?_ _ | with_reducible refine Fr.trans ?_ (Fr.of_below (by with_reducible assumption))))) (fun q hq hq' => by simp at hq'; subst hq'; exact g5 hq)) (by omega) (by omega)).mono ?_
      rintro e w5 ⟨k5, rfl, hk50, o5, f5⟩
      have z5 : k4 ≤ k5 := by omega
      have hq5 := Lib.hid hk50
      have y5 : k5 + (1 + 1 + 1 + 1 + 1 : Nat) ≤ 1152921504606846976 := by omega
      clear hk50
      replace fa : Fr (g :: (F3 ++ (F4 ++ F5))) wr w5 := fr_then (f5.more (fun q hq => List.mem_cons_of_mem _ (by simp [hq]))) (by (repeat (first | with_reducible exact Fr.refl _ _ | with_reducible assumption | ((with_reducible refine Fr.setCell ?_ ?_ _); rotate_left; (· first | (simp; done) | assumption | (simp; assumption))) | with_reducible refine Fr.drewN ?_ _ | with_reducible refine Fr.drew ?_ | with_reducible refine Fr.alloc ?_ _ | with_reducible refine Fr.trans ?_ (Fr.of_below (by with_reducible assumption)))))
      replace o3 := o3.fr2 f5 (G := [g]) (by (repeat (first | with_reducible exact Fr.refl _ _ | with_reducible assumption | ((with_reducible refine Fr.setCell ?_ ?_ _); rotate_left; (· first | (simp; done) | assumption | (simp; assumption))) | with_reducible refine Fr.drewN ?_ _ | with_reducible refine Fr.drew ?_ | with_reducible refine Fr.alloc ?_ _ | with_reducible refine Fr.trans ?_ (Fr.of_below (by with_reducible assumption))))) (fun q hq hq' => by simp at hq'; subst hq'; exact g3 hq) D35
      replace o4 := o4.fr2 f5 (G := [g]) (by (repeat (first | with_reducible exact Fr.refl _ _ | with_reducible assumption | ((with_reducible refine Fr.setCell ?_ ?_ _); rotate_left; (· first | (simp; done) | assumption | (simp; assumption))) | with_reducible refine Fr.drewN ?_ _ | with_reducible refine Fr.drew ?_ | with_reducible refine Fr.alloc ?_ _ | with_reducible refine Fr.trans ?_ (Fr.of_below (by with_reducible assumption))))) (fun q hq hq' => by simp at hq'; subst hq'; exact g4 hq) D45
      have r6 := row_fr r5 f5 g5
      clear u0 v0 u1 v1 u2 v2 u3 v3 u4 v4 u5 v5 u6 v6 u7 v7 u8 v8 u9 v9 u10 v10
      have u0 : w5.cell? ⟨g, j * 11, none⟩ = some (.int .i64 K) := rowCell r6 hpreH.out (i := 0) (by simp)
      have u1 : w5.cell? ⟨g, j * 11 + 1, none⟩ = some (.int .i64 (K + 1)) := rowCell r6 hpreH.out (i := 1) (by simp)
      have u2 : w5.cell? ⟨g, j * 11 + 2, none⟩ = some (.int .i64 (K + 1 + 1)) := rowCell r6 hpreH.out (i := 2) (by simp)
      have u3 : w5.cell? ⟨g, j * 11 + 3, none⟩ = some (.slice A3 n3 c3) := rowCell r6 hpreH.out (i := 3) (by simp)
      have u4 : w5.cell? ⟨g, j * 11 + 4, none⟩ = some (.slice A4 n4 c4) := rowCell r6 hpreH.out (i := 4) (by simp)
      have u5 : w5.cell? ⟨g, j * 11 + 5, none⟩ = some (.slice A5 n5 c5) := rowCell r6 hpreH.out (i := 5) (by simp)
      have u6 : w5.cell? ⟨g, j * 11 + 6, none⟩ = some (.int .i64 x6) := rowCell r6 hpreH.out (i := 6) (by simp)
      have u7 : w5.cell? ⟨g, j * 11 + 7, none⟩ = some (.int .i64 x7) := rowCell r6 hpreH.out (i := 7) (by simp)
      have u8 : w5.cell? ⟨g, j * 11 + 8, none⟩ = some (.int .i64 x8) := rowCell r6 hpreH.out (i := 8) (by simp)
      have u9 : w5.cell? ⟨g, j * 11 + 9, none⟩ = some (.int .i64 x9) := rowCell r6 hpreH.out (i := 9) (by simp)
      have u10 : w5.cell? ⟨g, j * 11 + 10, none⟩ = some (.bool y10) := rowCell r6 hpreH.out (i := 10) (by simp)
      have v0 := r6.frozenAt (j * 11)
      have v1 := r6.frozenAt (j * 11 + 1)
      have v2 := r6.frozenAt (j * 11 + 2)
      have v3 := r6.frozenAt (j * 11 + 3)
      have v4 := r6.frozenAt (j * 11 + 4)
      have v5 := r6.frozenAt (j * 11 + 5)
      have v6 := r6.frozenAt (j * 11 + 6)
      have v7 := r6.frozenAt (j * 11 + 7)
      have v8 := r6.frozenAt (j * 11 + 8)
      have v9 := r6.frozenAt (j * 11 + 9)
      have v10 := r6.frozenAt (j * 11 + 10)
      have r7 := rowSet r6 hpreH.out (i := 6) (by simp) (.int .i64 k5)
      simp only [List.set_cons_zero, List.set_cons_succ] at r7
      have r8 := rowSet r7 hpreH.out (i := 7) (by simp) (.int .i64 (k5 + 1))
      simp only [List.set_cons_zero, List.set_cons_succ] at r8
      have r9 := rowSet r8 hpreH.out (i := 8) (by simp) (.int .i64 (k5 + 1 + 1))
      simp only [List.set_cons_zero, List.set_cons_succ] at r9
      have r10 := rowSet r9 hpreH.out (i := 9) (by simp) (.int .i64 (k5 + 1 + 1 + 1))
      simp only [List.set_cons_zero, List.set_cons_succ] at r10
      have r11 := rowSet r10 hpreH.out (i := 10) (by simp) (.bool ((k5 + 1 + 1 + 1 + 1) % 3 == 0))
      simp only [List.set_cons_zero, List.set_cons_succ] at r11
      have hfin := Lib.hid (show mkFrame K l[j] = (K, (K + 1), (K + 1 + 1), mkL mkInt cntInt (K + 1 + 1 + 1) s3, mkL mkInt cntInt k3 s4, mkL mkBool cntBool k4 s5, k5, (k5 + 1), (k5 + 1 + 1), (k5 + 1 + 1 + 1), ((k5 + 1 + 1 + 1 + 1) % 3 == 0)) by rw [hx.out]; simp only [mkFrame, ← hq3.out, ← hq4.out, ← hq5.out])
      have hcnt := Lib.hid (show k5 + 1 + 1 + 1 + 1 + 1 = K + (cntFrame l[j] : Int) by rw [hx.out]; simp only [cntFrame]; have a3 := hq3.out; have a4 := hq4.out; have a5 := hq5.out; omega)
      have fin : ∀ W : World, W.ownsRow 0 127 11 (.slice (some ⟨g, 0, none⟩) n c) n (pre ++ [.int .i64 K, .int .i64 (K + 1), .int .i64 (K + 1 + 1), .slice A3 n3 c3, .slice A4 n4 c4, .slice A5 n5 c5, .int .i64 k5, .int .i64 (k5 + 1), .int .i64 (k5 + 1 + 1), .int .i64 (k5 + 1 + 1 + 1), .bool ((k5 + 1 + 1 + 1 + 1) % 3 == 0)] ++ post) → Fr [g] w5 W → OwnSl FrameR W 127 F (.slice (some ⟨g, 0, none⟩) n c) (mkL mkFrame cntFrame k (l.take (j + 1)) ++ l.drop (j + 1)) := by
        intro W hr hf
        have hall : Fr (g :: (F3 ++ (F4 ++ F5))) wr W := fr_then (hf.more (fun z hz => by simp at hz; subst hz; exact List.mem_cons_self ..)) fa
        have := put.out W _ (mkFrame K l[j]) (by rw [hfin.out]; exact Frame_own (o3.fr hf (fun q hq hq' => by simp at hq'; subst hq'; exact g3 hq)) (o4.fr hf (fun q hq hq' => by simp at hq'; subst hq'; exact g4 hq)) (o5.fr hf (fun q hq hq' => by simp at hq'; subst hq'; exact g5 hq)) ⟨by omega, by omega⟩ ⟨by omega, by omega⟩ ⟨by omega, by omega⟩ ⟨by omega, by omega⟩ ⟨by omega, by omega⟩ ⟨by omega, by omega⟩ ⟨by omega, by omega⟩ hnd) hr (fun q hq hne hnot => hall.block q (hltF.out q hq) (fun hx => by rcases List.mem_cons.1 hx with hx | hx; exact hne hx; exact hnot hx))
        have e1 := hK.out
        rw [e1, mkL_step hjl] at this
        exact this
      have hbF : Fr F w w5 := fr_then (fa.more (fun q hq => by rcases List.mem_cons.1 hq with rfl | hq; exact hgF; exact hsub.out q hq)) hb
      have finH := Lib.hid fin
      clear fin
      go_wp2_with fail
      go_roundw
      case rel => exact ⟨j + 1, _, by omega, by go_num, rfl, by rw [← hK1.out, ← hcnt.out], finH.out _ r11 (by (repeat (first | with_reducible exact Fr.refl _ _ | with_reducible assumption | ((with_reducible refine Fr.setCell ?_ ?_ _); rotate_left; (· first | (simp; done) | assumption | (simp; assumption))) | with_reducible refine Fr.drewN ?_ _ | with_reducible refine Fr.drew ?_ | with_reducible refine Fr.alloc ?_ _ | with_reducible refine Fr.trans ?_ (Fr.of_below (by with_reducible assumption))))), by (repeat (first | with_reducible exact Fr.refl _ _ | with_reducible assumption | ((with_reducible refine Fr.setCell ?_ ?_ _); rotate_left; (· first | (simp; done) | assumption | (simp; assumption))) | with_reducible refine Fr.drewN ?_ _ | with_reducible refine Fr.drew ?_ | with_reducible refine Fr.alloc ?_ _ | with_reducible refine Fr.trans ?_ (Fr.of_below (by with_reducible assumption))))⟩
      case measure => simp [intOf]; omega
    · have hjn := Lib.hid (show j = n by omega)
      have e1 : mkL mkFrame cntFrame k (l.take j) ++ l.drop j = mkL mkFrame cntFrame k l := by rw [List.take_of_length_le (by omega), List.drop_of_length_le (by omega), List.append_nil]
      rw [e1] at ho
      clear e1
      rw [List.take_of_length_le (by omega)] at hK
      go_wp2_with fail
      go_ret
      exact ⟨_, rfl, hK.out, ho, hb⟩
end Go.Proofs.Ytfilenabhjjidaa
