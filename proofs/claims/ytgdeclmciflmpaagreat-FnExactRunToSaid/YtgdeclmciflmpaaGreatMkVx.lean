/- Several texts in one: MkNote, MkFrame, MkVm, OcNote, OcFrame, OcVm, HdNote, HdFrame, HdVm. -/
import Derived.Test.YtgdeclmciflmpaaGreatKit1
import Derived.Test.YtgdeclmciflmpaaGreatTyVx

/- Marks over slices of Note. Printed by markgen.py. Walks. -/
set_option linter.unusedVariables false
set_option linter.unusedSimpArgs false
set_option linter.unnecessarySimpa false
set_option maxRecDepth 100000
namespace Go.Proofs.YtgdeclmciflmpaaGreat
open Go.RowKit

def cntNote (x : Note) : Nat := 1 + 1 + 1
def mkNote (k : Int) (x : Note) : Note := (k, (k + 1), ((k + 1) + 1))
theorem Note_ownx {w : World} {F : List Nat} {cs : List Value} {x : Note} (h : noteR.own w F cs x) : ∃ x0 x1 x2, cs = ([.int .i64 x0, .int .i64 x1, .int .i64 x2] : List Value) ∧ x = (x0, x1, x2) ∧ F = [] ∧ ([] : List Nat).Nodup ∧ I64 x0 ∧ I64 x1 ∧ I64 x2 := by
  obtain ⟨_, _, _, _, rfl, rfl, ⟨rfl, rfl, i0⟩, ⟨_, _, _, _, rfl, rfl, ⟨rfl, rfl, i1⟩, ⟨rfl, rfl, i2⟩, nd1⟩, nd0⟩ := h
  exact ⟨x.1, x.2.1, x.2.2, rfl, rfl, by simp, by simpa using nd0, i0, i1, i2⟩
set_option maxHeartbeats 2000000 in
theorem mkNotes (w : World) (n c : Nat) (A : Option Addr) (F : List Nat) (l : List Note) (k : Int) (h : OwnSl noteR w 97 F (.slice A n c) l) (h1 : 0 ≤ k) (h2 : k + (cntL cntNote l : Int) ≤ 1152921504606846976) :
    Calls Tryz.prog 34 #[.slice A n c, .int .i64 k] w (RetMk noteR 97 mkNote cntNote l k F (.slice A n c) w) := by
  obtain ⟨_, hx, _, hl⟩ := h.row'
  have bn : n ≤ 9223372036854775807 := by obtain ⟨_, ⟨_, h0, _⟩ | ⟨_, _, h3, h4⟩⟩ := ownsRow_cases hx <;> omega
  clear hx
  go_enter Tryz.func34, Tryz.ntmps34
  go_wp2_with fail
  go_loopw [1, 5] (fun kk i wr => ∃ (j : Nat) (K : Int), j ≤ n ∧ i = .int .i64 j ∧ kk = .int .i64 K ∧ K = k + (cntL cntNote (l.take j) : Int) ∧ OwnSl noteR wr 97 F (.slice A n c) (mkL mkNote cntNote k (l.take j) ++ l.drop j) ∧ Fr F w wr) (fun _ i _ => n - (intOf i).toNat)
  case atStart => exact ⟨0, k, Nat.zero_le _, rfl, rfl, by simp [cntL], by simpa [mkL] using h, Fr.refl _ _⟩
  case round =>
    obtain ⟨j, K, hj, rfl, rfl, hK0, ho, hb⟩ := hrel
    have hK := Lib.hid hK0
    have hk0 : 0 ≤ K := by omega
    clear hK0
    by_cases hlt : j < n
    · have hjl : j < l.length := by omega
      have c1 := cntL_succ (cnt := cntNote) hjl
      have c2 := cntL_take_le (cnt := cntNote) l (j + 1)
      have hk2 : K + (cntNote l[j] : Int) ≤ 1152921504606846976 := by have := hK.out; omega
      have hK1 := Lib.hid (show K + (cntNote l[j] : Int) = k + (cntL cntNote (l.take (j + 1)) : Int) by have := hK.out; omega)
      clear c1 c2
      obtain ⟨g, pre, cs, post, Fj, hA, hn0, hpre, hown, hrow, hgF, hgj, hsub0, put0⟩ := ho.focus (by decide) (j := j) (by simp [mkL_len]; omega)
      clear hn0
      subst hA
      rw [mkL_at hjl] at hown
      have hsub := Lib.hid hsub0
      clear hsub0
      have put := Lib.hid put0
      have hltF := Lib.hid ho.lt
      clear put0 ho
      obtain ⟨x0, x1, x2, rfl, hx0, rfl, hnd, _, _, _⟩ := Note_ownx hown
      have hx := Lib.hid hx0
      rw [hx0] at hk2
      simp only [cntNote] at hk2
      clear hx0 hown
      have hpreH : Hid (pre.length = j * 3) := hpre
      clear hpre
      have r0 := hrow
      have fa : Fr (g :: []) wr wr := Fr.refl _ _
      have u0 : wr.cell? ⟨g, j * 3, none⟩ = some (.int .i64 x0) := rowCell hrow hpreH.out (i := 0) (by simp)
      have u1 : wr.cell? ⟨g, j * 3 + 1, none⟩ = some (.int .i64 x1) := rowCell hrow hpreH.out (i := 1) (by simp)
      have u2 : wr.cell? ⟨g, j * 3 + 2, none⟩ = some (.int .i64 x2) := rowCell hrow hpreH.out (i := 2) (by simp)
      have v0 := hrow.frozenAt (j * 3)
      have v1 := hrow.frozenAt (j * 3 + 1)
      have v2 := hrow.frozenAt (j * 3 + 2)
      have r1 := rowSet r0 hpreH.out (i := 0) (by simp) (.int .i64 K)
      simp only [List.set_cons_zero, List.set_cons_succ] at r1
      have r2 := rowSet r1 hpreH.out (i := 1) (by simp) (.int .i64 (K + 1))
      simp only [List.set_cons_zero, List.set_cons_succ] at r2
      have r3 := rowSet r2 hpreH.out (i := 2) (by simp) (.int .i64 (K + 1 + 1))
      simp only [List.set_cons_zero, List.set_cons_succ] at r3
      have hfin := Lib.hid (show mkNote K l[j] = (K, (K + 1), (K + 1 + 1)) by rw [hx.out]; simp only [mkNote])
      have hcnt := Lib.hid (show K + 1 + 1 + 1 = K + (cntNote l[j] : Int) by rw [hx.out]; simp only [cntNote];  omega)
      have fin : ∀ W : World, W.ownsRow 0 97 3 (.slice (some ⟨g, 0, none⟩) n c) n (pre ++ [.int .i64 K, .int .i64 (K + 1), .int .i64 (K + 1 + 1)] ++ post) → Fr [g] wr W → OwnSl noteR W 97 F (.slice (some ⟨g, 0, none⟩) n c) (mkL mkNote cntNote k (l.take (j + 1)) ++ l.drop (j + 1)) := by
        intro W hr hf
        have hall : Fr (g :: []) wr W := fr_then (hf.more (fun z hz => by simp at hz; subst hz; exact List.mem_cons_self ..)) fa
        have := put.out W _ (mkNote K l[j]) (by rw [hfin.out]; exact Note_own _ _ _ _ ⟨by omega, by omega⟩ ⟨by omega, by omega⟩ ⟨by omega, by omega⟩) hr (fun q hq hne hnot => hall.block q (hltF.out q hq) (fun hx => by rcases List.mem_cons.1 hx with hx | hx; exact hne hx; exact hnot hx))
        have e1 := hK.out
        rw [e1, mkL_step hjl] at this
        exact this
      have finH := Lib.hid fin
      clear fin
      go_wp2_with fail
      go_roundw
      case rel => exact ⟨j + 1, _, by omega, by go_num, rfl, by rw [← hK1.out, ← hcnt.out], finH.out _ r3 (by exact frcA), by exact frcA⟩
      case measure => simp [intOf]; omega
    · have hjn := Lib.hid (show j = n by omega)
      have e1 : mkL mkNote cntNote k (l.take j) ++ l.drop j = mkL mkNote cntNote k l := by rw [List.take_of_length_le (by omega), List.drop_of_length_le (by omega), List.append_nil]
      rw [e1] at ho
      clear e1
      rw [List.take_of_length_le (by omega)] at hK
      go_wp2_with fail
      go_ret
      exact ⟨_, rfl, hK.out, ho, hb⟩
end Go.Proofs.YtgdeclmciflmpaaGreat

/- Marks over slices of Frame. Printed by markgen.py. Walks. -/
set_option linter.unusedVariables false
set_option linter.unusedSimpArgs false
set_option linter.unnecessarySimpa false
set_option maxRecDepth 100000
namespace Go.Proofs.YtgdeclmciflmpaaGreat
open Go.RowKit

def cntFrame (x : Frame) : Nat := 1 + 1 + 1 + cntL cntInt (x.2.2.2.1) + cntL cntInt (x.2.2.2.2.1) + cntL cntBool (x.2.2.2.2.2.1) + 1 + 1 + 1 + 1 + 1
def mkFrame (k : Int) (x : Frame) : Frame := (k, (k + 1), ((k + 1) + 1), mkL mkInt cntInt (((k + 1) + 1) + 1) (x.2.2.2.1), mkL mkInt cntInt ((((k + 1) + 1) + 1) + (cntL cntInt (x.2.2.2.1) : Int)) (x.2.2.2.2.1), mkL mkBool cntBool (((((k + 1) + 1) + 1) + (cntL cntInt (x.2.2.2.1) : Int)) + (cntL cntInt (x.2.2.2.2.1) : Int)) (x.2.2.2.2.2.1), ((((((k + 1) + 1) + 1) + (cntL cntInt (x.2.2.2.1) : Int)) + (cntL cntInt (x.2.2.2.2.1) : Int)) + (cntL cntBool (x.2.2.2.2.2.1) : Int)), (((((((k + 1) + 1) + 1) + (cntL cntInt (x.2.2.2.1) : Int)) + (cntL cntInt (x.2.2.2.2.1) : Int)) + (cntL cntBool (x.2.2.2.2.2.1) : Int)) + 1), ((((((((k + 1) + 1) + 1) + (cntL cntInt (x.2.2.2.1) : Int)) + (cntL cntInt (x.2.2.2.2.1) : Int)) + (cntL cntBool (x.2.2.2.2.2.1) : Int)) + 1) + 1), (((((((((k + 1) + 1) + 1) + (cntL cntInt (x.2.2.2.1) : Int)) + (cntL cntInt (x.2.2.2.2.1) : Int)) + (cntL cntBool (x.2.2.2.2.2.1) : Int)) + 1) + 1) + 1), (((((((((((k + 1) + 1) + 1) + (cntL cntInt (x.2.2.2.1) : Int)) + (cntL cntInt (x.2.2.2.2.1) : Int)) + (cntL cntBool (x.2.2.2.2.2.1) : Int)) + 1) + 1) + 1) + 1) % 3 == 0))
theorem Frame_ownx {w : World} {F : List Nat} {cs : List Value} {x : Frame} (h : FrameR.own w F cs x) : ∃ x0 x1 x2 A3 n3 c3 s3 A4 n4 c4 s4 A5 n5 c5 s5 x6 x7 x8 x9 y10 F3 F4 F5, cs = ([.int .i64 x0, .int .i64 x1, .int .i64 x2, .slice A3 n3 c3, .slice A4 n4 c4, .slice A5 n5 c5, .int .i64 x6, .int .i64 x7, .int .i64 x8, .int .i64 x9, .bool y10] : List Value) ∧ x = (x0, x1, x2, s3, s4, s5, x6, x7, x8, x9, y10) ∧ F = (F3 ++ (F4 ++ F5)) ∧ ((F3 ++ (F4 ++ F5)) : List Nat).Nodup ∧ I64 x0 ∧ I64 x1 ∧ I64 x2 ∧ OwnSl intR w 3 F3 (.slice A3 n3 c3) s3 ∧ OwnSl intR w 3 F4 (.slice A4 n4 c4) s4 ∧ OwnSl boolR w 4 F5 (.slice A5 n5 c5) s5 ∧ I64 x6 ∧ I64 x7 ∧ I64 x8 ∧ I64 x9 := by
  obtain ⟨_, _, _, _, rfl, rfl, ⟨rfl, rfl, i0⟩, ⟨_, _, _, _, rfl, rfl, ⟨rfl, rfl, i1⟩, ⟨_, _, _, _, rfl, rfl, ⟨rfl, rfl, i2⟩, ⟨_, _, F3, _, rfl, rfl, ⟨A3, n3, c3, rfl, o3⟩, ⟨_, _, F4, _, rfl, rfl, ⟨A4, n4, c4, rfl, o4⟩, ⟨_, _, F5, _, rfl, rfl, ⟨A5, n5, c5, rfl, o5⟩, ⟨_, _, _, _, rfl, rfl, ⟨rfl, rfl, i6⟩, ⟨_, _, _, _, rfl, rfl, ⟨rfl, rfl, i7⟩, ⟨_, _, _, _, rfl, rfl, ⟨rfl, rfl, i8⟩, ⟨_, _, _, _, rfl, rfl, ⟨rfl, rfl, i9⟩, ⟨rfl, rfl, _⟩, nd9⟩, nd8⟩, nd7⟩, nd6⟩, nd5⟩, nd4⟩, nd3⟩, nd2⟩, nd1⟩, nd0⟩ := h
  exact ⟨x.1, x.2.1, x.2.2.1, A3, n3, c3, x.2.2.2.1, A4, n4, c4, x.2.2.2.2.1, A5, n5, c5, x.2.2.2.2.2.1, x.2.2.2.2.2.2.1, x.2.2.2.2.2.2.2.1, x.2.2.2.2.2.2.2.2.1, x.2.2.2.2.2.2.2.2.2.1, x.2.2.2.2.2.2.2.2.2.2, F3, F4, F5, rfl, rfl, by simp, by simpa using nd0, i0, i1, i2, o3, o4, o5, i6, i7, i8, i9⟩
set_option maxHeartbeats 2000000 in
theorem mkFrames (w : World) (n c : Nat) (A : Option Addr) (F : List Nat) (l : List Frame) (k : Int) (h : OwnSl FrameR w 74 F (.slice A n c) l) (h1 : 0 ≤ k) (h2 : k + (cntL cntFrame l : Int) ≤ 1152921504606846976) :
    Calls Tryz.prog 33 #[.slice A n c, .int .i64 k] w (RetMk FrameR 74 mkFrame cntFrame l k F (.slice A n c) w) := by
  obtain ⟨_, hx, _, hl⟩ := h.row'
  have bn : n ≤ 9223372036854775807 := by obtain ⟨_, ⟨_, h0, _⟩ | ⟨_, _, h3, h4⟩⟩ := ownsRow_cases hx <;> omega
  clear hx
  go_enter Tryz.func33, Tryz.ntmps33
  go_wp2_with fail
  go_loopw [1, 5] (fun kk i wr => ∃ (j : Nat) (K : Int), j ≤ n ∧ i = .int .i64 j ∧ kk = .int .i64 K ∧ K = k + (cntL cntFrame (l.take j) : Int) ∧ OwnSl FrameR wr 74 F (.slice A n c) (mkL mkFrame cntFrame k (l.take j) ++ l.drop j) ∧ Fr F w wr) (fun _ i _ => n - (intOf i).toNat)
  case atStart => exact ⟨0, k, Nat.zero_le _, rfl, rfl, by simp [cntL], by simpa [mkL] using h, Fr.refl _ _⟩
  case round =>
    obtain ⟨j, K, hj, rfl, rfl, hK0, ho, hb⟩ := hrel
    have hK := Lib.hid hK0
    have hk0 : 0 ≤ K := by omega
    clear hK0
    by_cases hlt : j < n
    · have hjl : j < l.length := by omega
      have c1 := cntL_succ (cnt := cntFrame) hjl
      have c2 := cntL_take_le (cnt := cntFrame) l (j + 1)
      have hk2 : K + (cntFrame l[j] : Int) ≤ 1152921504606846976 := by have := hK.out; omega
      have hK1 := Lib.hid (show K + (cntFrame l[j] : Int) = k + (cntL cntFrame (l.take (j + 1)) : Int) by have := hK.out; omega)
      clear c1 c2
      obtain ⟨g, pre, cs, post, Fj, hA, hn0, hpre, hown, hrow, hgF, hgj, hsub0, put0⟩ := ho.focus (by decide) (j := j) (by simp [mkL_len]; omega)
      clear hn0
      subst hA
      rw [mkL_at hjl] at hown
      have hsub := Lib.hid hsub0
      clear hsub0
      have put := Lib.hid put0
      have hltF := Lib.hid ho.lt
      clear put0 ho
      obtain ⟨x0, x1, x2, A3, n3, c3, s3, A4, n4, c4, s4, A5, n5, c5, s5, x6, x7, x8, x9, y10, F3, F4, F5, rfl, hx0, rfl, hnd, _, _, _, o3, o4, o5, _, _, _, _⟩ := Frame_ownx hown
      have hx := Lib.hid hx0
      rw [hx0] at hk2
      simp only [cntFrame] at hk2
      clear hx0 hown
      have hpreH : Hid (pre.length = j * 11) := hpre
      clear hpre
      have r0 := hrow
      have g3 : g ∉ F3 := fun hh => hgj (by simp [hh])
      have g4 : g ∉ F4 := fun hh => hgj (by simp [hh])
      have g5 : g ∉ F5 := fun hh => hgj (by simp [hh])
      have D34 : ∀ z, z ∈ F3 → z ∉ F4 := fun z h1 h2 => (List.nodup_append.1 hnd).2.2 z h1 z (List.mem_append_left _ h2) rfl
      have D43 : ∀ z, z ∈ F4 → z ∉ F3 := fun z h1 h2 => D34 z h2 h1
      have D35 : ∀ z, z ∈ F3 → z ∉ F5 := fun z h1 h2 => (List.nodup_append.1 hnd).2.2 z h1 z (List.mem_append_right _ h2) rfl
      have D53 : ∀ z, z ∈ F5 → z ∉ F3 := fun z h1 h2 => D35 z h2 h1
      have D45 : ∀ z, z ∈ F4 → z ∉ F5 := fun z h1 h2 => (List.nodup_append.1 (List.nodup_append.1 hnd).2.1).2.2 z h1 z h2 rfl
      have D54 : ∀ z, z ∈ F5 → z ∉ F4 := fun z h1 h2 => D45 z h2 h1
      have fa : Fr (g :: (F3 ++ (F4 ++ F5))) wr wr := Fr.refl _ _
      have u0 : wr.cell? ⟨g, j * 11, none⟩ = some (.int .i64 x0) := rowCell hrow hpreH.out (i := 0) (by simp)
      have u1 : wr.cell? ⟨g, j * 11 + 1, none⟩ = some (.int .i64 x1) := rowCell hrow hpreH.out (i := 1) (by simp)
      have u2 : wr.cell? ⟨g, j * 11 + 2, none⟩ = some (.int .i64 x2) := rowCell hrow hpreH.out (i := 2) (by simp)
      have u3 : wr.cell? ⟨g, j * 11 + 3, none⟩ = some (.slice A3 n3 c3) := rowCell hrow hpreH.out (i := 3) (by simp)
      have u4 : wr.cell? ⟨g, j * 11 + 4, none⟩ = some (.slice A4 n4 c4) := rowCell hrow hpreH.out (i := 4) (by simp)
      have u5 : wr.cell? ⟨g, j * 11 + 5, none⟩ = some (.slice A5 n5 c5) := rowCell hrow hpreH.out (i := 5) (by simp)
      have u6 : wr.cell? ⟨g, j * 11 + 6, none⟩ = some (.int .i64 x6) := rowCell hrow hpreH.out (i := 6) (by simp)
      have u7 : wr.cell? ⟨g, j * 11 + 7, none⟩ = some (.int .i64 x7) := rowCell hrow hpreH.out (i := 7) (by simp)
      have u8 : wr.cell? ⟨g, j * 11 + 8, none⟩ = some (.int .i64 x8) := rowCell hrow hpreH.out (i := 8) (by simp)
      have u9 : wr.cell? ⟨g, j * 11 + 9, none⟩ = some (.int .i64 x9) := rowCell hrow hpreH.out (i := 9) (by simp)
      have u10 : wr.cell? ⟨g, j * 11 + 10, none⟩ = some (.bool y10) := rowCell hrow hpreH.out (i := 10) (by simp)
      have v0 := hrow.frozenAt (j * 11)
      have v1 := hrow.frozenAt (j * 11 + 1)
      have v2 := hrow.frozenAt (j * 11 + 2)
      have v3 := hrow.frozenAt (j * 11 + 3)
      have v4 := hrow.frozenAt (j * 11 + 4)
      have v5 := hrow.frozenAt (j * 11 + 5)
      have v6 := hrow.frozenAt (j * 11 + 6)
      have v7 := hrow.frozenAt (j * 11 + 7)
      have v8 := hrow.frozenAt (j * 11 + 8)
      have v9 := hrow.frozenAt (j * 11 + 9)
      have v10 := hrow.frozenAt (j * 11 + 10)
      have r1 := rowSet r0 hpreH.out (i := 0) (by simp) (.int .i64 K)
      simp only [List.set_cons_zero, List.set_cons_succ] at r1
      have r2 := rowSet r1 hpreH.out (i := 1) (by simp) (.int .i64 (K + 1))
      simp only [List.set_cons_zero, List.set_cons_succ] at r2
      have r3 := rowSet r2 hpreH.out (i := 2) (by simp) (.int .i64 (K + 1 + 1))
      simp only [List.set_cons_zero, List.set_cons_succ] at r3
      go_wp2_with fail
      refine (mkInts _ n3 c3 A3 F3 s3 (K + 1 + 1 + 1) (o3.fr (G := [g]) (by exact frcA) (fun q hq hq' => by simp at hq'; subst hq'; exact g3 hq)) (by omega) (by omega)).mono ?_
      rintro e w3 ⟨k3, rfl, hk30, o3, f3⟩
      have z3 : K + 1 + 1 + 1 ≤ k3 := by omega
      have hq3 := Lib.hid hk30
      have y3 : k3 + (cntL cntInt s4 + cntL cntBool s5 + 1 + 1 + 1 + 1 + 1 : Nat) ≤ 1152921504606846976 := by omega
      clear hk30
      replace fa : Fr (g :: (F3 ++ (F4 ++ F5))) wr w3 := fr_then (f3.more (fun q hq => List.mem_cons_of_mem _ (by simp [hq]))) (by exact frcA)
      replace o4 := o4.fr2 f3 (G := [g]) (by exact frcA) (fun q hq hq' => by simp at hq'; subst hq'; exact g4 hq) D43
      replace o5 := o5.fr2 f3 (G := [g]) (by exact frcA) (fun q hq hq' => by simp at hq'; subst hq'; exact g5 hq) D53
      have r4 := row_fr r3 f3 g3
      clear u0 v0 u1 v1 u2 v2 u3 v3 u4 v4 u5 v5 u6 v6 u7 v7 u8 v8 u9 v9 u10 v10
      have u0 : w3.cell? ⟨g, j * 11, none⟩ = some (.int .i64 K) := rowCell r4 hpreH.out (i := 0) (by simp)
      have u1 : w3.cell? ⟨g, j * 11 + 1, none⟩ = some (.int .i64 (K + 1)) := rowCell r4 hpreH.out (i := 1) (by simp)
      have u2 : w3.cell? ⟨g, j * 11 + 2, none⟩ = some (.int .i64 (K + 1 + 1)) := rowCell r4 hpreH.out (i := 2) (by simp)
      have u3 : w3.cell? ⟨g, j * 11 + 3, none⟩ = some (.slice A3 n3 c3) := rowCell r4 hpreH.out (i := 3) (by simp)
      have u4 : w3.cell? ⟨g, j * 11 + 4, none⟩ = some (.slice A4 n4 c4) := rowCell r4 hpreH.out (i := 4) (by simp)
      have u5 : w3.cell? ⟨g, j * 11 + 5, none⟩ = some (.slice A5 n5 c5) := rowCell r4 hpreH.out (i := 5) (by simp)
      have u6 : w3.cell? ⟨g, j * 11 + 6, none⟩ = some (.int .i64 x6) := rowCell r4 hpreH.out (i := 6) (by simp)
      have u7 : w3.cell? ⟨g, j * 11 + 7, none⟩ = some (.int .i64 x7) := rowCell r4 hpreH.out (i := 7) (by simp)
      have u8 : w3.cell? ⟨g, j * 11 + 8, none⟩ = some (.int .i64 x8) := rowCell r4 hpreH.out (i := 8) (by simp)
      have u9 : w3.cell? ⟨g, j * 11 + 9, none⟩ = some (.int .i64 x9) := rowCell r4 hpreH.out (i := 9) (by simp)
      have u10 : w3.cell? ⟨g, j * 11 + 10, none⟩ = some (.bool y10) := rowCell r4 hpreH.out (i := 10) (by simp)
      have v0 := r4.frozenAt (j * 11)
      have v1 := r4.frozenAt (j * 11 + 1)
      have v2 := r4.frozenAt (j * 11 + 2)
      have v3 := r4.frozenAt (j * 11 + 3)
      have v4 := r4.frozenAt (j * 11 + 4)
      have v5 := r4.frozenAt (j * 11 + 5)
      have v6 := r4.frozenAt (j * 11 + 6)
      have v7 := r4.frozenAt (j * 11 + 7)
      have v8 := r4.frozenAt (j * 11 + 8)
      have v9 := r4.frozenAt (j * 11 + 9)
      have v10 := r4.frozenAt (j * 11 + 10)
      go_wp2_with fail
      refine (mkInts _ n4 c4 A4 F4 s4 (k3) (o4.fr (G := [g]) (by exact frcA) (fun q hq hq' => by simp at hq'; subst hq'; exact g4 hq)) (by omega) (by omega)).mono ?_
      rintro e w4 ⟨k4, rfl, hk40, o4, f4⟩
      have z4 : k3 ≤ k4 := by omega
      have hq4 := Lib.hid hk40
      have y4 : k4 + (cntL cntBool s5 + 1 + 1 + 1 + 1 + 1 : Nat) ≤ 1152921504606846976 := by omega
      clear hk40
      replace fa : Fr (g :: (F3 ++ (F4 ++ F5))) wr w4 := fr_then (f4.more (fun q hq => List.mem_cons_of_mem _ (by simp [hq]))) (by exact frcA)
      replace o3 := o3.fr2 f4 (G := [g]) (by exact frcA) (fun q hq hq' => by simp at hq'; subst hq'; exact g3 hq) D34
      replace o5 := o5.fr2 f4 (G := [g]) (by exact frcA) (fun q hq hq' => by simp at hq'; subst hq'; exact g5 hq) D54
      have r5 := row_fr r4 f4 g4
      clear u0 v0 u1 v1 u2 v2 u3 v3 u4 v4 u5 v5 u6 v6 u7 v7 u8 v8 u9 v9 u10 v10
      have u0 : w4.cell? ⟨g, j * 11, none⟩ = some (.int .i64 K) := rowCell r5 hpreH.out (i := 0) (by simp)
      have u1 : w4.cell? ⟨g, j * 11 + 1, none⟩ = some (.int .i64 (K + 1)) := rowCell r5 hpreH.out (i := 1) (by simp)
      have u2 : w4.cell? ⟨g, j * 11 + 2, none⟩ = some (.int .i64 (K + 1 + 1)) := rowCell r5 hpreH.out (i := 2) (by simp)
      have u3 : w4.cell? ⟨g, j * 11 + 3, none⟩ = some (.slice A3 n3 c3) := rowCell r5 hpreH.out (i := 3) (by simp)
      have u4 : w4.cell? ⟨g, j * 11 + 4, none⟩ = some (.slice A4 n4 c4) := rowCell r5 hpreH.out (i := 4) (by simp)
      have u5 : w4.cell? ⟨g, j * 11 + 5, none⟩ = some (.slice A5 n5 c5) := rowCell r5 hpreH.out (i := 5) (by simp)
      have u6 : w4.cell? ⟨g, j * 11 + 6, none⟩ = some (.int .i64 x6) := rowCell r5 hpreH.out (i := 6) (by simp)
      have u7 : w4.cell? ⟨g, j * 11 + 7, none⟩ = some (.int .i64 x7) := rowCell r5 hpreH.out (i := 7) (by simp)
      have u8 : w4.cell? ⟨g, j * 11 + 8, none⟩ = some (.int .i64 x8) := rowCell r5 hpreH.out (i := 8) (by simp)
      have u9 : w4.cell? ⟨g, j * 11 + 9, none⟩ = some (.int .i64 x9) := rowCell r5 hpreH.out (i := 9) (by simp)
      have u10 : w4.cell? ⟨g, j * 11 + 10, none⟩ = some (.bool y10) := rowCell r5 hpreH.out (i := 10) (by simp)
      have v0 := r5.frozenAt (j * 11)
      have v1 := r5.frozenAt (j * 11 + 1)
      have v2 := r5.frozenAt (j * 11 + 2)
      have v3 := r5.frozenAt (j * 11 + 3)
      have v4 := r5.frozenAt (j * 11 + 4)
      have v5 := r5.frozenAt (j * 11 + 5)
      have v6 := r5.frozenAt (j * 11 + 6)
      have v7 := r5.frozenAt (j * 11 + 7)
      have v8 := r5.frozenAt (j * 11 + 8)
      have v9 := r5.frozenAt (j * 11 + 9)
      have v10 := r5.frozenAt (j * 11 + 10)
      go_wp2_with fail
      refine (mkBools _ n5 c5 A5 F5 s5 (k4) (o5.fr (G := [g]) (by exact frcA) (fun q hq hq' => by simp at hq'; subst hq'; exact g5 hq)) (by omega) (by omega)).mono ?_
      rintro e w5 ⟨k5, rfl, hk50, o5, f5⟩
      have z5 : k4 ≤ k5 := by omega
      have hq5 := Lib.hid hk50
      have y5 : k5 + (1 + 1 + 1 + 1 + 1 : Nat) ≤ 1152921504606846976 := by omega
      clear hk50
      replace fa : Fr (g :: (F3 ++ (F4 ++ F5))) wr w5 := fr_then (f5.more (fun q hq => List.mem_cons_of_mem _ (by simp [hq]))) (by exact frcA)
      replace o3 := o3.fr2 f5 (G := [g]) (by exact frcA) (fun q hq hq' => by simp at hq'; subst hq'; exact g3 hq) D35
      replace o4 := o4.fr2 f5 (G := [g]) (by exact frcA) (fun q hq hq' => by simp at hq'; subst hq'; exact g4 hq) D45
      have r6 := row_fr r5 f5 g5
      clear u0 v0 u1 v1 u2 v2 u3 v3 u4 v4 u5 v5 u6 v6 u7 v7 u8 v8 u9 v9 u10 v10
      have u0 : w5.cell? ⟨g, j * 11, none⟩ = some (.int .i64 K) := rowCell r6 hpreH.out (i := 0) (by simp)
      have u1 : w5.cell? ⟨g, j * 11 + 1, none⟩ = some (.int .i64 (K + 1)) := rowCell r6 hpreH.out (i := 1) (by simp)
      have u2 : w5.cell? ⟨g, j * 11 + 2, none⟩ = some (.int .i64 (K + 1 + 1)) := rowCell r6 hpreH.out (i := 2) (by simp)
      have u3 : w5.cell? ⟨g, j * 11 + 3, none⟩ = some (.slice A3 n3 c3) := rowCell r6 hpreH.out (i := 3) (by simp)
      have u4 : w5.cell? ⟨g, j * 11 + 4, none⟩ = some (.slice A4 n4 c4) := rowCell r6 hpreH.out (i := 4) (by simp)
      have u5 : w5.cell? ⟨g, j * 11 + 5, none⟩ = some (.slice A5 n5 c5) := rowCell r6 hpreH.out (i := 5) (by simp)
      have u6 : w5.cell? ⟨g, j * 11 + 6, none⟩ = some (.int .i64 x6) := rowCell r6 hpreH.out (i := 6) (by simp)
      have u7 : w5.cell? ⟨g, j * 11 + 7, none⟩ = some (.int .i64 x7) := rowCell r6 hpreH.out (i := 7) (by simp)
      have u8 : w5.cell? ⟨g, j * 11 + 8, none⟩ = some (.int .i64 x8) := rowCell r6 hpreH.out (i := 8) (by simp)
      have u9 : w5.cell? ⟨g, j * 11 + 9, none⟩ = some (.int .i64 x9) := rowCell r6 hpreH.out (i := 9) (by simp)
      have u10 : w5.cell? ⟨g, j * 11 + 10, none⟩ = some (.bool y10) := rowCell r6 hpreH.out (i := 10) (by simp)
      have v0 := r6.frozenAt (j * 11)
      have v1 := r6.frozenAt (j * 11 + 1)
      have v2 := r6.frozenAt (j * 11 + 2)
      have v3 := r6.frozenAt (j * 11 + 3)
      have v4 := r6.frozenAt (j * 11 + 4)
      have v5 := r6.frozenAt (j * 11 + 5)
      have v6 := r6.frozenAt (j * 11 + 6)
      have v7 := r6.frozenAt (j * 11 + 7)
      have v8 := r6.frozenAt (j * 11 + 8)
      have v9 := r6.frozenAt (j * 11 + 9)
      have v10 := r6.frozenAt (j * 11 + 10)
      have r7 := rowSet r6 hpreH.out (i := 6) (by simp) (.int .i64 k5)
      simp only [List.set_cons_zero, List.set_cons_succ] at r7
      have r8 := rowSet r7 hpreH.out (i := 7) (by simp) (.int .i64 (k5 + 1))
      simp only [List.set_cons_zero, List.set_cons_succ] at r8
      have r9 := rowSet r8 hpreH.out (i := 8) (by simp) (.int .i64 (k5 + 1 + 1))
      simp only [List.set_cons_zero, List.set_cons_succ] at r9
      have r10 := rowSet r9 hpreH.out (i := 9) (by simp) (.int .i64 (k5 + 1 + 1 + 1))
      simp only [List.set_cons_zero, List.set_cons_succ] at r10
      have r11 := rowSet r10 hpreH.out (i := 10) (by simp) (.bool ((k5 + 1 + 1 + 1 + 1) % 3 == 0))
      simp only [List.set_cons_zero, List.set_cons_succ] at r11
      have hfin := Lib.hid (show mkFrame K l[j] = (K, (K + 1), (K + 1 + 1), mkL mkInt cntInt (K + 1 + 1 + 1) s3, mkL mkInt cntInt k3 s4, mkL mkBool cntBool k4 s5, k5, (k5 + 1), (k5 + 1 + 1), (k5 + 1 + 1 + 1), ((k5 + 1 + 1 + 1 + 1) % 3 == 0)) by rw [hx.out]; simp only [mkFrame, ← hq3.out, ← hq4.out, ← hq5.out])
      have hcnt := Lib.hid (show k5 + 1 + 1 + 1 + 1 + 1 = K + (cntFrame l[j] : Int) by rw [hx.out]; simp only [cntFrame]; have a3 := hq3.out; have a4 := hq4.out; have a5 := hq5.out; omega)
      have fin : ∀ W : World, W.ownsRow 0 74 11 (.slice (some ⟨g, 0, none⟩) n c) n (pre ++ [.int .i64 K, .int .i64 (K + 1), .int .i64 (K + 1 + 1), .slice A3 n3 c3, .slice A4 n4 c4, .slice A5 n5 c5, .int .i64 k5, .int .i64 (k5 + 1), .int .i64 (k5 + 1 + 1), .int .i64 (k5 + 1 + 1 + 1), .bool ((k5 + 1 + 1 + 1 + 1) % 3 == 0)] ++ post) → Fr [g] w5 W → OwnSl FrameR W 74 F (.slice (some ⟨g, 0, none⟩) n c) (mkL mkFrame cntFrame k (l.take (j + 1)) ++ l.drop (j + 1)) := by
        intro W hr hf
        have hall : Fr (g :: (F3 ++ (F4 ++ F5))) wr W := fr_then (hf.more (fun z hz => by simp at hz; subst hz; exact List.mem_cons_self ..)) fa
        have := put.out W _ (mkFrame K l[j]) (by rw [hfin.out]; exact Frame_own (o3.fr hf (fun q hq hq' => by simp at hq'; subst hq'; exact g3 hq)) (o4.fr hf (fun q hq hq' => by simp at hq'; subst hq'; exact g4 hq)) (o5.fr hf (fun q hq hq' => by simp at hq'; subst hq'; exact g5 hq)) ⟨by omega, by omega⟩ ⟨by omega, by omega⟩ ⟨by omega, by omega⟩ ⟨by omega, by omega⟩ ⟨by omega, by omega⟩ ⟨by omega, by omega⟩ ⟨by omega, by omega⟩ hnd) hr (fun q hq hne hnot => hall.block q (hltF.out q hq) (fun hx => by rcases List.mem_cons.1 hx with hx | hx; exact hne hx; exact hnot hx))
        have e1 := hK.out
        rw [e1, mkL_step hjl] at this
        exact this
      have hbF : Fr F w w5 := fr_then (fa.more (fun q hq => by rcases List.mem_cons.1 hq with rfl | hq; exact hgF; exact hsub.out q hq)) hb
      have finH := Lib.hid fin
      clear fin
      go_wp2_with fail
      go_roundw
      case rel => exact ⟨j + 1, _, by omega, by go_num, rfl, by rw [← hK1.out, ← hcnt.out], finH.out _ r11 (by exact frcA), by exact frcA⟩
      case measure => simp [intOf]; omega
    · have hjn := Lib.hid (show j = n by omega)
      have e1 : mkL mkFrame cntFrame k (l.take j) ++ l.drop j = mkL mkFrame cntFrame k l := by rw [List.take_of_length_le (by omega), List.drop_of_length_le (by omega), List.append_nil]
      rw [e1] at ho
      clear e1
      rw [List.take_of_length_le (by omega)] at hK
      go_wp2_with fail
      go_ret
      exact ⟨_, rfl, hK.out, ho, hb⟩
end Go.Proofs.YtgdeclmciflmpaaGreat

/- Marks over slices of Vm. Printed by markgen.py. Walks. -/
set_option linter.unusedVariables false
set_option linter.unusedSimpArgs false
set_option linter.unnecessarySimpa false
set_option maxRecDepth 100000
namespace Go.Proofs.YtgdeclmciflmpaaGreat
open Go.RowKit

def cntVm (x : Vm) : Nat := cntL cntFrame (x.1) + cntL cntInt (x.2.1) + 1 + 1 + 1 + 1 + cntL cntNote (x.2.2.2.2.2.2)
def mkVm (k : Int) (x : Vm) : Vm := (mkL mkFrame cntFrame k (x.1), mkL mkInt cntInt (k + (cntL cntFrame (x.1) : Int)) (x.2.1), ((k + (cntL cntFrame (x.1) : Int)) + (cntL cntInt (x.2.1) : Int)), (((k + (cntL cntFrame (x.1) : Int)) + (cntL cntInt (x.2.1) : Int)) + 1), ((((k + (cntL cntFrame (x.1) : Int)) + (cntL cntInt (x.2.1) : Int)) + 1) + 1), (((((k + (cntL cntFrame (x.1) : Int)) + (cntL cntInt (x.2.1) : Int)) + 1) + 1) + 1), mkL mkNote cntNote ((((((k + (cntL cntFrame (x.1) : Int)) + (cntL cntInt (x.2.1) : Int)) + 1) + 1) + 1) + 1) (x.2.2.2.2.2.2))
theorem Vm_ownx {w : World} {F : List Nat} {cs : List Value} {x : Vm} (h : VmR.own w F cs x) : ∃ A0 n0 c0 s0 A1 n1 c1 s1 x2 x3 x4 x5 A6 n6 c6 s6 F0 F1 F6, cs = ([.slice A0 n0 c0, .slice A1 n1 c1, .int .i64 x2, .int .i64 x3, .int .i64 x4, .int .i64 x5, .slice A6 n6 c6] : List Value) ∧ x = (s0, s1, x2, x3, x4, x5, s6) ∧ F = (F0 ++ (F1 ++ F6)) ∧ ((F0 ++ (F1 ++ F6)) : List Nat).Nodup ∧ OwnSl FrameR w 74 F0 (.slice A0 n0 c0) s0 ∧ OwnSl intR w 3 F1 (.slice A1 n1 c1) s1 ∧ I64 x2 ∧ I64 x3 ∧ I64 x4 ∧ I64 x5 ∧ OwnSl noteR w 97 F6 (.slice A6 n6 c6) s6 := by
  obtain ⟨_, _, F0, _, rfl, rfl, ⟨A0, n0, c0, rfl, o0⟩, ⟨_, _, F1, _, rfl, rfl, ⟨A1, n1, c1, rfl, o1⟩, ⟨_, _, _, _, rfl, rfl, ⟨rfl, rfl, i2⟩, ⟨_, _, _, _, rfl, rfl, ⟨rfl, rfl, i3⟩, ⟨_, _, _, _, rfl, rfl, ⟨rfl, rfl, i4⟩, ⟨_, _, _, F6, rfl, rfl, ⟨rfl, rfl, i5⟩, ⟨A6, n6, c6, rfl, o6⟩, nd5⟩, nd4⟩, nd3⟩, nd2⟩, nd1⟩, nd0⟩ := h
  exact ⟨A0, n0, c0, x.1, A1, n1, c1, x.2.1, x.2.2.1, x.2.2.2.1, x.2.2.2.2.1, x.2.2.2.2.2.1, A6, n6, c6, x.2.2.2.2.2.2, F0, F1, F6, rfl, rfl, by simp, by simpa using nd0, o0, o1, i2, i3, i4, i5, o6⟩
set_option maxHeartbeats 1000000 in
theorem mkVmTop (w : World) (A0 : Option Addr) (n0 c0 : Nat) (s0 : List Frame) (A1 : Option Addr) (n1 c1 : Nat) (s1 : List Int) (x2 : Int) (x3 : Int) (x4 : Int) (x5 : Int) (A6 : Option Addr) (n6 c6 : Nat) (s6 : List Note) (k : Int) (F0 F1 F6 : List Nat) (o0 : OwnSl FrameR w 74 F0 (.slice A0 n0 c0) s0) (o1 : OwnSl intR w 3 F1 (.slice A1 n1 c1) s1) (o6 : OwnSl noteR w 97 F6 (.slice A6 n6 c6) s6) (hnd : ((F0 ++ (F1 ++ F6)) : List Nat).Nodup) (h1 : 0 ≤ k) (h2 : k + (cntL cntFrame s0 + cntL cntInt s1 + cntL cntNote s6 : Nat) ≤ 1152921504606846976) :
    Calls Tryz.prog 15 #[.agg #[.slice A0 n0 c0, .slice A1 n1 c1, .int .i64 x2, .int .i64 x3, .int .i64 x4, .int .i64 x5, .slice A6 n6 c6], .int .i64 k] w fun e w' => ∃ r, e = .returned (.int .i64 r) ∧ r = k + (cntL cntFrame s0 + cntL cntInt s1 + cntL cntNote s6 : Nat) ∧ OwnSl FrameR w' 74 F0 (.slice A0 n0 c0) (mkL mkFrame cntFrame k s0) ∧ OwnSl intR w' 3 F1 (.slice A1 n1 c1) (mkL mkInt cntInt (k + (cntL cntFrame s0 : Int)) s1) ∧ OwnSl noteR w' 97 F6 (.slice A6 n6 c6) (mkL mkNote cntNote ((k + (cntL cntFrame s0 : Int)) + (cntL cntInt s1 : Int)) s6) ∧ Fr (F0 ++ (F1 ++ F6)) w w' := by
  have D01 : ∀ z, z ∈ F0 → z ∉ F1 := fun z h1 h2 => (List.nodup_append.1 hnd).2.2 z h1 z (List.mem_append_left _ h2) rfl
  have D10 : ∀ z, z ∈ F1 → z ∉ F0 := fun z h1 h2 => D01 z h2 h1
  have D06 : ∀ z, z ∈ F0 → z ∉ F6 := fun z h1 h2 => (List.nodup_append.1 hnd).2.2 z h1 z (List.mem_append_right _ h2) rfl
  have D60 : ∀ z, z ∈ F6 → z ∉ F0 := fun z h1 h2 => D06 z h2 h1
  have D16 : ∀ z, z ∈ F1 → z ∉ F6 := fun z h1 h2 => (List.nodup_append.1 (List.nodup_append.1 hnd).2.1).2.2 z h1 z h2 rfl
  have D61 : ∀ z, z ∈ F6 → z ∉ F1 := fun z h1 h2 => D16 z h2 h1
  have q0 : ∀ z, z ∈ F0 → z < w.heap.size := o0.lt
  have q1 : ∀ z, z ∈ F1 → z < w.heap.size := o1.lt
  have q6 : ∀ z, z ∈ F6 → z < w.heap.size := o6.lt
  go_enter Tryz.func15, Tryz.ntmps15
  go_wp2_with fail
  refine (mkFrames _ n0 c0 A0 F0 s0 k (o0.below (by exact belA)) (by omega) (by omega)).mono ?_
  rintro e w0 ⟨k0, rfl, hk0, p0, f0⟩
  have hq0 := Lib.hid hk0
  have z0 : 0 ≤ k0 := by omega
  have y0 : k0 + (cntL cntInt s1 + cntL cntNote s6 : Nat) ≤ 1152921504606846976 := by omega
  clear hk0
  have fa : Fr (F0 ++ (F1 ++ F6)) w w0 := fr_then (f0.more (fun q hq => by simp [hq])) (Fr.of_below (by exact belA))
  replace o1 : OwnSl intR w0 3 F1 (.slice A1 n1 c1) s1 := (OwnSl.fr (o1.below (by exact belA)) f0 D10)
  replace o6 : OwnSl noteR w0 97 F6 (.slice A6 n6 c6) s6 := (OwnSl.fr (o6.below (by exact belA)) f0 D60)
  have bx0 : ∀ o, w0.cell? ⟨w.heap.size, o, none⟩ = (#[.slice A0 n0 c0, .slice A1 n1 c1, .int .i64 x2, .int .i64 x3, .int .i64 x4, .int .i64 x5, .slice A6 n6 c6] : Array Value)[o]? := fun o => by
    rw [World.cell?_of_block (f0.block w.heap.size (by simp) (fun hh => by have := q0 _ hh; omega))]
    exact cell_of_row _ _ _ _ _ _ (heap_alloc_new w _)
  have hs0 : w.heap.size < w0.heap.size := by have := f0.size; first | omega | (simp at this; omega)
  have e0_0 : w0.cell? ⟨w.heap.size, 0, none⟩ = some (.slice A0 n0 c0) := bx0 0
  have e0_1 : w0.cell? ⟨w.heap.size, 1, none⟩ = some (.slice A1 n1 c1) := bx0 1
  have e0_2 : w0.cell? ⟨w.heap.size, 2, none⟩ = some (.int .i64 x2) := bx0 2
  have e0_3 : w0.cell? ⟨w.heap.size, 3, none⟩ = some (.int .i64 x3) := bx0 3
  have e0_4 : w0.cell? ⟨w.heap.size, 4, none⟩ = some (.int .i64 x4) := bx0 4
  have e0_5 : w0.cell? ⟨w.heap.size, 5, none⟩ = some (.int .i64 x5) := bx0 5
  have e0_6 : w0.cell? ⟨w.heap.size, 6, none⟩ = some (.slice A6 n6 c6) := bx0 6
  have bxH0 := Lib.hid bx0
  skip
  go_wp2_with fail
  refine (mkInts _ n1 c1 A1 F1 s1 k0 (o1.below (by exact belA)) (by omega) (by omega)).mono ?_
  rintro e w1 ⟨k1, rfl, hk1, p1, f1⟩
  have hq1 := Lib.hid hk1
  have z1 : 0 ≤ k1 := by omega
  have y1 : k1 + (cntL cntNote s6 : Nat) ≤ 1152921504606846976 := by omega
  clear hk1
  replace fa : Fr (F0 ++ (F1 ++ F6)) w w1 := fr_then (f1.more (fun q hq => by simp [hq])) (by exact frcA)
  replace p0 := OwnSl.fr (p0.below (by exact belA)) f1 D01
  replace o6 : OwnSl noteR w1 97 F6 (.slice A6 n6 c6) s6 := (OwnSl.fr (o6.below (by exact belA)) f1 D61)
  have bx1 : ∀ o, w1.cell? ⟨w.heap.size, o, none⟩ = (#[.slice A0 n0 c0, .slice A1 n1 c1, .int .i64 x2, .int .i64 x3, .int .i64 x4, .int .i64 x5, .slice A6 n6 c6] : Array Value)[o]? := fun o => by
    rw [World.cell?_of_block (f1.block w.heap.size (by first | exact hs0 | (simp; exact hs0)) (fun hh => by have := q1 _ hh; omega))]
    exact bx0 o
  have hs1 : w.heap.size < w1.heap.size := by have := f1.size; first | omega | (simp at this; omega)
  have e1_0 : w1.cell? ⟨w.heap.size, 0, none⟩ = some (.slice A0 n0 c0) := bx1 0
  have e1_1 : w1.cell? ⟨w.heap.size, 1, none⟩ = some (.slice A1 n1 c1) := bx1 1
  have e1_2 : w1.cell? ⟨w.heap.size, 2, none⟩ = some (.int .i64 x2) := bx1 2
  have e1_3 : w1.cell? ⟨w.heap.size, 3, none⟩ = some (.int .i64 x3) := bx1 3
  have e1_4 : w1.cell? ⟨w.heap.size, 4, none⟩ = some (.int .i64 x4) := bx1 4
  have e1_5 : w1.cell? ⟨w.heap.size, 5, none⟩ = some (.int .i64 x5) := bx1 5
  have e1_6 : w1.cell? ⟨w.heap.size, 6, none⟩ = some (.slice A6 n6 c6) := bx1 6
  have bxH1 := Lib.hid bx1
  skip
  go_wp2_with fail
  refine (mkNotes _ n6 c6 A6 F6 s6 k1 (o6.below (by exact belA)) (by omega) (by omega)).mono ?_
  rintro e w6 ⟨k6, rfl, hk6, p6, f6⟩
  have hq6 := Lib.hid hk6
  have z6 : 0 ≤ k6 := by omega
  have y6 : k6 + (0 : Nat) ≤ 1152921504606846976 := by omega
  clear hk6
  replace fa : Fr (F0 ++ (F1 ++ F6)) w w6 := fr_then (f6.more (fun q hq => by simp [hq])) (by exact frcA)
  replace p0 := OwnSl.fr (p0.below (by exact belA)) f6 D06
  replace p1 := OwnSl.fr (p1.below (by exact belA)) f6 D16
  have bx6 : ∀ o, w6.cell? ⟨w.heap.size, o, none⟩ = (#[.slice A0 n0 c0, .slice A1 n1 c1, .int .i64 x2, .int .i64 x3, .int .i64 x4, .int .i64 x5, .slice A6 n6 c6] : Array Value)[o]? := fun o => by
    rw [World.cell?_of_block (f6.block w.heap.size (by first | exact hs1 | (simp; exact hs1)) (fun hh => by have := q6 _ hh; omega))]
    exact bx1 o
  have hs6 : w.heap.size < w6.heap.size := by have := f6.size; first | omega | (simp at this; omega)
  have e6_0 : w6.cell? ⟨w.heap.size, 0, none⟩ = some (.slice A0 n0 c0) := bx6 0
  have e6_1 : w6.cell? ⟨w.heap.size, 1, none⟩ = some (.slice A1 n1 c1) := bx6 1
  have e6_2 : w6.cell? ⟨w.heap.size, 2, none⟩ = some (.int .i64 x2) := bx6 2
  have e6_3 : w6.cell? ⟨w.heap.size, 3, none⟩ = some (.int .i64 x3) := bx6 3
  have e6_4 : w6.cell? ⟨w.heap.size, 4, none⟩ = some (.int .i64 x4) := bx6 4
  have e6_5 : w6.cell? ⟨w.heap.size, 5, none⟩ = some (.int .i64 x5) := bx6 5
  have e6_6 : w6.cell? ⟨w.heap.size, 6, none⟩ = some (.slice A6 n6 c6) := bx6 6
  have bxH6 := Lib.hid bx6
  skip
  go_wp2_with fail
  go_ret
  exact ⟨_, rfl, by have a0 := hq0.out; have a1 := hq1.out; have a6 := hq6.out; omega, by have := p0; have a0 := hq0.out; have a1 := hq1.out; have a6 := hq6.out; simpa [a0, a1, a6] using this, by have := p1; have a0 := hq0.out; have a1 := hq1.out; have a6 := hq6.out; simpa [a0, a1, a6] using this, by have := p6; have a0 := hq0.out; have a1 := hq1.out; have a6 := hq6.out; simpa [a0, a1, a6] using this, fa⟩
end Go.Proofs.YtgdeclmciflmpaaGreat

/- Note: own data field by field; how many marks. Printed by ocgen.py. -/
set_option linter.unusedVariables false
set_option linter.unusedSimpArgs false
set_option maxRecDepth 100000
namespace Go.Proofs.YtgdeclmciflmpaaGreat
open Go.RowKit

theorem cntNote_le (l : List Note) : cntL cntNote l ≤ 16 * l.length := by
  induction l with
  | nil => simp [cntL]
  | cons x l ih => simp only [cntL, List.map_cons, List.sum_cons, List.length_cons] at *; simp only [cntNote] at *; omega
end Go.Proofs.YtgdeclmciflmpaaGreat

/- Frame: own data field by field; how many marks. Printed by ocgen.py. -/
set_option linter.unusedVariables false
set_option linter.unusedSimpArgs false
set_option maxRecDepth 100000
namespace Go.Proofs.YtgdeclmciflmpaaGreat
open Go.RowKit

theorem Frame_ownc {w : World} {F : List Nat} {x0 : Int} {x1 : Int} {x2 : Int} {A3 : Option Addr} {n3 c3 : Nat} {s3 : List Int} {A4 : Option Addr} {n4 c4 : Nat} {s4 : List Int} {A5 : Option Addr} {n5 c5 : Nat} {s5 : List Bool} {x6 : Int} {x7 : Int} {x8 : Int} {x9 : Int} {y10 : Bool} (h : FrameR.own w F [.int .i64 x0, .int .i64 x1, .int .i64 x2, .slice A3 n3 c3, .slice A4 n4 c4, .slice A5 n5 c5, .int .i64 x6, .int .i64 x7, .int .i64 x8, .int .i64 x9, .bool y10] (x0, x1, x2, s3, s4, s5, x6, x7, x8, x9, y10)) : ∃ F3 F4 F5, F = (F3 ++ (F4 ++ F5)) ∧ ((F3 ++ (F4 ++ F5)) : List Nat).Nodup ∧ OwnSl intR w 3 F3 (.slice A3 n3 c3) s3 ∧ OwnSl intR w 3 F4 (.slice A4 n4 c4) s4 ∧ OwnSl boolR w 4 F5 (.slice A5 n5 c5) s5 := by
  obtain ⟨x0q, x1q, x2q, A3q, n3q, c3q, s3q, A4q, n4q, c4q, s4q, A5q, n5q, c5q, s5q, x6q, x7q, x8q, x9q, y10q, F3, F4, F5, ec, ex, eF, nd, i0, i1, i2, o3, o4, o5, i6, i7, i8, i9⟩ := Frame_ownx h
  simp only [List.cons.injEq, Value.slice.injEq, Value.int.injEq, Value.bool.injEq, and_true, true_and, Prod.mk.injEq] at ec ex
  refine ⟨F3, F4, F5, eF, nd, ?_, ?_, ?_⟩
  · simp only [ec, ex]; exact o3
  · simp only [ec, ex]; exact o4
  · simp only [ec, ex]; exact o5
theorem cntFrame_le1 (x : Frame) : cntFrame x ≤ 16 + 16 * mszFrame x := by
  have t3 := cntInt_le (x.2.2.2.1)
  have t4 := cntInt_le (x.2.2.2.2.1)
  have t5 := cntBool_le (x.2.2.2.2.2.1)
  simp only [cntFrame, mszFrame]; omega
theorem cntFrame_le (l : List Frame) : cntL cntFrame l ≤ 16 * mszLFrame l := by
  induction l with
  | nil => simp [cntL]
  | cons x l ih => have := cntFrame_le1 x; simp only [cntL, mszLFrame, List.map_cons, List.sum_cons, List.length_cons] at *; omega
end Go.Proofs.YtgdeclmciflmpaaGreat

/- Vm: own data field by field; how many marks. Printed by ocgen.py. -/
set_option linter.unusedVariables false
set_option linter.unusedSimpArgs false
set_option maxRecDepth 100000
namespace Go.Proofs.YtgdeclmciflmpaaGreat
open Go.RowKit

theorem Vm_ownc {w : World} {F : List Nat} {A0 : Option Addr} {n0 c0 : Nat} {s0 : List Frame} {A1 : Option Addr} {n1 c1 : Nat} {s1 : List Int} {x2 : Int} {x3 : Int} {x4 : Int} {x5 : Int} {A6 : Option Addr} {n6 c6 : Nat} {s6 : List Note} (h : VmR.own w F [.slice A0 n0 c0, .slice A1 n1 c1, .int .i64 x2, .int .i64 x3, .int .i64 x4, .int .i64 x5, .slice A6 n6 c6] (s0, s1, x2, x3, x4, x5, s6)) : ∃ F0 F1 F6, F = (F0 ++ (F1 ++ F6)) ∧ ((F0 ++ (F1 ++ F6)) : List Nat).Nodup ∧ OwnSl FrameR w 74 F0 (.slice A0 n0 c0) s0 ∧ OwnSl intR w 3 F1 (.slice A1 n1 c1) s1 ∧ OwnSl noteR w 97 F6 (.slice A6 n6 c6) s6 := by
  obtain ⟨A0q, n0q, c0q, s0q, A1q, n1q, c1q, s1q, x2q, x3q, x4q, x5q, A6q, n6q, c6q, s6q, F0, F1, F6, ec, ex, eF, nd, o0, o1, i2, i3, i4, i5, o6⟩ := Vm_ownx h
  simp only [List.cons.injEq, Value.slice.injEq, Value.int.injEq, Value.bool.injEq, and_true, true_and, Prod.mk.injEq] at ec ex
  refine ⟨F0, F1, F6, eF, nd, ?_, ?_, ?_⟩
  · simp only [ec, ex]; exact o0
  · simp only [ec, ex]; exact o1
  · simp only [ec, ex]; exact o6
theorem cntVm_le1 (x : Vm) : cntVm x ≤ 16 + 16 * mszVm x := by
  have t0 := cntFrame_le (x.1)
  have t1 := cntInt_le (x.2.1)
  have t6 := cntNote_le (x.2.2.2.2.2.2)
  simp only [cntVm, mszVm]; omega
theorem cntVm_le (l : List Vm) : cntL cntVm l ≤ 16 * mszLVm l := by
  induction l with
  | nil => simp [cntL]
  | cons x l ih => have := cntVm_le1 x; simp only [cntL, mszLVm, List.map_cons, List.sum_cons, List.length_cons] at *; omega
end Go.Proofs.YtgdeclmciflmpaaGreat

/- Marks read back: Note. Printed by heldgen.py. Walks. -/
set_option linter.unusedVariables false
set_option linter.unusedSimpArgs false
set_option linter.unnecessarySimpa false
set_option maxRecDepth 100000
namespace Go.Proofs.YtgdeclmciflmpaaGreat
open Go.RowKit

set_option maxHeartbeats 2000000 in
theorem hdNotes (w : World) (lo hi n c : Nat) (A : Option Addr) (l : List Note) (k : Int) (h : Sl noteR w lo hi A n c (mkL mkNote cntNote k l)) (hh : hi ≤ w.heap.size) (hk1 : 0 ≤ k) (hk2 : k + (cntL cntNote l : Int) ≤ 1152921504606846976) :
    Calls Tryz.prog 37 #[.slice A n c, .int .i64 k] w (RetHd (k + (cntL cntNote l : Int)) w) := by
  have e1 : l.length = n := by have := h.lenEq; rwa [mkL_len] at this
  have b1 := h.lenLe
  go_enter Tryz.func37, Tryz.ntmps37
  go_wp2_with fail
  go_loopw [1, 5] (fun kk i wr => ∃ (j : Nat) (K : Int), j ≤ n ∧ i = .int .i64 j ∧ kk = .int .i64 K ∧ K = k + (cntL cntNote (l.take j) : Int) ∧ Below w.heap.size w wr) (fun _ i _ => n - (intOf i).toNat)
  case atStart => exact ⟨0, k, Nat.zero_le _, rfl, rfl, by simp [cntL], Below.refl _ _⟩
  case round =>
    obtain ⟨j, K, hj, rfl, rfl, hK0, hb⟩ := hrel
    have a0 : 0 ≤ K := by omega
    have a1 : K ≤ 1152921504606846976 := by have := cntL_take_le (cnt := cntNote) l j; omega
    have hhr : hi ≤ wr.heap.size := by have := hb.size; omega
    have hK := Lib.hid hK0
    by_cases hlt : j < n
    · have hg := mkL_get (mkf := mkNote) (cnt := cntNote) (l := l) (j := j) (k := k) (by omega)
      have hs0 := cntL_succ (cnt := cntNote) (l := l) (k := j) (by omega)
      have hle := cntL_take_le (cnt := cntNote) l (j + 1)
      obtain ⟨b, o, x0, x1, x2, rfl, _, _, hl0, i0, i1, i2, d0, d1, d2⟩ := (h.below hb hh).note_at hlt
      rw [hl0, ← hK0] at hg
      generalize l[j]'(by omega) = y at hg hs0
      obtain ⟨u0, u1, u2⟩ := y
      simp only [mkNote, Prod.mk.injEq] at hg
      simp only [cntNote] at hs0
      obtain ⟨g0, g1, g2⟩ := hg
      have hs := Lib.hid hs0
      replace g0 := g0.symm
      subst g0
      replace g1 := g1.symm
      subst g1
      replace g2 := g2.symm
      subst g2
      have hle2 := Lib.hid hle
      clear hs0 hle hK0
      have hK1 := Lib.hid (show (((K + 1) + 1) + 1) = k + (cntL cntNote (l.take (j + 1)) : Int) by have := hs.out; have := hK.out; omega)
      go_wp2_with fail
      go_roundw
      case rel => exact ⟨j + 1, (((K + 1) + 1) + 1), by omega, by go_num, by first | rfl | go_num, hK1.out, hb⟩
      case measure => simp [intOf]; omega
    · have hK2 := Lib.hid (show K = k + (cntL cntNote l : Int) by rw [hK0, List.take_of_length_le (by omega)])
      clear hK0
      go_wp2_with fail
      go_ret
      exact ⟨_, rfl, hK2.out, hb⟩
end Go.Proofs.YtgdeclmciflmpaaGreat

/- Marks read back: Frame. Printed by heldgen.py. Walks. -/
set_option linter.unusedVariables false
set_option linter.unusedSimpArgs false
set_option linter.unnecessarySimpa false
set_option maxRecDepth 100000
namespace Go.Proofs.YtgdeclmciflmpaaGreat
open Go.RowKit

set_option maxHeartbeats 2000000 in
theorem hdFrames (w : World) (lo hi n c : Nat) (A : Option Addr) (l : List Frame) (k : Int) (h : Sl FrameR w lo hi A n c (mkL mkFrame cntFrame k l)) (hh : hi ≤ w.heap.size) (hk1 : 0 ≤ k) (hk2 : k + (cntL cntFrame l : Int) ≤ 1152921504606846976) :
    Calls Tryz.prog 35 #[.slice A n c, .int .i64 k] w (RetHd (k + (cntL cntFrame l : Int)) w) := by
  have e1 : l.length = n := by have := h.lenEq; rwa [mkL_len] at this
  have b1 := h.lenLe
  go_enter Tryz.func35, Tryz.ntmps35
  go_wp2_with fail
  go_loopw [1, 5] (fun kk i wr => ∃ (j : Nat) (K : Int), j ≤ n ∧ i = .int .i64 j ∧ kk = .int .i64 K ∧ K = k + (cntL cntFrame (l.take j) : Int) ∧ Below w.heap.size w wr) (fun _ i _ => n - (intOf i).toNat)
  case atStart => exact ⟨0, k, Nat.zero_le _, rfl, rfl, by simp [cntL], Below.refl _ _⟩
  case round =>
    obtain ⟨j, K, hj, rfl, rfl, hK0, hb⟩ := hrel
    have a0 : 0 ≤ K := by omega
    have a1 : K ≤ 1152921504606846976 := by have := cntL_take_le (cnt := cntFrame) l j; omega
    have hhr : hi ≤ wr.heap.size := by have := hb.size; omega
    have hK := Lib.hid hK0
    by_cases hlt : j < n
    · have hg := mkL_get (mkf := mkFrame) (cnt := cntFrame) (l := l) (j := j) (k := k) (by omega)
      have hs0 := cntL_succ (cnt := cntFrame) (l := l) (k := j) (by omega)
      have hle := cntL_take_le (cnt := cntFrame) l (j + 1)
      obtain ⟨b, o, x0, x1, x2, A3, n3, c3, s3, A4, n4, c4, s4, A5, n5, c5, s5, x6, x7, x8, x9, y10, rfl, _, _, hl0, i0, i1, i2, h3, h4, h5, i6, i7, i8, i9, d0, d1, d2, d3, d4, d5, d6, d7, d8, d9, d10⟩ := Frame_at (h.below hb hh) hlt
      rw [hl0, ← hK0] at hg
      generalize l[j]'(by omega) = y at hg hs0
      obtain ⟨u0, u1, u2, v3, v4, v5, u6, u7, u8, u9, u10⟩ := y
      simp only [mkFrame, Prod.mk.injEq] at hg
      simp only [cntFrame] at hs0
      obtain ⟨g0, g1, g2, g3, g4, g5, g6, g7, g8, g9, g10⟩ := hg
      have hs := Lib.hid hs0
      replace g0 := g0.symm
      subst g0
      replace g1 := g1.symm
      subst g1
      replace g2 := g2.symm
      subst g2
      replace g3 := g3.symm
      subst g3
      have G4 := Lib.hid g4
      clear g4
      have G5 := Lib.hid g5
      clear g5
      have G6 := Lib.hid g6
      clear g6
      have G7 := Lib.hid g7
      clear g7
      have G8 := Lib.hid g8
      clear g8
      have G9 := Lib.hid g9
      clear g9
      have G10 := Lib.hid g10
      clear g10
      have hle2 := Lib.hid hle
      clear hs0 hle hK0
      have b3 : (((K + 1) + 1) + 1) + (cntL cntInt v3 : Int) ≤ 1152921504606846976 := by have := hs.out; have := hle2.out; have := hK.out; omega
      go_wp2_with fail
      refine (hdInts _ lo hi n3 c3 A3 v3 (((K + 1) + 1) + 1) h3 (by omega) (by omega) b3).mono ?_
      rintro e w3 ⟨r3, rfl, q3, hb3⟩
      have p3 : 0 ≤ r3 := by omega
      have P3 : r3 ≤ 1152921504606846976 := by omega
      replace q3 := Lib.hid q3
      clear b3
      have hhr3 : hi ≤ w3.heap.size := by have := hb3.size; omega
      replace d4 := below_cell hb3 d4
      replace h4 := h4.below hb3 (by omega)
      replace d5 := below_cell hb3 d5
      replace h5 := h5.below hb3 (by omega)
      replace d6 := below_cell hb3 d6
      replace d7 := below_cell hb3 d7
      replace d8 := below_cell hb3 d8
      replace d9 := below_cell hb3 d9
      replace d10 := below_cell hb3 d10
      replace hb := below_then hb hb3
      have g4 := G4.out
      rw [← q3.out] at g4
      replace g4 := g4.symm
      subst g4
      clear G4
      have b4 : r3 + (cntL cntInt v4 : Int) ≤ 1152921504606846976 := by have := hs.out; have := hle2.out; have := hK.out; have := q3.out; omega
      go_wp2_with fail
      refine (hdInts _ lo hi n4 c4 A4 v4 r3 h4 (by omega) (by omega) b4).mono ?_
      rintro e w4 ⟨r4, rfl, q4, hb4⟩
      have p4 : 0 ≤ r4 := by omega
      have P4 : r4 ≤ 1152921504606846976 := by omega
      replace q4 := Lib.hid q4
      clear b4
      have hhr4 : hi ≤ w4.heap.size := by have := hb4.size; omega
      replace d5 := below_cell hb4 d5
      replace h5 := h5.below hb4 (by omega)
      replace d6 := below_cell hb4 d6
      replace d7 := below_cell hb4 d7
      replace d8 := below_cell hb4 d8
      replace d9 := below_cell hb4 d9
      replace d10 := below_cell hb4 d10
      replace hb := below_then hb hb4
      have g5 := G5.out
      rw [← q3.out, ← q4.out] at g5
      replace g5 := g5.symm
      subst g5
      clear G5
      have b5 : r4 + (cntL cntBool v5 : Int) ≤ 1152921504606846976 := by have := hs.out; have := hle2.out; have := hK.out; have := q3.out; have := q4.out; omega
      go_wp2_with fail
      refine (hdBools _ lo hi n5 c5 A5 v5 r4 h5 (by omega) (by omega) b5).mono ?_
      rintro e w5 ⟨r5, rfl, q5, hb5⟩
      have p5 : 0 ≤ r5 := by omega
      have P5 : r5 ≤ 1152921504606846976 := by omega
      replace q5 := Lib.hid q5
      clear b5
      have hhr5 : hi ≤ w5.heap.size := by have := hb5.size; omega
      replace d6 := below_cell hb5 d6
      replace d7 := below_cell hb5 d7
      replace d8 := below_cell hb5 d8
      replace d9 := below_cell hb5 d9
      replace d10 := below_cell hb5 d10
      replace hb := below_then hb hb5
      have g6 := G6.out
      rw [← q3.out, ← q4.out, ← q5.out] at g6
      replace g6 := g6.symm
      subst g6
      clear G6
      have g7 := G7.out
      rw [← q3.out, ← q4.out, ← q5.out] at g7
      replace g7 := g7.symm
      subst g7
      clear G7
      have g8 := G8.out
      rw [← q3.out, ← q4.out, ← q5.out] at g8
      replace g8 := g8.symm
      subst g8
      clear G8
      have g9 := G9.out
      rw [← q3.out, ← q4.out, ← q5.out] at g9
      replace g9 := g9.symm
      subst g9
      clear G9
      have g10 := G10.out
      rw [← q3.out, ← q4.out, ← q5.out] at g10
      replace g10 := g10.symm
      subst g10
      clear G10
      have hK1 := Lib.hid (show (((((r5 + 1) + 1) + 1) + 1) + 1) = k + (cntL cntFrame (l.take (j + 1)) : Int) by have := hs.out; have := hK.out; have := q3.out; have := q4.out; have := q5.out; omega)
      go_wp2_with fail
      go_roundw
      case rel => exact ⟨j + 1, (((((r5 + 1) + 1) + 1) + 1) + 1), by omega, by go_num, by first | rfl | go_num, hK1.out, hb⟩
      case measure => simp [intOf]; omega
    · have hK2 := Lib.hid (show K = k + (cntL cntFrame l : Int) by rw [hK0, List.take_of_length_le (by omega)])
      clear hK0
      go_wp2_with fail
      go_ret
      exact ⟨_, rfl, hK2.out, hb⟩
end Go.Proofs.YtgdeclmciflmpaaGreat

/- Marks read back: Vm. Printed by heldgen.py. Walks. -/
set_option linter.unusedVariables false
set_option linter.unusedSimpArgs false
set_option linter.unnecessarySimpa false
set_option maxRecDepth 100000
namespace Go.Proofs.YtgdeclmciflmpaaGreat
open Go.RowKit

set_option maxHeartbeats 2000000 in
theorem hdVmTop (w : World) (lo hi : Nat) (A0 : Option Addr) (n0 c0 : Nat) (s0 : List Frame) (A1 : Option Addr) (n1 c1 : Nat) (s1 : List Int) (x2 : Int) (x3 : Int) (x4 : Int) (x5 : Int) (A6 : Option Addr) (n6 c6 : Nat) (s6 : List Note) (k : Int) (h0 : Sl FrameR w lo hi A0 n0 c0 (mkL mkFrame cntFrame k s0)) (h1 : Sl intR w lo hi A1 n1 c1 (mkL mkInt cntInt (k + (cntL cntFrame s0 : Int)) s1)) (h6 : Sl noteR w lo hi A6 n6 c6 (mkL mkNote cntNote ((k + (cntL cntFrame s0 : Int)) + (cntL cntInt s1 : Int)) s6)) (hh : hi ≤ w.heap.size) (hk1 : 0 ≤ k) (hk2 : k + (cntL cntFrame s0 : Int) + (cntL cntInt s1 : Int) + (cntL cntNote s6 : Int) ≤ 1152921504606846976) :
    Calls Tryz.prog 16 #[.agg #[.slice A0 n0 c0, .slice A1 n1 c1, .int .i64 x2, .int .i64 x3, .int .i64 x4, .int .i64 x5, .slice A6 n6 c6], .int .i64 k] w (RetHd (k + (cntL cntFrame s0 : Int) + (cntL cntInt s1 : Int) + (cntL cntNote s6 : Int)) w) := by
  go_enter Tryz.func16, Tryz.ntmps16
  go_wp2_with fail
  refine (hdFrames _ lo hi n0 c0 A0 s0 k (h0.below (show Below w.heap.size w _ by exact belA) hh) (by simp; omega) (by omega) (by omega)).mono ?_
  rintro e w0 ⟨r0, rfl, q0, hx⟩
  have hb : Below w.heap.size w w0 := below_then (by exact belA) hx
  have hhr : hi ≤ w0.heap.size := by have := hb.size; omega
  obtain ⟨hcE, hfE⟩ := bcell hx
  have k1 : w0.cell? ⟨w.heap.size, 1, none⟩ = some (.slice A1 n1 c1) := by simp [hcE, go_sem]
  replace h1 := h1.below hb hh
  have k6 : w0.cell? ⟨w.heap.size, 6, none⟩ = some (.slice A6 n6 c6) := by simp [hcE, go_sem]
  replace h6 := h6.below hb hh
  clear hcE hfE
  have p0 : 0 ≤ r0 := by omega
  replace q0 := Lib.hid q0
  clear hx
  go_wp2_with fail
  have g1 := h1
  rw [← q0.out] at g1
  have b1 : r0 + (cntL cntInt s1 : Int) ≤ 1152921504606846976 := by have := q0.out; omega
  refine (hdInts _ lo hi n1 c1 A1 s1 r0 g1 (by omega) (by omega) b1).mono ?_
  rintro e w1 ⟨r1, rfl, q1, hx⟩
  replace hb := below_then hb hx
  replace k6 := below_cell hx k6
  replace h6 := h6.below hx (by omega)
  replace hhr : hi ≤ w1.heap.size := by have := hx.size; omega
  have p1 : 0 ≤ r1 := by omega
  replace q1 := Lib.hid q1
  clear hx
  go_wp2_with fail
  have g6 := h6
  rw [← q0.out, ← q1.out] at g6
  have b6 : r1 + (cntL cntNote s6 : Int) ≤ 1152921504606846976 := by have := q0.out; have := q1.out; omega
  refine (hdNotes _ lo hi n6 c6 A6 s6 r1 g6 (by omega) (by omega) b6).mono ?_
  rintro e w6 ⟨r6, rfl, q6, hx⟩
  replace hb := below_then hb hx
  replace hhr : hi ≤ w6.heap.size := by have := hx.size; omega
  have p6 : 0 ≤ r6 := by omega
  replace q6 := Lib.hid q6
  clear hx
  have hK := Lib.hid (show r6 = k + (cntL cntFrame s0 : Int) + (cntL cntInt s1 : Int) + (cntL cntNote s6 : Int) by have := q0.out; have := q1.out; have := q6.out; omega)
  go_wp2_with fail
  go_ret
  exact ⟨_, rfl, hK.out, hb⟩
end Go.Proofs.YtgdeclmciflmpaaGreat
