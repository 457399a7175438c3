/- Several texts in one: MkTok, MkStmt, MkFunc, MkProg, OcTok, OcStmt, OcFunc, OcProg, HdTok, HdStmt, HdFunc, HdProg. -/
import Derived.Test.YtgoinmdnpaknpaaKit1
import Derived.Test.YtgoinmdnpaknpaaTyPg

/- Marks over slices of Tok. Printed by markgen.py. Walks. -/
set_option linter.unusedVariables false
set_option linter.unusedSimpArgs false
set_option linter.unnecessarySimpa false
set_option maxRecDepth 100000
namespace Go.Proofs.Ytgoinmdnpaknpaa
open Go.RowKit

def cntTok (x : Tok) : Nat := 1 + 1
def mkTok (k : Int) (x : Tok) : Tok := (k, (k + 1))
theorem Tok_ownx {w : World} {F : List Nat} {cs : List Value} {x : Tok} (h : TokR.own w F cs x) : ∃ x0 x1, cs = ([.int .i64 x0, .int .i64 x1] : List Value) ∧ x = (x0, x1) ∧ F = [] ∧ ([] : List Nat).Nodup ∧ I64 x0 ∧ I64 x1 := by
  obtain ⟨_, _, _, _, rfl, rfl, ⟨rfl, rfl, i0⟩, ⟨rfl, rfl, i1⟩, nd0⟩ := h
  exact ⟨x.1, x.2, rfl, rfl, by simp, by simpa using nd0, i0, i1⟩
set_option maxHeartbeats 2000000 in
theorem mkToks (w : World) (n c : Nat) (A : Option Addr) (F : List Nat) (l : List Tok) (k : Int) (h : OwnSl TokR w 164 F (.slice A n c) l) (h1 : 0 ≤ k) (h2 : k + (cntL cntTok l : Int) ≤ 1152921504606846976) :
    Calls Try.prog 87 #[.slice A n c, .int .i64 k] w (RetMk TokR 164 mkTok cntTok l k F (.slice A n c) w) := by
  obtain ⟨_, hx, _, hl⟩ := h.row'
  have bn : n ≤ 9223372036854775807 := by obtain ⟨_, ⟨_, h0, _⟩ | ⟨_, _, h3, h4⟩⟩ := ownsRow_cases hx <;> omega
  clear hx
  go_enter Try.func87, Try.ntmps87
  go_wp2_with fail
  go_loopw [1, 5] (fun kk i wr => ∃ (j : Nat) (K : Int), j ≤ n ∧ i = .int .i64 j ∧ kk = .int .i64 K ∧ K = k + (cntL cntTok (l.take j) : Int) ∧ OwnSl TokR wr 164 F (.slice A n c) (mkL mkTok cntTok k (l.take j) ++ l.drop j) ∧ Fr F w wr) (fun _ i _ => n - (intOf i).toNat)
  case atStart => exact ⟨0, k, Nat.zero_le _, rfl, rfl, by simp [cntL], by simpa [mkL] using h, Fr.refl _ _⟩
  case round =>
    obtain ⟨j, K, hj, rfl, rfl, hK0, ho, hb⟩ := hrel
    have hK := Lib.hid hK0
    have hk0 : 0 ≤ K := by omega
    clear hK0
    by_cases hlt : j < n
    · have hjl : j < l.length := by omega
      have c1 := cntL_succ (cnt := cntTok) hjl
      have c2 := cntL_take_le (cnt := cntTok) l (j + 1)
      have hk2 : K + (cntTok l[j] : Int) ≤ 1152921504606846976 := by have := hK.out; omega
      have hK1 := Lib.hid (show K + (cntTok l[j] : Int) = k + (cntL cntTok (l.take (j + 1)) : Int) by have := hK.out; omega)
      clear c1 c2
      obtain ⟨g, pre, cs, post, Fj, hA, hn0, hpre, hown, hrow, hgF, hgj, hsub0, put0⟩ := ho.focus (by decide) (j := j) (by simp [mkL_len]; omega)
      clear hn0
      subst hA
      rw [mkL_at hjl] at hown
      have hsub := Lib.hid hsub0
      clear hsub0
      have put := Lib.hid put0
      have hltF := Lib.hid ho.lt
      clear put0 ho
      obtain ⟨x0, x1, rfl, hx0, rfl, hnd, _, _⟩ := Tok_ownx hown
      have hx := Lib.hid hx0
      rw [hx0] at hk2
      simp only [cntTok] at hk2
      clear hx0 hown
      have hpreH : Hid (pre.length = j * 2) := hpre
      clear hpre
      have r0 := hrow
      have fa : Fr (g :: []) wr wr := Fr.refl _ _
      have u0 : wr.cell? ⟨g, j * 2, none⟩ = some (.int .i64 x0) := rowCell hrow hpreH.out (i := 0) (by simp)
      have u1 : wr.cell? ⟨g, j * 2 + 1, none⟩ = some (.int .i64 x1) := rowCell hrow hpreH.out (i := 1) (by simp)
      have v0 := hrow.frozenAt (j * 2)
      have v1 := hrow.frozenAt (j * 2 + 1)
      have r1 := rowSet r0 hpreH.out (i := 0) (by simp) (.int .i64 K)
      simp only [List.set_cons_zero, List.set_cons_succ] at r1
      have r2 := rowSet r1 hpreH.out (i := 1) (by simp) (.int .i64 (K + 1))
      simp only [List.set_cons_zero, List.set_cons_succ] at r2
      have hfin := Lib.hid (show mkTok K l[j] = (K, (K + 1)) by rw [hx.out]; simp only [mkTok])
      have hcnt := Lib.hid (show K + 1 + 1 = K + (cntTok l[j] : Int) by rw [hx.out]; simp only [cntTok];  omega)
      have fin : ∀ W : World, W.ownsRow 0 164 2 (.slice (some ⟨g, 0, none⟩) n c) n (pre ++ [.int .i64 K, .int .i64 (K + 1)] ++ post) → Fr [g] wr W → OwnSl TokR W 164 F (.slice (some ⟨g, 0, none⟩) n c) (mkL mkTok cntTok k (l.take (j + 1)) ++ l.drop (j + 1)) := by
        intro W hr hf
        have hall : Fr (g :: []) wr W := fr_then (hf.more (fun z hz => by simp at hz; subst hz; exact List.mem_cons_self ..)) fa
        have := put.out W _ (mkTok K l[j]) (by rw [hfin.out]; exact Tok_own _ _ _ ⟨by omega, by omega⟩ ⟨by omega, by omega⟩) hr (fun q hq hne hnot => hall.block q (hltF.out q hq) (fun hx => by rcases List.mem_cons.1 hx with hx | hx; exact hne hx; exact hnot hx))
        have e1 := hK.out
        rw [e1, mkL_step hjl] at this
        exact this
      have finH := Lib.hid fin
      clear fin
      go_wp2_with fail
      go_roundw
      case rel => exact ⟨j + 1, _, by omega, by go_num, rfl, by rw [← hK1.out, ← hcnt.out], finH.out _ r2 (by exact frcA), by exact frcA⟩
      case measure => simp [intOf]; omega
    · have hjn := Lib.hid (show j = n by omega)
      have e1 : mkL mkTok cntTok k (l.take j) ++ l.drop j = mkL mkTok cntTok k l := by rw [List.take_of_length_le (by omega), List.drop_of_length_le (by omega), List.append_nil]
      rw [e1] at ho
      clear e1
      rw [List.take_of_length_le (by omega)] at hK
      go_wp2_with fail
      go_ret
      exact ⟨_, rfl, hK.out, ho, hb⟩
end Go.Proofs.Ytgoinmdnpaknpaa

/- Marks over slices of Stmt. Printed by markgen.py. Walks. -/
set_option linter.unusedVariables false
set_option linter.unusedSimpArgs false
set_option linter.unnecessarySimpa false
set_option maxRecDepth 100000
namespace Go.Proofs.Ytgoinmdnpaknpaa
open Go.RowKit

def cntStmt (x : Stmt) : Nat := 1 + 1 + cntL cntTok (x.2.2.1) + cntL cntInt (x.2.2.2.1) + cntL cntInt (x.2.2.2.2)
def mkStmt (k : Int) (x : Stmt) : Stmt := (k, (k + 1), mkL mkTok cntTok ((k + 1) + 1) (x.2.2.1), mkL mkInt cntInt (((k + 1) + 1) + (cntL cntTok (x.2.2.1) : Int)) (x.2.2.2.1), mkL mkInt cntInt ((((k + 1) + 1) + (cntL cntTok (x.2.2.1) : Int)) + (cntL cntInt (x.2.2.2.1) : Int)) (x.2.2.2.2))
theorem Stmt_ownx {w : World} {F : List Nat} {cs : List Value} {x : Stmt} (h : StmtR.own w F cs x) : ∃ x0 x1 A2 n2 c2 s2 A3 n3 c3 s3 A4 n4 c4 s4 F2 F3 F4, cs = ([.int .i64 x0, .int .i64 x1, .slice A2 n2 c2, .slice A3 n3 c3, .slice A4 n4 c4] : List Value) ∧ x = (x0, x1, s2, s3, s4) ∧ F = (F2 ++ (F3 ++ F4)) ∧ ((F2 ++ (F3 ++ F4)) : List Nat).Nodup ∧ I64 x0 ∧ I64 x1 ∧ OwnSl TokR w 164 F2 (.slice A2 n2 c2) s2 ∧ OwnSl intR w 3 F3 (.slice A3 n3 c3) s3 ∧ OwnSl intR w 3 F4 (.slice A4 n4 c4) s4 := by
  obtain ⟨_, _, _, _, rfl, rfl, ⟨rfl, rfl, i0⟩, ⟨_, _, _, _, rfl, rfl, ⟨rfl, rfl, i1⟩, ⟨_, _, F2, _, rfl, rfl, ⟨A2, n2, c2, rfl, o2⟩, ⟨_, _, F3, F4, rfl, rfl, ⟨A3, n3, c3, rfl, o3⟩, ⟨A4, n4, c4, rfl, o4⟩, nd3⟩, nd2⟩, nd1⟩, nd0⟩ := h
  exact ⟨x.1, x.2.1, A2, n2, c2, x.2.2.1, A3, n3, c3, x.2.2.2.1, A4, n4, c4, x.2.2.2.2, F2, F3, F4, rfl, rfl, by simp, by simpa using nd0, i0, i1, o2, o3, o4⟩
set_option maxHeartbeats 2000000 in
theorem mkStmts (w : World) (n c : Nat) (A : Option Addr) (F : List Nat) (l : List Stmt) (k : Int) (h : OwnSl StmtR w 120 F (.slice A n c) l) (h1 : 0 ≤ k) (h2 : k + (cntL cntStmt l : Int) ≤ 1152921504606846976) :
    Calls Try.prog 62 #[.slice A n c, .int .i64 k] w (RetMk StmtR 120 mkStmt cntStmt l k F (.slice A n c) w) := by
  obtain ⟨_, hx, _, hl⟩ := h.row'
  have bn : n ≤ 9223372036854775807 := by obtain ⟨_, ⟨_, h0, _⟩ | ⟨_, _, h3, h4⟩⟩ := ownsRow_cases hx <;> omega
  clear hx
  go_enter Try.func62, Try.ntmps62
  go_wp2_with fail
  go_loopw [1, 5] (fun kk i wr => ∃ (j : Nat) (K : Int), j ≤ n ∧ i = .int .i64 j ∧ kk = .int .i64 K ∧ K = k + (cntL cntStmt (l.take j) : Int) ∧ OwnSl StmtR wr 120 F (.slice A n c) (mkL mkStmt cntStmt k (l.take j) ++ l.drop j) ∧ Fr F w wr) (fun _ i _ => n - (intOf i).toNat)
  case atStart => exact ⟨0, k, Nat.zero_le _, rfl, rfl, by simp [cntL], by simpa [mkL] using h, Fr.refl _ _⟩
  case round =>
    obtain ⟨j, K, hj, rfl, rfl, hK0, ho, hb⟩ := hrel
    have hK := Lib.hid hK0
    have hk0 : 0 ≤ K := by omega
    clear hK0
    by_cases hlt : j < n
    · have hjl : j < l.length := by omega
      have c1 := cntL_succ (cnt := cntStmt) hjl
      have c2 := cntL_take_le (cnt := cntStmt) l (j + 1)
      have hk2 : K + (cntStmt l[j] : Int) ≤ 1152921504606846976 := by have := hK.out; omega
      have hK1 := Lib.hid (show K + (cntStmt l[j] : Int) = k + (cntL cntStmt (l.take (j + 1)) : Int) by have := hK.out; omega)
      clear c1 c2
      obtain ⟨g, pre, cs, post, Fj, hA, hn0, hpre, hown, hrow, hgF, hgj, hsub0, put0⟩ := ho.focus (by decide) (j := j) (by simp [mkL_len]; omega)
      clear hn0
      subst hA
      rw [mkL_at hjl] at hown
      have hsub := Lib.hid hsub0
      clear hsub0
      have put := Lib.hid put0
      have hltF := Lib.hid ho.lt
      clear put0 ho
      obtain ⟨x0, x1, A2, n2, c2, s2, A3, n3, c3, s3, A4, n4, c4, s4, F2, F3, F4, rfl, hx0, rfl, hnd, _, _, o2, o3, o4⟩ := Stmt_ownx hown
      have hx := Lib.hid hx0
      rw [hx0] at hk2
      simp only [cntStmt] at hk2
      clear hx0 hown
      have hpreH : Hid (pre.length = j * 5) := hpre
      clear hpre
      have r0 := hrow
      have g2 : g ∉ F2 := fun hh => hgj (by simp [hh])
      have g3 : g ∉ F3 := fun hh => hgj (by simp [hh])
      have g4 : g ∉ F4 := fun hh => hgj (by simp [hh])
      have D23 : ∀ z, z ∈ F2 → z ∉ F3 := fun z h1 h2 => (List.nodup_append.1 hnd).2.2 z h1 z (List.mem_append_left _ h2) rfl
      have D32 : ∀ z, z ∈ F3 → z ∉ F2 := fun z h1 h2 => D23 z h2 h1
      have D24 : ∀ z, z ∈ F2 → z ∉ F4 := fun z h1 h2 => (List.nodup_append.1 hnd).2.2 z h1 z (List.mem_append_right _ h2) rfl
      have D42 : ∀ z, z ∈ F4 → z ∉ F2 := fun z h1 h2 => D24 z h2 h1
      have D34 : ∀ z, z ∈ F3 → z ∉ F4 := fun z h1 h2 => (List.nodup_append.1 (List.nodup_append.1 hnd).2.1).2.2 z h1 z h2 rfl
      have D43 : ∀ z, z ∈ F4 → z ∉ F3 := fun z h1 h2 => D34 z h2 h1
      have fa : Fr (g :: (F2 ++ (F3 ++ F4))) wr wr := Fr.refl _ _
      have u0 : wr.cell? ⟨g, j * 5, none⟩ = some (.int .i64 x0) := rowCell hrow hpreH.out (i := 0) (by simp)
      have u1 : wr.cell? ⟨g, j * 5 + 1, none⟩ = some (.int .i64 x1) := rowCell hrow hpreH.out (i := 1) (by simp)
      have u2 : wr.cell? ⟨g, j * 5 + 2, none⟩ = some (.slice A2 n2 c2) := rowCell hrow hpreH.out (i := 2) (by simp)
      have u3 : wr.cell? ⟨g, j * 5 + 3, none⟩ = some (.slice A3 n3 c3) := rowCell hrow hpreH.out (i := 3) (by simp)
      have u4 : wr.cell? ⟨g, j * 5 + 4, none⟩ = some (.slice A4 n4 c4) := rowCell hrow hpreH.out (i := 4) (by simp)
      have v0 := hrow.frozenAt (j * 5)
      have v1 := hrow.frozenAt (j * 5 + 1)
      have v2 := hrow.frozenAt (j * 5 + 2)
      have v3 := hrow.frozenAt (j * 5 + 3)
      have v4 := hrow.frozenAt (j * 5 + 4)
      have r1 := rowSet r0 hpreH.out (i := 0) (by simp) (.int .i64 K)
      simp only [List.set_cons_zero, List.set_cons_succ] at r1
      have r2 := rowSet r1 hpreH.out (i := 1) (by simp) (.int .i64 (K + 1))
      simp only [List.set_cons_zero, List.set_cons_succ] at r2
      go_wp2_with fail
      refine (mkToks _ n2 c2 A2 F2 s2 (K + 1 + 1) (o2.fr (G := [g]) (by exact frcA) (fun q hq hq' => by simp at hq'; subst hq'; exact g2 hq)) (by omega) (by omega)).mono ?_
      rintro e w2 ⟨k2, rfl, hk20, o2, f2⟩
      have z2 : K + 1 + 1 ≤ k2 := by omega
      have hq2 := Lib.hid hk20
      have y2 : k2 + (cntL cntInt s3 + cntL cntInt s4 : Nat) ≤ 1152921504606846976 := by omega
      clear hk20
      replace fa : Fr (g :: (F2 ++ (F3 ++ F4))) wr w2 := fr_then (f2.more (fun q hq => List.mem_cons_of_mem _ (by simp [hq]))) (by exact frcA)
      replace o3 := o3.fr2 f2 (G := [g]) (by exact frcA) (fun q hq hq' => by simp at hq'; subst hq'; exact g3 hq) D32
      replace o4 := o4.fr2 f2 (G := [g]) (by exact frcA) (fun q hq hq' => by simp at hq'; subst hq'; exact g4 hq) D42
      have r3 := row_fr r2 f2 g2
      clear u0 v0 u1 v1 u2 v2 u3 v3 u4 v4
      have u0 : w2.cell? ⟨g, j * 5, none⟩ = some (.int .i64 K) := rowCell r3 hpreH.out (i := 0) (by simp)
      have u1 : w2.cell? ⟨g, j * 5 + 1, none⟩ = some (.int .i64 (K + 1)) := rowCell r3 hpreH.out (i := 1) (by simp)
      have u2 : w2.cell? ⟨g, j * 5 + 2, none⟩ = some (.slice A2 n2 c2) := rowCell r3 hpreH.out (i := 2) (by simp)
      have u3 : w2.cell? ⟨g, j * 5 + 3, none⟩ = some (.slice A3 n3 c3) := rowCell r3 hpreH.out (i := 3) (by simp)
      have u4 : w2.cell? ⟨g, j * 5 + 4, none⟩ = some (.slice A4 n4 c4) := rowCell r3 hpreH.out (i := 4) (by simp)
      have v0 := r3.frozenAt (j * 5)
      have v1 := r3.frozenAt (j * 5 + 1)
      have v2 := r3.frozenAt (j * 5 + 2)
      have v3 := r3.frozenAt (j * 5 + 3)
      have v4 := r3.frozenAt (j * 5 + 4)
      go_wp2_with fail
      refine (mkInts _ n3 c3 A3 F3 s3 (k2) (o3.fr (G := [g]) (by exact frcA) (fun q hq hq' => by simp at hq'; subst hq'; exact g3 hq)) (by omega) (by omega)).mono ?_
      rintro e w3 ⟨k3, rfl, hk30, o3, f3⟩
      have z3 : k2 ≤ k3 := by omega
      have hq3 := Lib.hid hk30
      have y3 : k3 + (cntL cntInt s4 : Nat) ≤ 1152921504606846976 := by omega
      clear hk30
      replace fa : Fr (g :: (F2 ++ (F3 ++ F4))) wr w3 := fr_then (f3.more (fun q hq => List.mem_cons_of_mem _ (by simp [hq]))) (by exact frcA)
      replace o2 := o2.fr2 f3 (G := [g]) (by exact frcA) (fun q hq hq' => by simp at hq'; subst hq'; exact g2 hq) D23
      replace o4 := o4.fr2 f3 (G := [g]) (by exact frcA) (fun q hq hq' => by simp at hq'; subst hq'; exact g4 hq) D43
      have r4 := row_fr r3 f3 g3
      clear u0 v0 u1 v1 u2 v2 u3 v3 u4 v4
      have u0 : w3.cell? ⟨g, j * 5, none⟩ = some (.int .i64 K) := rowCell r4 hpreH.out (i := 0) (by simp)
      have u1 : w3.cell? ⟨g, j * 5 + 1, none⟩ = some (.int .i64 (K + 1)) := rowCell r4 hpreH.out (i := 1) (by simp)
      have u2 : w3.cell? ⟨g, j * 5 + 2, none⟩ = some (.slice A2 n2 c2) := rowCell r4 hpreH.out (i := 2) (by simp)
      have u3 : w3.cell? ⟨g, j * 5 + 3, none⟩ = some (.slice A3 n3 c3) := rowCell r4 hpreH.out (i := 3) (by simp)
      have u4 : w3.cell? ⟨g, j * 5 + 4, none⟩ = some (.slice A4 n4 c4) := rowCell r4 hpreH.out (i := 4) (by simp)
      have v0 := r4.frozenAt (j * 5)
      have v1 := r4.frozenAt (j * 5 + 1)
      have v2 := r4.frozenAt (j * 5 + 2)
      have v3 := r4.frozenAt (j * 5 + 3)
      have v4 := r4.frozenAt (j * 5 + 4)
      go_wp2_with fail
      refine (mkInts _ n4 c4 A4 F4 s4 (k3) (o4.fr (G := [g]) (by exact frcA) (fun q hq hq' => by simp at hq'; subst hq'; exact g4 hq)) (by omega) (by omega)).mono ?_
      rintro e w4 ⟨k4, rfl, hk40, o4, f4⟩
      have z4 : k3 ≤ k4 := by omega
      have hq4 := Lib.hid hk40
      have y4 : k4 + (0 : Nat) ≤ 1152921504606846976 := by omega
      clear hk40
      replace fa : Fr (g :: (F2 ++ (F3 ++ F4))) wr w4 := fr_then (f4.more (fun q hq => List.mem_cons_of_mem _ (by simp [hq]))) (by exact frcA)
      replace o2 := o2.fr2 f4 (G := [g]) (by exact frcA) (fun q hq hq' => by simp at hq'; subst hq'; exact g2 hq) D24
      replace o3 := o3.fr2 f4 (G := [g]) (by exact frcA) (fun q hq hq' => by simp at hq'; subst hq'; exact g3 hq) D34
      have r5 := row_fr r4 f4 g4
      clear u0 v0 u1 v1 u2 v2 u3 v3 u4 v4
      have u0 : w4.cell? ⟨g, j * 5, none⟩ = some (.int .i64 K) := rowCell r5 hpreH.out (i := 0) (by simp)
      have u1 : w4.cell? ⟨g, j * 5 + 1, none⟩ = some (.int .i64 (K + 1)) := rowCell r5 hpreH.out (i := 1) (by simp)
      have u2 : w4.cell? ⟨g, j * 5 + 2, none⟩ = some (.slice A2 n2 c2) := rowCell r5 hpreH.out (i := 2) (by simp)
      have u3 : w4.cell? ⟨g, j * 5 + 3, none⟩ = some (.slice A3 n3 c3) := rowCell r5 hpreH.out (i := 3) (by simp)
      have u4 : w4.cell? ⟨g, j * 5 + 4, none⟩ = some (.slice A4 n4 c4) := rowCell r5 hpreH.out (i := 4) (by simp)
      have v0 := r5.frozenAt (j * 5)
      have v1 := r5.frozenAt (j * 5 + 1)
      have v2 := r5.frozenAt (j * 5 + 2)
      have v3 := r5.frozenAt (j * 5 + 3)
      have v4 := r5.frozenAt (j * 5 + 4)
      have hfin := Lib.hid (show mkStmt K l[j] = (K, (K + 1), mkL mkTok cntTok (K + 1 + 1) s2, mkL mkInt cntInt k2 s3, mkL mkInt cntInt k3 s4) by rw [hx.out]; simp only [mkStmt, ← hq2.out, ← hq3.out, ← hq4.out])
      have hcnt := Lib.hid (show k4 = K + (cntStmt l[j] : Int) by rw [hx.out]; simp only [cntStmt]; have a2 := hq2.out; have a3 := hq3.out; have a4 := hq4.out; omega)
      have fin : ∀ W : World, W.ownsRow 0 120 5 (.slice (some ⟨g, 0, none⟩) n c) n (pre ++ [.int .i64 K, .int .i64 (K + 1), .slice A2 n2 c2, .slice A3 n3 c3, .slice A4 n4 c4] ++ post) → Fr [g] w4 W → OwnSl StmtR W 120 F (.slice (some ⟨g, 0, none⟩) n c) (mkL mkStmt cntStmt k (l.take (j + 1)) ++ l.drop (j + 1)) := by
        intro W hr hf
        have hall : Fr (g :: (F2 ++ (F3 ++ F4))) wr W := fr_then (hf.more (fun z hz => by simp at hz; subst hz; exact List.mem_cons_self ..)) fa
        have := put.out W _ (mkStmt K l[j]) (by rw [hfin.out]; exact Stmt_own (o2.fr hf (fun q hq hq' => by simp at hq'; subst hq'; exact g2 hq)) (o3.fr hf (fun q hq hq' => by simp at hq'; subst hq'; exact g3 hq)) (o4.fr hf (fun q hq hq' => by simp at hq'; subst hq'; exact g4 hq)) ⟨by omega, by omega⟩ ⟨by omega, by omega⟩ hnd) hr (fun q hq hne hnot => hall.block q (hltF.out q hq) (fun hx => by rcases List.mem_cons.1 hx with hx | hx; exact hne hx; exact hnot hx))
        have e1 := hK.out
        rw [e1, mkL_step hjl] at this
        exact this
      have hbF : Fr F w w4 := fr_then (fa.more (fun q hq => by rcases List.mem_cons.1 hq with rfl | hq; exact hgF; exact hsub.out q hq)) hb
      have finH := Lib.hid fin
      clear fin
      go_wp2_with fail
      go_roundw
      case rel => exact ⟨j + 1, _, by omega, by go_num, rfl, by rw [← hK1.out, ← hcnt.out], finH.out _ r5 (by exact frcA), by exact frcA⟩
      case measure => simp [intOf]; omega
    · have hjn := Lib.hid (show j = n by omega)
      have e1 : mkL mkStmt cntStmt k (l.take j) ++ l.drop j = mkL mkStmt cntStmt k l := by rw [List.take_of_length_le (by omega), List.drop_of_length_le (by omega), List.append_nil]
      rw [e1] at ho
      clear e1
      rw [List.take_of_length_le (by omega)] at hK
      go_wp2_with fail
      go_ret
      exact ⟨_, rfl, hK.out, ho, hb⟩
end Go.Proofs.Ytgoinmdnpaknpaa

/- Marks over slices of Func. Printed by markgen.py. Walks. -/
set_option linter.unusedVariables false
set_option linter.unusedSimpArgs false
set_option linter.unnecessarySimpa false
set_option maxRecDepth 100000
namespace Go.Proofs.Ytgoinmdnpaknpaa
open Go.RowKit

def cntFunc (x : Func) : Nat := 1 + 1 + cntL cntInt (x.2.2.1) + cntL cntStmt (x.2.2.2)
def mkFunc (k : Int) (x : Func) : Func := (k, (k + 1), mkL mkInt cntInt ((k + 1) + 1) (x.2.2.1), mkL mkStmt cntStmt (((k + 1) + 1) + (cntL cntInt (x.2.2.1) : Int)) (x.2.2.2))
theorem Func_ownx {w : World} {F : List Nat} {cs : List Value} {x : Func} (h : FuncR.own w F cs x) : ∃ x0 x1 A2 n2 c2 s2 A3 n3 c3 s3 F2 F3, cs = ([.int .i64 x0, .int .i64 x1, .slice A2 n2 c2, .slice A3 n3 c3] : List Value) ∧ x = (x0, x1, s2, s3) ∧ F = (F2 ++ F3) ∧ ((F2 ++ F3) : List Nat).Nodup ∧ I64 x0 ∧ I64 x1 ∧ OwnSl intR w 3 F2 (.slice A2 n2 c2) s2 ∧ OwnSl StmtR w 120 F3 (.slice A3 n3 c3) s3 := by
  obtain ⟨_, _, _, _, rfl, rfl, ⟨rfl, rfl, i0⟩, ⟨_, _, _, _, rfl, rfl, ⟨rfl, rfl, i1⟩, ⟨_, _, F2, F3, rfl, rfl, ⟨A2, n2, c2, rfl, o2⟩, ⟨A3, n3, c3, rfl, o3⟩, nd2⟩, nd1⟩, nd0⟩ := h
  exact ⟨x.1, x.2.1, A2, n2, c2, x.2.2.1, A3, n3, c3, x.2.2.2, F2, F3, rfl, rfl, by simp, by simpa using nd0, i0, i1, o2, o3⟩
set_option maxHeartbeats 2000000 in
theorem mkFuncs (w : World) (n c : Nat) (A : Option Addr) (F : List Nat) (l : List Func) (k : Int) (h : OwnSl FuncR w 97 F (.slice A n c) l) (h1 : 0 ≤ k) (h2 : k + (cntL cntFunc l : Int) ≤ 1152921504606846976) :
    Calls Try.prog 46 #[.slice A n c, .int .i64 k] w (RetMk FuncR 97 mkFunc cntFunc l k F (.slice A n c) w) := by
  obtain ⟨_, hx, _, hl⟩ := h.row'
  have bn : n ≤ 9223372036854775807 := by obtain ⟨_, ⟨_, h0, _⟩ | ⟨_, _, h3, h4⟩⟩ := ownsRow_cases hx <;> omega
  clear hx
  go_enter Try.func46, Try.ntmps46
  go_wp2_with fail
  go_loopw [1, 5] (fun kk i wr => ∃ (j : Nat) (K : Int), j ≤ n ∧ i = .int .i64 j ∧ kk = .int .i64 K ∧ K = k + (cntL cntFunc (l.take j) : Int) ∧ OwnSl FuncR wr 97 F (.slice A n c) (mkL mkFunc cntFunc k (l.take j) ++ l.drop j) ∧ Fr F w wr) (fun _ i _ => n - (intOf i).toNat)
  case atStart => exact ⟨0, k, Nat.zero_le _, rfl, rfl, by simp [cntL], by simpa [mkL] using h, Fr.refl _ _⟩
  case round =>
    obtain ⟨j, K, hj, rfl, rfl, hK0, ho, hb⟩ := hrel
    have hK := Lib.hid hK0
    have hk0 : 0 ≤ K := by omega
    clear hK0
    by_cases hlt : j < n
    · have hjl : j < l.length := by omega
      have c1 := cntL_succ (cnt := cntFunc) hjl
      have c2 := cntL_take_le (cnt := cntFunc) l (j + 1)
      have hk2 : K + (cntFunc l[j] : Int) ≤ 1152921504606846976 := by have := hK.out; omega
      have hK1 := Lib.hid (show K + (cntFunc l[j] : Int) = k + (cntL cntFunc (l.take (j + 1)) : Int) by have := hK.out; omega)
      clear c1 c2
      obtain ⟨g, pre, cs, post, Fj, hA, hn0, hpre, hown, hrow, hgF, hgj, hsub0, put0⟩ := ho.focus (by decide) (j := j) (by simp [mkL_len]; omega)
      clear hn0
      subst hA
      rw [mkL_at hjl] at hown
      have hsub := Lib.hid hsub0
      clear hsub0
      have put := Lib.hid put0
      have hltF := Lib.hid ho.lt
      clear put0 ho
      obtain ⟨x0, x1, A2, n2, c2, s2, A3, n3, c3, s3, F2, F3, rfl, hx0, rfl, hnd, _, _, o2, o3⟩ := Func_ownx hown
      have hx := Lib.hid hx0
      rw [hx0] at hk2
      simp only [cntFunc] at hk2
      clear hx0 hown
      have hpreH : Hid (pre.length = j * 4) := hpre
      clear hpre
      have r0 := hrow
      have g2 : g ∉ F2 := fun hh => hgj (by simp [hh])
      have g3 : g ∉ F3 := fun hh => hgj (by simp [hh])
      have D23 : ∀ z, z ∈ F2 → z ∉ F3 := fun z h1 h2 => (List.nodup_append.1 hnd).2.2 z h1 z h2 rfl
      have D32 : ∀ z, z ∈ F3 → z ∉ F2 := fun z h1 h2 => D23 z h2 h1
      have fa : Fr (g :: (F2 ++ F3)) wr wr := Fr.refl _ _
      have u0 : wr.cell? ⟨g, j * 4, none⟩ = some (.int .i64 x0) := rowCell hrow hpreH.out (i := 0) (by simp)
      have u1 : wr.cell? ⟨g, j * 4 + 1, none⟩ = some (.int .i64 x1) := rowCell hrow hpreH.out (i := 1) (by simp)
      have u2 : wr.cell? ⟨g, j * 4 + 2, none⟩ = some (.slice A2 n2 c2) := rowCell hrow hpreH.out (i := 2) (by simp)
      have u3 : wr.cell? ⟨g, j * 4 + 3, none⟩ = some (.slice A3 n3 c3) := rowCell hrow hpreH.out (i := 3) (by simp)
      have v0 := hrow.frozenAt (j * 4)
      have v1 := hrow.frozenAt (j * 4 + 1)
      have v2 := hrow.frozenAt (j * 4 + 2)
      have v3 := hrow.frozenAt (j * 4 + 3)
      have r1 := rowSet r0 hpreH.out (i := 0) (by simp) (.int .i64 K)
      simp only [List.set_cons_zero, List.set_cons_succ] at r1
      have r2 := rowSet r1 hpreH.out (i := 1) (by simp) (.int .i64 (K + 1))
      simp only [List.set_cons_zero, List.set_cons_succ] at r2
      go_wp2_with fail
      refine (mkInts _ n2 c2 A2 F2 s2 (K + 1 + 1) (o2.fr (G := [g]) (by exact frcA) (fun q hq hq' => by simp at hq'; subst hq'; exact g2 hq)) (by omega) (by omega)).mono ?_
      rintro e w2 ⟨k2, rfl, hk20, o2, f2⟩
      have z2 : K + 1 + 1 ≤ k2 := by omega
      have hq2 := Lib.hid hk20
      have y2 : k2 + (cntL cntStmt s3 : Nat) ≤ 1152921504606846976 := by omega
      clear hk20
      replace fa : Fr (g :: (F2 ++ F3)) wr w2 := fr_then (f2.more (fun q hq => List.mem_cons_of_mem _ (by simp [hq]))) (by exact frcA)
      replace o3 := o3.fr2 f2 (G := [g]) (by exact frcA) (fun q hq hq' => by simp at hq'; subst hq'; exact g3 hq) D32
      have r3 := row_fr r2 f2 g2
      clear u0 v0 u1 v1 u2 v2 u3 v3
      have u0 : w2.cell? ⟨g, j * 4, none⟩ = some (.int .i64 K) := rowCell r3 hpreH.out (i := 0) (by simp)
      have u1 : w2.cell? ⟨g, j * 4 + 1, none⟩ = some (.int .i64 (K + 1)) := rowCell r3 hpreH.out (i := 1) (by simp)
      have u2 : w2.cell? ⟨g, j * 4 + 2, none⟩ = some (.slice A2 n2 c2) := rowCell r3 hpreH.out (i := 2) (by simp)
      have u3 : w2.cell? ⟨g, j * 4 + 3, none⟩ = some (.slice A3 n3 c3) := rowCell r3 hpreH.out (i := 3) (by simp)
      have v0 := r3.frozenAt (j * 4)
      have v1 := r3.frozenAt (j * 4 + 1)
      have v2 := r3.frozenAt (j * 4 + 2)
      have v3 := r3.frozenAt (j * 4 + 3)
      go_wp2_with fail
      refine (mkStmts _ n3 c3 A3 F3 s3 (k2) (o3.fr (G := [g]) (by exact frcA) (fun q hq hq' => by simp at hq'; subst hq'; exact g3 hq)) (by omega) (by omega)).mono ?_
      rintro e w3 ⟨k3, rfl, hk30, o3, f3⟩
      have z3 : k2 ≤ k3 := by omega
      have hq3 := Lib.hid hk30
      have y3 : k3 + (0 : Nat) ≤ 1152921504606846976 := by omega
      clear hk30
      replace fa : Fr (g :: (F2 ++ F3)) wr w3 := fr_then (f3.more (fun q hq => List.mem_cons_of_mem _ (by simp [hq]))) (by exact frcA)
      replace o2 := o2.fr2 f3 (G := [g]) (by exact frcA) (fun q hq hq' => by simp at hq'; subst hq'; exact g2 hq) D23
      have r4 := row_fr r3 f3 g3
      clear u0 v0 u1 v1 u2 v2 u3 v3
      have u0 : w3.cell? ⟨g, j * 4, none⟩ = some (.int .i64 K) := rowCell r4 hpreH.out (i := 0) (by simp)
      have u1 : w3.cell? ⟨g, j * 4 + 1, none⟩ = some (.int .i64 (K + 1)) := rowCell r4 hpreH.out (i := 1) (by simp)
      have u2 : w3.cell? ⟨g, j * 4 + 2, none⟩ = some (.slice A2 n2 c2) := rowCell r4 hpreH.out (i := 2) (by simp)
      have u3 : w3.cell? ⟨g, j * 4 + 3, none⟩ = some (.slice A3 n3 c3) := rowCell r4 hpreH.out (i := 3) (by simp)
      have v0 := r4.frozenAt (j * 4)
      have v1 := r4.frozenAt (j * 4 + 1)
      have v2 := r4.frozenAt (j * 4 + 2)
      have v3 := r4.frozenAt (j * 4 + 3)
      have hfin := Lib.hid (show mkFunc K l[j] = (K, (K + 1), mkL mkInt cntInt (K + 1 + 1) s2, mkL mkStmt cntStmt k2 s3) by rw [hx.out]; simp only [mkFunc, ← hq2.out, ← hq3.out])
      have hcnt := Lib.hid (show k3 = K + (cntFunc l[j] : Int) by rw [hx.out]; simp only [cntFunc]; have a2 := hq2.out; have a3 := hq3.out; omega)
      have fin : ∀ W : World, W.ownsRow 0 97 4 (.slice (some ⟨g, 0, none⟩) n c) n (pre ++ [.int .i64 K, .int .i64 (K + 1), .slice A2 n2 c2, .slice A3 n3 c3] ++ post) → Fr [g] w3 W → OwnSl FuncR W 97 F (.slice (some ⟨g, 0, none⟩) n c) (mkL mkFunc cntFunc k (l.take (j + 1)) ++ l.drop (j + 1)) := by
        intro W hr hf
        have hall : Fr (g :: (F2 ++ F3)) wr W := fr_then (hf.more (fun z hz => by simp at hz; subst hz; exact List.mem_cons_self ..)) fa
        have := put.out W _ (mkFunc K l[j]) (by rw [hfin.out]; exact Func_own (o2.fr hf (fun q hq hq' => by simp at hq'; subst hq'; exact g2 hq)) (o3.fr hf (fun q hq hq' => by simp at hq'; subst hq'; exact g3 hq)) ⟨by omega, by omega⟩ ⟨by omega, by omega⟩ hnd) hr (fun q hq hne hnot => hall.block q (hltF.out q hq) (fun hx => by rcases List.mem_cons.1 hx with hx | hx; exact hne hx; exact hnot hx))
        have e1 := hK.out
        rw [e1, mkL_step hjl] at this
        exact this
      have hbF : Fr F w w3 := fr_then (fa.more (fun q hq => by rcases List.mem_cons.1 hq with rfl | hq; exact hgF; exact hsub.out q hq)) hb
      have finH := Lib.hid fin
      clear fin
      go_wp2_with fail
      go_roundw
      case rel => exact ⟨j + 1, _, by omega, by go_num, rfl, by rw [← hK1.out, ← hcnt.out], finH.out _ r4 (by exact frcA), by exact frcA⟩
      case measure => simp [intOf]; omega
    · have hjn := Lib.hid (show j = n by omega)
      have e1 : mkL mkFunc cntFunc k (l.take j) ++ l.drop j = mkL mkFunc cntFunc k l := by rw [List.take_of_length_le (by omega), List.drop_of_length_le (by omega), List.append_nil]
      rw [e1] at ho
      clear e1
      rw [List.take_of_length_le (by omega)] at hK
      go_wp2_with fail
      go_ret
      exact ⟨_, rfl, hK.out, ho, hb⟩
end Go.Proofs.Ytgoinmdnpaknpaa

/- Marks over slices of Prog. Printed by markgen.py. Walks. -/
set_option linter.unusedVariables false
set_option linter.unusedSimpArgs false
set_option linter.unnecessarySimpa false
set_option maxRecDepth 100000
namespace Go.Proofs.Ytgoinmdnpaknpaa
open Go.RowKit

def cntProg (x : Prog) : Nat := cntL cntFunc x
def mkProg (k : Int) (x : Prog) : Prog := mkL mkFunc cntFunc k x
set_option maxHeartbeats 1000000 in
theorem mkProgTop (w : World) (A0 : Option Addr) (n0 c0 : Nat) (s0 : List Func) (k : Int) (F0 : List Nat) (o0 : OwnSl FuncR w 97 F0 (.slice A0 n0 c0) s0) (hnd : (F0 : List Nat).Nodup) (h1 : 0 ≤ k) (h2 : k + (cntL cntFunc s0 : Nat) ≤ 1152921504606846976) :
    Calls Try.prog 25 #[.agg #[.slice A0 n0 c0], .int .i64 k] w fun e w' => ∃ r, e = .returned (.int .i64 r) ∧ r = k + (cntL cntFunc s0 : Nat) ∧ OwnSl FuncR w' 97 F0 (.slice A0 n0 c0) (mkL mkFunc cntFunc k s0) ∧ Fr F0 w w' := by
  have q0 : ∀ z, z ∈ F0 → z < w.heap.size := o0.lt
  go_enter Try.func25, Try.ntmps25
  go_wp2_with fail
  refine (mkFuncs _ n0 c0 A0 F0 s0 k (o0.below (by exact belA)) (by omega) (by omega)).mono ?_
  rintro e w0 ⟨k0, rfl, hk0, p0, f0⟩
  have hq0 := Lib.hid hk0
  have z0 : 0 ≤ k0 := by omega
  have y0 : k0 + (0 : Nat) ≤ 1152921504606846976 := by omega
  clear hk0
  have fa : Fr F0 w w0 := fr_then (f0.more (fun q hq => by simp [hq])) (Fr.of_below (by exact belA))
  have bx0 : ∀ o, w0.cell? ⟨w.heap.size, o, none⟩ = (#[.slice A0 n0 c0] : Array Value)[o]? := fun o => by
    rw [World.cell?_of_block (f0.block w.heap.size (by simp) (fun hh => by have := q0 _ hh; omega))]
    exact cell_of_row _ _ _ _ _ _ (heap_alloc_new w _)
  have hs0 : w.heap.size < w0.heap.size := by have := f0.size; first | omega | (simp at this; omega)
  have e0_0 : w0.cell? ⟨w.heap.size, 0, none⟩ = some (.slice A0 n0 c0) := bx0 0
  have bxH0 := Lib.hid bx0
  skip
  go_wp2_with fail
  go_ret
  exact ⟨_, rfl, by have a0 := hq0.out; omega, by have := p0; have a0 := hq0.out; simpa [a0] using this, fa⟩
end Go.Proofs.Ytgoinmdnpaknpaa

/- Tok: own data field by field; how many marks. Printed by ocgen.py. -/
set_option linter.unusedVariables false
set_option linter.unusedSimpArgs false
set_option maxRecDepth 100000
namespace Go.Proofs.Ytgoinmdnpaknpaa
open Go.RowKit

theorem cntTok_le (l : List Tok) : cntL cntTok l ≤ 16 * l.length := by
  induction l with
  | nil => simp [cntL]
  | cons x l ih => simp only [cntL, List.map_cons, List.sum_cons, List.length_cons] at *; simp only [cntTok] at *; omega
end Go.Proofs.Ytgoinmdnpaknpaa

/- Stmt: own data field by field; how many marks. Printed by ocgen.py. -/
set_option linter.unusedVariables false
set_option linter.unusedSimpArgs false
set_option maxRecDepth 100000
namespace Go.Proofs.Ytgoinmdnpaknpaa
open Go.RowKit

theorem Stmt_ownc {w : World} {F : List Nat} {x0 : Int} {x1 : Int} {A2 : Option Addr} {n2 c2 : Nat} {s2 : List Tok} {A3 : Option Addr} {n3 c3 : Nat} {s3 : List Int} {A4 : Option Addr} {n4 c4 : Nat} {s4 : List Int} (h : StmtR.own w F [.int .i64 x0, .int .i64 x1, .slice A2 n2 c2, .slice A3 n3 c3, .slice A4 n4 c4] (x0, x1, s2, s3, s4)) : ∃ F2 F3 F4, F = (F2 ++ (F3 ++ F4)) ∧ ((F2 ++ (F3 ++ F4)) : List Nat).Nodup ∧ OwnSl TokR w 164 F2 (.slice A2 n2 c2) s2 ∧ OwnSl intR w 3 F3 (.slice A3 n3 c3) s3 ∧ OwnSl intR w 3 F4 (.slice A4 n4 c4) s4 := by
  obtain ⟨x0q, x1q, A2q, n2q, c2q, s2q, A3q, n3q, c3q, s3q, A4q, n4q, c4q, s4q, F2, F3, F4, ec, ex, eF, nd, i0, i1, o2, o3, o4⟩ := Stmt_ownx h
  simp only [List.cons.injEq, Value.slice.injEq, Value.int.injEq, Value.bool.injEq, and_true, true_and, Prod.mk.injEq] at ec ex
  refine ⟨F2, F3, F4, eF, nd, ?_, ?_, ?_⟩
  · simp only [ec, ex]; exact o2
  · simp only [ec, ex]; exact o3
  · simp only [ec, ex]; exact o4
theorem cntStmt_le1 (x : Stmt) : cntStmt x ≤ 16 + 16 * mszStmt x := by
  have t2 := cntTok_le (x.2.2.1)
  have t3 := cntInt_le (x.2.2.2.1)
  have t4 := cntInt_le (x.2.2.2.2)
  simp only [cntStmt, mszStmt]; omega
theorem cntStmt_le (l : List Stmt) : cntL cntStmt l ≤ 16 * mszLStmt l := by
  induction l with
  | nil => simp [cntL]
  | cons x l ih => have := cntStmt_le1 x; simp only [cntL, mszLStmt, List.map_cons, List.sum_cons, List.length_cons] at *; omega
end Go.Proofs.Ytgoinmdnpaknpaa

/- Func: own data field by field; how many marks. Printed by ocgen.py. -/
set_option linter.unusedVariables false
set_option linter.unusedSimpArgs false
set_option maxRecDepth 100000
namespace Go.Proofs.Ytgoinmdnpaknpaa
open Go.RowKit

theorem Func_ownc {w : World} {F : List Nat} {x0 : Int} {x1 : Int} {A2 : Option Addr} {n2 c2 : Nat} {s2 : List Int} {A3 : Option Addr} {n3 c3 : Nat} {s3 : List Stmt} (h : FuncR.own w F [.int .i64 x0, .int .i64 x1, .slice A2 n2 c2, .slice A3 n3 c3] (x0, x1, s2, s3)) : ∃ F2 F3, F = (F2 ++ F3) ∧ ((F2 ++ F3) : List Nat).Nodup ∧ OwnSl intR w 3 F2 (.slice A2 n2 c2) s2 ∧ OwnSl StmtR w 120 F3 (.slice A3 n3 c3) s3 := by
  obtain ⟨x0q, x1q, A2q, n2q, c2q, s2q, A3q, n3q, c3q, s3q, F2, F3, ec, ex, eF, nd, i0, i1, o2, o3⟩ := Func_ownx h
  simp only [List.cons.injEq, Value.slice.injEq, Value.int.injEq, Value.bool.injEq, and_true, true_and, Prod.mk.injEq] at ec ex
  refine ⟨F2, F3, eF, nd, ?_, ?_⟩
  · simp only [ec, ex]; exact o2
  · simp only [ec, ex]; exact o3
theorem cntFunc_le1 (x : Func) : cntFunc x ≤ 16 + 16 * mszFunc x := by
  have t2 := cntInt_le (x.2.2.1)
  have t3 := cntStmt_le (x.2.2.2)
  simp only [cntFunc, mszFunc]; omega
theorem cntFunc_le (l : List Func) : cntL cntFunc l ≤ 16 * mszLFunc l := by
  induction l with
  | nil => simp [cntL]
  | cons x l ih => have := cntFunc_le1 x; simp only [cntL, mszLFunc, List.map_cons, List.sum_cons, List.length_cons] at *; omega
end Go.Proofs.Ytgoinmdnpaknpaa

/- Prog: own data field by field; how many marks. Printed by ocgen.py. -/
set_option linter.unusedVariables false
set_option linter.unusedSimpArgs false
set_option maxRecDepth 100000
namespace Go.Proofs.Ytgoinmdnpaknpaa
open Go.RowKit

theorem cntProg_le1 (x : Prog) : cntProg x ≤ 16 + 16 * mszProg x := by
  have t0 := cntFunc_le (x)
  simp only [cntProg, mszProg]; omega
theorem cntProg_le (l : List Prog) : cntL cntProg l ≤ 16 * mszLProg l := by
  induction l with
  | nil => simp [cntL]
  | cons x l ih => have := cntProg_le1 x; simp only [cntL, mszLProg, List.map_cons, List.sum_cons, List.length_cons] at *; omega
end Go.Proofs.Ytgoinmdnpaknpaa

/- Marks read back: Tok. Printed by heldgen.py. Walks. -/
set_option linter.unusedVariables false
set_option linter.unusedSimpArgs false
set_option linter.unnecessarySimpa false
set_option maxRecDepth 100000
namespace Go.Proofs.Ytgoinmdnpaknpaa
open Go.RowKit

end Go.Proofs.Ytgoinmdnpaknpaa

/- Marks read back: Stmt. Printed by heldgen.py. Walks. -/
set_option linter.unusedVariables false
set_option linter.unusedSimpArgs false
set_option linter.unnecessarySimpa false
set_option maxRecDepth 100000
namespace Go.Proofs.Ytgoinmdnpaknpaa
open Go.RowKit

end Go.Proofs.Ytgoinmdnpaknpaa

/- Marks read back: Func. Printed by heldgen.py. Walks. -/
set_option linter.unusedVariables false
set_option linter.unusedSimpArgs false
set_option linter.unnecessarySimpa false
set_option maxRecDepth 100000
namespace Go.Proofs.Ytgoinmdnpaknpaa
open Go.RowKit

end Go.Proofs.Ytgoinmdnpaknpaa

/- Marks read back: Prog. Printed by heldgen.py. Walks. -/
set_option linter.unusedVariables false
set_option linter.unusedSimpArgs false
set_option linter.unnecessarySimpa false
set_option maxRecDepth 100000
namespace Go.Proofs.Ytgoinmdnpaknpaa
open Go.RowKit

end Go.Proofs.Ytgoinmdnpaknpaa
