/- Several texts in one: MkIns, MkRow, MkCode, MkImage, OcIns, OcRow, OcCode, OcImage, HdIns, HdRow, HdCode, HdImage. -/
import Derived.Test.YtgoinmdnpaknpaaGreatKit1
import Derived.Test.YtgoinmdnpaknpaaGreatTyIm

/- Marks over slices of Ins. Printed by markgen.py. Walks. -/
set_option linter.unusedVariables false
set_option linter.unusedSimpArgs false
set_option linter.unnecessarySimpa false
set_option maxRecDepth 100000
namespace Go.Proofs.YtgoinmdnpaknpaaGreat
open Go.RowKit

def cntIns (x : Ins) : Nat := 1 + 1
def mkIns (k : Int) (x : Ins) : Ins := (k, (k + 1))
theorem Ins_ownx {w : World} {F : List Nat} {cs : List Value} {x : Ins} (h : InsR.own w F cs x) : ∃ x0 x1, cs = ([.int .i64 x0, .int .i64 x1] : List Value) ∧ x = (x0, x1) ∧ F = [] ∧ ([] : List Nat).Nodup ∧ I64 x0 ∧ I64 x1 := by
  obtain ⟨_, _, _, _, rfl, rfl, ⟨rfl, rfl, i0⟩, ⟨rfl, rfl, i1⟩, nd0⟩ := h
  exact ⟨x.1, x.2, rfl, rfl, by simp, by simpa using nd0, i0, i1⟩
set_option maxHeartbeats 2000000 in
theorem mkInss (w : World) (n c : Nat) (A : Option Addr) (F : List Nat) (l : List Ins) (k : Int) (h : OwnSl InsR w 67 F (.slice A n c) l) (h1 : 0 ≤ k) (h2 : k + (cntL cntIns l : Int) ≤ 1152921504606846976) :
    Calls Tryz.prog 32 #[.slice A n c, .int .i64 k] w (RetMk InsR 67 mkIns cntIns l k F (.slice A n c) w) := by
  obtain ⟨_, hx, _, hl⟩ := h.row'
  have bn : n ≤ 9223372036854775807 := by obtain ⟨_, ⟨_, h0, _⟩ | ⟨_, _, h3, h4⟩⟩ := ownsRow_cases hx <;> omega
  clear hx
  go_enter Tryz.func32, Tryz.ntmps32
  go_wp2_with fail
  go_loopw [1, 5] (fun kk i wr => ∃ (j : Nat) (K : Int), j ≤ n ∧ i = .int .i64 j ∧ kk = .int .i64 K ∧ K = k + (cntL cntIns (l.take j) : Int) ∧ OwnSl InsR wr 67 F (.slice A n c) (mkL mkIns cntIns k (l.take j) ++ l.drop j) ∧ Fr F w wr) (fun _ i _ => n - (intOf i).toNat)
  case atStart => exact ⟨0, k, Nat.zero_le _, rfl, rfl, by simp [cntL], by simpa [mkL] using h, Fr.refl _ _⟩
  case round =>
    obtain ⟨j, K, hj, rfl, rfl, hK0, ho, hb⟩ := hrel
    have hK := Lib.hid hK0
    have hk0 : 0 ≤ K := by omega
    clear hK0
    by_cases hlt : j < n
    · have hjl : j < l.length := by omega
      have c1 := cntL_succ (cnt := cntIns) hjl
      have c2 := cntL_take_le (cnt := cntIns) l (j + 1)
      have hk2 : K + (cntIns l[j] : Int) ≤ 1152921504606846976 := by have := hK.out; omega
      have hK1 := Lib.hid (show K + (cntIns l[j] : Int) = k + (cntL cntIns (l.take (j + 1)) : Int) by have := hK.out; omega)
      clear c1 c2
      obtain ⟨g, pre, cs, post, Fj, hA, hn0, hpre, hown, hrow, hgF, hgj, hsub0, put0⟩ := ho.focus (by decide) (j := j) (by simp [mkL_len]; omega)
      clear hn0
      subst hA
      rw [mkL_at hjl] at hown
      have hsub := Lib.hid hsub0
      clear hsub0
      have put := Lib.hid put0
      have hltF := Lib.hid ho.lt
      clear put0 ho
      obtain ⟨x0, x1, rfl, hx0, rfl, hnd, _, _⟩ := Ins_ownx hown
      have hx := Lib.hid hx0
      rw [hx0] at hk2
      simp only [cntIns] at hk2
      clear hx0 hown
      have hpreH : Hid (pre.length = j * 2) := hpre
      clear hpre
      have r0 := hrow
      have fa : Fr (g :: []) wr wr := Fr.refl _ _
      have u0 : wr.cell? ⟨g, j * 2, none⟩ = some (.int .i64 x0) := rowCell hrow hpreH.out (i := 0) (by simp)
      have u1 : wr.cell? ⟨g, j * 2 + 1, none⟩ = some (.int .i64 x1) := rowCell hrow hpreH.out (i := 1) (by simp)
      have v0 := hrow.frozenAt (j * 2)
      have v1 := hrow.frozenAt (j * 2 + 1)
      have r1 := rowSet r0 hpreH.out (i := 0) (by simp) (.int .i64 K)
      simp only [List.set_cons_zero, List.set_cons_succ] at r1
      have r2 := rowSet r1 hpreH.out (i := 1) (by simp) (.int .i64 (K + 1))
      simp only [List.set_cons_zero, List.set_cons_succ] at r2
      have hfin := Lib.hid (show mkIns K l[j] = (K, (K + 1)) by rw [hx.out]; simp only [mkIns])
      have hcnt := Lib.hid (show K + 1 + 1 = K + (cntIns l[j] : Int) by rw [hx.out]; simp only [cntIns];  omega)
      have fin : ∀ W : World, W.ownsRow 0 67 2 (.slice (some ⟨g, 0, none⟩) n c) n (pre ++ [.int .i64 K, .int .i64 (K + 1)] ++ post) → Fr [g] wr W → OwnSl InsR W 67 F (.slice (some ⟨g, 0, none⟩) n c) (mkL mkIns cntIns k (l.take (j + 1)) ++ l.drop (j + 1)) := by
        intro W hr hf
        have hall : Fr (g :: []) wr W := fr_then (hf.more (fun z hz => by simp at hz; subst hz; exact List.mem_cons_self ..)) fa
        have := put.out W _ (mkIns K l[j]) (by rw [hfin.out]; exact Ins_own _ _ _ ⟨by omega, by omega⟩ ⟨by omega, by omega⟩) hr (fun q hq hne hnot => hall.block q (hltF.out q hq) (fun hx => by rcases List.mem_cons.1 hx with hx | hx; exact hne hx; exact hnot hx))
        have e1 := hK.out
        rw [e1, mkL_step hjl] at this
        exact this
      have finH := Lib.hid fin
      clear fin
      go_wp2_with fail
      go_roundw
      case rel => exact ⟨j + 1, _, by omega, by go_num, rfl, by rw [← hK1.out, ← hcnt.out], finH.out _ r2 (by exact frcA), by exact frcA⟩
      case measure => simp [intOf]; omega
    · have hjn := Lib.hid (show j = n by omega)
      have e1 : mkL mkIns cntIns k (l.take j) ++ l.drop j = mkL mkIns cntIns k l := by rw [List.take_of_length_le (by omega), List.drop_of_length_le (by omega), List.append_nil]
      rw [e1] at ho
      clear e1
      rw [List.take_of_length_le (by omega)] at hK
      go_wp2_with fail
      go_ret
      exact ⟨_, rfl, hK.out, ho, hb⟩
end Go.Proofs.YtgoinmdnpaknpaaGreat

/- Marks over slices of Row. Printed by markgen.py. Walks. -/
set_option linter.unusedVariables false
set_option linter.unusedSimpArgs false
set_option linter.unnecessarySimpa false
set_option maxRecDepth 100000
namespace Go.Proofs.YtgoinmdnpaknpaaGreat
open Go.RowKit

def cntRow (x : Row) : Nat := 1 + 1 + 1
def mkRow (k : Int) (x : Row) : Row := (k, (k + 1), ((k + 1) + 1))
theorem Row_ownx {w : World} {F : List Nat} {cs : List Value} {x : Row} (h : RowR.own w F cs x) : ∃ x0 x1 x2, cs = ([.int .i64 x0, .int .i64 x1, .int .i64 x2] : List Value) ∧ x = (x0, x1, x2) ∧ F = [] ∧ ([] : List Nat).Nodup ∧ I64 x0 ∧ I64 x1 ∧ I64 x2 := by
  obtain ⟨_, _, _, _, rfl, rfl, ⟨rfl, rfl, i0⟩, ⟨_, _, _, _, rfl, rfl, ⟨rfl, rfl, i1⟩, ⟨rfl, rfl, i2⟩, nd1⟩, nd0⟩ := h
  exact ⟨x.1, x.2.1, x.2.2, rfl, rfl, by simp, by simpa using nd0, i0, i1, i2⟩
set_option maxHeartbeats 2000000 in
theorem mkRows (w : World) (n c : Nat) (A : Option Addr) (F : List Nat) (l : List Row) (k : Int) (h : OwnSl RowR w 71 F (.slice A n c) l) (h1 : 0 ≤ k) (h2 : k + (cntL cntRow l : Int) ≤ 1152921504606846976) :
    Calls Tryz.prog 33 #[.slice A n c, .int .i64 k] w (RetMk RowR 71 mkRow cntRow l k F (.slice A n c) w) := by
  obtain ⟨_, hx, _, hl⟩ := h.row'
  have bn : n ≤ 9223372036854775807 := by obtain ⟨_, ⟨_, h0, _⟩ | ⟨_, _, h3, h4⟩⟩ := ownsRow_cases hx <;> omega
  clear hx
  go_enter Tryz.func33, Tryz.ntmps33
  go_wp2_with fail
  go_loopw [1, 5] (fun kk i wr => ∃ (j : Nat) (K : Int), j ≤ n ∧ i = .int .i64 j ∧ kk = .int .i64 K ∧ K = k + (cntL cntRow (l.take j) : Int) ∧ OwnSl RowR wr 71 F (.slice A n c) (mkL mkRow cntRow k (l.take j) ++ l.drop j) ∧ Fr F w wr) (fun _ i _ => n - (intOf i).toNat)
  case atStart => exact ⟨0, k, Nat.zero_le _, rfl, rfl, by simp [cntL], by simpa [mkL] using h, Fr.refl _ _⟩
  case round =>
    obtain ⟨j, K, hj, rfl, rfl, hK0, ho, hb⟩ := hrel
    have hK := Lib.hid hK0
    have hk0 : 0 ≤ K := by omega
    clear hK0
    by_cases hlt : j < n
    · have hjl : j < l.length := by omega
      have c1 := cntL_succ (cnt := cntRow) hjl
      have c2 := cntL_take_le (cnt := cntRow) l (j + 1)
      have hk2 : K + (cntRow l[j] : Int) ≤ 1152921504606846976 := by have := hK.out; omega
      have hK1 := Lib.hid (show K + (cntRow l[j] : Int) = k + (cntL cntRow (l.take (j + 1)) : Int) by have := hK.out; omega)
      clear c1 c2
      obtain ⟨g, pre, cs, post, Fj, hA, hn0, hpre, hown, hrow, hgF, hgj, hsub0, put0⟩ := ho.focus (by decide) (j := j) (by simp [mkL_len]; omega)
      clear hn0
      subst hA
      rw [mkL_at hjl] at hown
      have hsub := Lib.hid hsub0
      clear hsub0
      have put := Lib.hid put0
      have hltF := Lib.hid ho.lt
      clear put0 ho
      obtain ⟨x0, x1, x2, rfl, hx0, rfl, hnd, _, _, _⟩ := Row_ownx hown
      have hx := Lib.hid hx0
      rw [hx0] at hk2
      simp only [cntRow] at hk2
      clear hx0 hown
      have hpreH : Hid (pre.length = j * 3) := hpre
      clear hpre
      have r0 := hrow
      have fa : Fr (g :: []) wr wr := Fr.refl _ _
      have u0 : wr.cell? ⟨g, j * 3, none⟩ = some (.int .i64 x0) := rowCell hrow hpreH.out (i := 0) (by simp)
      have u1 : wr.cell? ⟨g, j * 3 + 1, none⟩ = some (.int .i64 x1) := rowCell hrow hpreH.out (i := 1) (by simp)
      have u2 : wr.cell? ⟨g, j * 3 + 2, none⟩ = some (.int .i64 x2) := rowCell hrow hpreH.out (i := 2) (by simp)
      have v0 := hrow.frozenAt (j * 3)
      have v1 := hrow.frozenAt (j * 3 + 1)
      have v2 := hrow.frozenAt (j * 3 + 2)
      have r1 := rowSet r0 hpreH.out (i := 0) (by simp) (.int .i64 K)
      simp only [List.set_cons_zero, List.set_cons_succ] at r1
      have r2 := rowSet r1 hpreH.out (i := 1) (by simp) (.int .i64 (K + 1))
      simp only [List.set_cons_zero, List.set_cons_succ] at r2
      have r3 := rowSet r2 hpreH.out (i := 2) (by simp) (.int .i64 (K + 1 + 1))
      simp only [List.set_cons_zero, List.set_cons_succ] at r3
      have hfin := Lib.hid (show mkRow K l[j] = (K, (K + 1), (K + 1 + 1)) by rw [hx.out]; simp only [mkRow])
      have hcnt := Lib.hid (show K + 1 + 1 + 1 = K + (cntRow l[j] : Int) by rw [hx.out]; simp only [cntRow];  omega)
      have fin : ∀ W : World, W.ownsRow 0 71 3 (.slice (some ⟨g, 0, none⟩) n c) n (pre ++ [.int .i64 K, .int .i64 (K + 1), .int .i64 (K + 1 + 1)] ++ post) → Fr [g] wr W → OwnSl RowR W 71 F (.slice (some ⟨g, 0, none⟩) n c) (mkL mkRow cntRow k (l.take (j + 1)) ++ l.drop (j + 1)) := by
        intro W hr hf
        have hall : Fr (g :: []) wr W := fr_then (hf.more (fun z hz => by simp at hz; subst hz; exact List.mem_cons_self ..)) fa
        have := put.out W _ (mkRow K l[j]) (by rw [hfin.out]; exact Row_own _ _ _ _ ⟨by omega, by omega⟩ ⟨by omega, by omega⟩ ⟨by omega, by omega⟩) hr (fun q hq hne hnot => hall.block q (hltF.out q hq) (fun hx => by rcases List.mem_cons.1 hx with hx | hx; exact hne hx; exact hnot hx))
        have e1 := hK.out
        rw [e1, mkL_step hjl] at this
        exact this
      have finH := Lib.hid fin
      clear fin
      go_wp2_with fail
      go_roundw
      case rel => exact ⟨j + 1, _, by omega, by go_num, rfl, by rw [← hK1.out, ← hcnt.out], finH.out _ r3 (by exact frcA), by exact frcA⟩
      case measure => simp [intOf]; omega
    · have hjn := Lib.hid (show j = n by omega)
      have e1 : mkL mkRow cntRow k (l.take j) ++ l.drop j = mkL mkRow cntRow k l := by rw [List.take_of_length_le (by omega), List.drop_of_length_le (by omega), List.append_nil]
      rw [e1] at ho
      clear e1
      rw [List.take_of_length_le (by omega)] at hK
      go_wp2_with fail
      go_ret
      exact ⟨_, rfl, hK.out, ho, hb⟩
end Go.Proofs.YtgoinmdnpaknpaaGreat

/- Marks over slices of Code. Printed by markgen.py. Walks. -/
set_option linter.unusedVariables false
set_option linter.unusedSimpArgs false
set_option linter.unnecessarySimpa false
set_option maxRecDepth 100000
namespace Go.Proofs.YtgoinmdnpaknpaaGreat
open Go.RowKit

def cntCode (x : Code) : Nat := 1 + 1 + cntL cntInt (x.2.2.1) + cntL cntIns (x.2.2.2.1) + cntL cntRow (x.2.2.2.2)
def mkCode (k : Int) (x : Code) : Code := (k, (k + 1), mkL mkInt cntInt ((k + 1) + 1) (x.2.2.1), mkL mkIns cntIns (((k + 1) + 1) + (cntL cntInt (x.2.2.1) : Int)) (x.2.2.2.1), mkL mkRow cntRow ((((k + 1) + 1) + (cntL cntInt (x.2.2.1) : Int)) + (cntL cntIns (x.2.2.2.1) : Int)) (x.2.2.2.2))
theorem Code_ownx {w : World} {F : List Nat} {cs : List Value} {x : Code} (h : CodeR.own w F cs x) : ∃ x0 x1 A2 n2 c2 s2 A3 n3 c3 s3 A4 n4 c4 s4 F2 F3 F4, cs = ([.int .i64 x0, .int .i64 x1, .slice A2 n2 c2, .slice A3 n3 c3, .slice A4 n4 c4] : List Value) ∧ x = (x0, x1, s2, s3, s4) ∧ F = (F2 ++ (F3 ++ F4)) ∧ ((F2 ++ (F3 ++ F4)) : List Nat).Nodup ∧ I64 x0 ∧ I64 x1 ∧ OwnSl intR w 3 F2 (.slice A2 n2 c2) s2 ∧ OwnSl InsR w 67 F3 (.slice A3 n3 c3) s3 ∧ OwnSl RowR w 71 F4 (.slice A4 n4 c4) s4 := by
  obtain ⟨_, _, _, _, rfl, rfl, ⟨rfl, rfl, i0⟩, ⟨_, _, _, _, rfl, rfl, ⟨rfl, rfl, i1⟩, ⟨_, _, F2, _, rfl, rfl, ⟨A2, n2, c2, rfl, o2⟩, ⟨_, _, F3, F4, rfl, rfl, ⟨A3, n3, c3, rfl, o3⟩, ⟨A4, n4, c4, rfl, o4⟩, nd3⟩, nd2⟩, nd1⟩, nd0⟩ := h
  exact ⟨x.1, x.2.1, A2, n2, c2, x.2.2.1, A3, n3, c3, x.2.2.2.1, A4, n4, c4, x.2.2.2.2, F2, F3, F4, rfl, rfl, by simp, by simpa using nd0, i0, i1, o2, o3, o4⟩
set_option maxHeartbeats 2000000 in
theorem mkCodes (w : World) (n c : Nat) (A : Option Addr) (F : List Nat) (l : List Code) (k : Int) (h : OwnSl CodeR w 39 F (.slice A n c) l) (h1 : 0 ≤ k) (h2 : k + (cntL cntCode l : Int) ≤ 1152921504606846976) :
    Calls Tryz.prog 17 #[.slice A n c, .int .i64 k] w (RetMk CodeR 39 mkCode cntCode l k F (.slice A n c) w) := by
  obtain ⟨_, hx, _, hl⟩ := h.row'
  have bn : n ≤ 9223372036854775807 := by obtain ⟨_, ⟨_, h0, _⟩ | ⟨_, _, h3, h4⟩⟩ := ownsRow_cases hx <;> omega
  clear hx
  go_enter Tryz.func17, Tryz.ntmps17
  go_wp2_with fail
  go_loopw [1, 5] (fun kk i wr => ∃ (j : Nat) (K : Int), j ≤ n ∧ i = .int .i64 j ∧ kk = .int .i64 K ∧ K = k + (cntL cntCode (l.take j) : Int) ∧ OwnSl CodeR wr 39 F (.slice A n c) (mkL mkCode cntCode k (l.take j) ++ l.drop j) ∧ Fr F w wr) (fun _ i _ => n - (intOf i).toNat)
  case atStart => exact ⟨0, k, Nat.zero_le _, rfl, rfl, by simp [cntL], by simpa [mkL] using h, Fr.refl _ _⟩
  case round =>
    obtain ⟨j, K, hj, rfl, rfl, hK0, ho, hb⟩ := hrel
    have hK := Lib.hid hK0
    have hk0 : 0 ≤ K := by omega
    clear hK0
    by_cases hlt : j < n
    · have hjl : j < l.length := by omega
      have c1 := cntL_succ (cnt := cntCode) hjl
      have c2 := cntL_take_le (cnt := cntCode) l (j + 1)
      have hk2 : K + (cntCode l[j] : Int) ≤ 1152921504606846976 := by have := hK.out; omega
      have hK1 := Lib.hid (show K + (cntCode l[j] : Int) = k + (cntL cntCode (l.take (j + 1)) : Int) by have := hK.out; omega)
      clear c1 c2
      obtain ⟨g, pre, cs, post, Fj, hA, hn0, hpre, hown, hrow, hgF, hgj, hsub0, put0⟩ := ho.focus (by decide) (j := j) (by simp [mkL_len]; omega)
      clear hn0
      subst hA
      rw [mkL_at hjl] at hown
      have hsub := Lib.hid hsub0
      clear hsub0
      have put := Lib.hid put0
      have hltF := Lib.hid ho.lt
      clear put0 ho
      obtain ⟨x0, x1, A2, n2, c2, s2, A3, n3, c3, s3, A4, n4, c4, s4, F2, F3, F4, rfl, hx0, rfl, hnd, _, _, o2, o3, o4⟩ := Code_ownx hown
      have hx := Lib.hid hx0
      rw [hx0] at hk2
      simp only [cntCode] at hk2
      clear hx0 hown
      have hpreH : Hid (pre.length = j * 5) := hpre
      clear hpre
      have r0 := hrow
      have g2 : g ∉ F2 := fun hh => hgj (by simp [hh])
      have g3 : g ∉ F3 := fun hh => hgj (by simp [hh])
      have g4 : g ∉ F4 := fun hh => hgj (by simp [hh])
      have D23 : ∀ z, z ∈ F2 → z ∉ F3 := fun z h1 h2 => (List.nodup_append.1 hnd).2.2 z h1 z (List.mem_append_left _ h2) rfl
      have D32 : ∀ z, z ∈ F3 → z ∉ F2 := fun z h1 h2 => D23 z h2 h1
      have D24 : ∀ z, z ∈ F2 → z ∉ F4 := fun z h1 h2 => (List.nodup_append.1 hnd).2.2 z h1 z (List.mem_append_right _ h2) rfl
      have D42 : ∀ z, z ∈ F4 → z ∉ F2 := fun z h1 h2 => D24 z h2 h1
      have D34 : ∀ z, z ∈ F3 → z ∉ F4 := fun z h1 h2 => (List.nodup_append.1 (List.nodup_append.1 hnd).2.1).2.2 z h1 z h2 rfl
      have D43 : ∀ z, z ∈ F4 → z ∉ F3 := fun z h1 h2 => D34 z h2 h1
      have fa : Fr (g :: (F2 ++ (F3 ++ F4))) wr wr := Fr.refl _ _
      have u0 : wr.cell? ⟨g, j * 5, none⟩ = some (.int .i64 x0) := rowCell hrow hpreH.out (i := 0) (by simp)
      have u1 : wr.cell? ⟨g, j * 5 + 1, none⟩ = some (.int .i64 x1) := rowCell hrow hpreH.out (i := 1) (by simp)
      have u2 : wr.cell? ⟨g, j * 5 + 2, none⟩ = some (.slice A2 n2 c2) := rowCell hrow hpreH.out (i := 2) (by simp)
      have u3 : wr.cell? ⟨g, j * 5 + 3, none⟩ = some (.slice A3 n3 c3) := rowCell hrow hpreH.out (i := 3) (by simp)
      have u4 : wr.cell? ⟨g, j * 5 + 4, none⟩ = some (.slice A4 n4 c4) := rowCell hrow hpreH.out (i := 4) (by simp)
      have v0 := hrow.frozenAt (j * 5)
      have v1 := hrow.frozenAt (j * 5 + 1)
      have v2 := hrow.frozenAt (j * 5 + 2)
      have v3 := hrow.frozenAt (j * 5 + 3)
      have v4 := hrow.frozenAt (j * 5 + 4)
      have r1 := rowSet r0 hpreH.out (i := 0) (by simp) (.int .i64 K)
      simp only [List.set_cons_zero, List.set_cons_succ] at r1
      have r2 := rowSet r1 hpreH.out (i := 1) (by simp) (.int .i64 (K + 1))
      simp only [List.set_cons_zero, List.set_cons_succ] at r2
      go_wp2_with fail
      refine (mkInts _ n2 c2 A2 F2 s2 (K + 1 + 1) (o2.fr (G := [g]) (by exact frcA) (fun q hq hq' => by simp at hq'; subst hq'; exact g2 hq)) (by omega) (by omega)).mono ?_
      rintro e w2 ⟨k2, rfl, hk20, o2, f2⟩
      have z2 : K + 1 + 1 ≤ k2 := by omega
      have hq2 := Lib.hid hk20
      have y2 : k2 + (cntL cntIns s3 + cntL cntRow s4 : Nat) ≤ 1152921504606846976 := by omega
      clear hk20
      replace fa : Fr (g :: (F2 ++ (F3 ++ F4))) wr w2 := fr_then (f2.more (fun q hq => List.mem_cons_of_mem _ (by simp [hq]))) (by exact frcA)
      replace o3 := o3.fr2 f2 (G := [g]) (by exact frcA) (fun q hq hq' => by simp at hq'; subst hq'; exact g3 hq) D32
      replace o4 := o4.fr2 f2 (G := [g]) (by exact frcA) (fun q hq hq' => by simp at hq'; subst hq'; exact g4 hq) D42
      have r3 := row_fr r2 f2 g2
      clear u0 v0 u1 v1 u2 v2 u3 v3 u4 v4
      have u0 : w2.cell? ⟨g, j * 5, none⟩ = some (.int .i64 K) := rowCell r3 hpreH.out (i := 0) (by simp)
      have u1 : w2.cell? ⟨g, j * 5 + 1, none⟩ = some (.int .i64 (K + 1)) := rowCell r3 hpreH.out (i := 1) (by simp)
      have u2 : w2.cell? ⟨g, j * 5 + 2, none⟩ = some (.slice A2 n2 c2) := rowCell r3 hpreH.out (i := 2) (by simp)
      have u3 : w2.cell? ⟨g, j * 5 + 3, none⟩ = some (.slice A3 n3 c3) := rowCell r3 hpreH.out (i := 3) (by simp)
      have u4 : w2.cell? ⟨g, j * 5 + 4, none⟩ = some (.slice A4 n4 c4) := rowCell r3 hpreH.out (i := 4) (by simp)
      have v0 := r3.frozenAt (j * 5)
      have v1 := r3.frozenAt (j * 5 + 1)
      have v2 := r3.frozenAt (j * 5 + 2)
      have v3 := r3.frozenAt (j * 5 + 3)
      have v4 := r3.frozenAt (j * 5 + 4)
      go_wp2_with fail
      refine (mkInss _ n3 c3 A3 F3 s3 (k2) (o3.fr (G := [g]) (by exact frcA) (fun q hq hq' => by simp at hq'; subst hq'; exact g3 hq)) (by omega) (by omega)).mono ?_
      rintro e w3 ⟨k3, rfl, hk30, o3, f3⟩
      have z3 : k2 ≤ k3 := by omega
      have hq3 := Lib.hid hk30
      have y3 : k3 + (cntL cntRow s4 : Nat) ≤ 1152921504606846976 := by omega
      clear hk30
      replace fa : Fr (g :: (F2 ++ (F3 ++ F4))) wr w3 := fr_then (f3.more (fun q hq => List.mem_cons_of_mem _ (by simp [hq]))) (by exact frcA)
      replace o2 := o2.fr2 f3 (G := [g]) (by exact frcA) (fun q hq hq' => by simp at hq'; subst hq'; exact g2 hq) D23
      replace o4 := o4.fr2 f3 (G := [g]) (by exact frcA) (fun q hq hq' => by simp at hq'; subst hq'; exact g4 hq) D43
      have r4 := row_fr r3 f3 g3
      clear u0 v0 u1 v1 u2 v2 u3 v3 u4 v4
      have u0 : w3.cell? ⟨g, j * 5, none⟩ = some (.int .i64 K) := rowCell r4 hpreH.out (i := 0) (by simp)
      have u1 : w3.cell? ⟨g, j * 5 + 1, none⟩ = some (.int .i64 (K + 1)) := rowCell r4 hpreH.out (i := 1) (by simp)
      have u2 : w3.cell? ⟨g, j * 5 + 2, none⟩ = some (.slice A2 n2 c2) := rowCell r4 hpreH.out (i := 2) (by simp)
      have u3 : w3.cell? ⟨g, j * 5 + 3, none⟩ = some (.slice A3 n3 c3) := rowCell r4 hpreH.out (i := 3) (by simp)
      have u4 : w3.cell? ⟨g, j * 5 + 4, none⟩ = some (.slice A4 n4 c4) := rowCell r4 hpreH.out (i := 4) (by simp)
      have v0 := r4.frozenAt (j * 5)
      have v1 := r4.frozenAt (j * 5 + 1)
      have v2 := r4.frozenAt (j * 5 + 2)
      have v3 := r4.frozenAt (j * 5 + 3)
      have v4 := r4.frozenAt (j * 5 + 4)
      go_wp2_with fail
      refine (mkRows _ n4 c4 A4 F4 s4 (k3) (o4.fr (G := [g]) (by exact frcA) (fun q hq hq' => by simp at hq'; subst hq'; exact g4 hq)) (by omega) (by omega)).mono ?_
      rintro e w4 ⟨k4, rfl, hk40, o4, f4⟩
      have z4 : k3 ≤ k4 := by omega
      have hq4 := Lib.hid hk40
      have y4 : k4 + (0 : Nat) ≤ 1152921504606846976 := by omega
      clear hk40
      replace fa : Fr (g :: (F2 ++ (F3 ++ F4))) wr w4 := fr_then (f4.more (fun q hq => List.mem_cons_of_mem _ (by simp [hq]))) (by exact frcA)
      replace o2 := o2.fr2 f4 (G := [g]) (by exact frcA) (fun q hq hq' => by simp at hq'; subst hq'; exact g2 hq) D24
      replace o3 := o3.fr2 f4 (G := [g]) (by exact frcA) (fun q hq hq' => by simp at hq'; subst hq'; exact g3 hq) D34
      have r5 := row_fr r4 f4 g4
      clear u0 v0 u1 v1 u2 v2 u3 v3 u4 v4
      have u0 : w4.cell? ⟨g, j * 5, none⟩ = some (.int .i64 K) := rowCell r5 hpreH.out (i := 0) (by simp)
      have u1 : w4.cell? ⟨g, j * 5 + 1, none⟩ = some (.int .i64 (K + 1)) := rowCell r5 hpreH.out (i := 1) (by simp)
      have u2 : w4.cell? ⟨g, j * 5 + 2, none⟩ = some (.slice A2 n2 c2) := rowCell r5 hpreH.out (i := 2) (by simp)
      have u3 : w4.cell? ⟨g, j * 5 + 3, none⟩ = some (.slice A3 n3 c3) := rowCell r5 hpreH.out (i := 3) (by simp)
      have u4 : w4.cell? ⟨g, j * 5 + 4, none⟩ = some (.slice A4 n4 c4) := rowCell r5 hpreH.out (i := 4) (by simp)
      have v0 := r5.frozenAt (j * 5)
      have v1 := r5.frozenAt (j * 5 + 1)
      have v2 := r5.frozenAt (j * 5 + 2)
      have v3 := r5.frozenAt (j * 5 + 3)
      have v4 := r5.frozenAt (j * 5 + 4)
      have hfin := Lib.hid (show mkCode K l[j] = (K, (K + 1), mkL mkInt cntInt (K + 1 + 1) s2, mkL mkIns cntIns k2 s3, mkL mkRow cntRow k3 s4) by rw [hx.out]; simp only [mkCode, ← hq2.out, ← hq3.out, ← hq4.out])
      have hcnt := Lib.hid (show k4 = K + (cntCode l[j] : Int) by rw [hx.out]; simp only [cntCode]; have a2 := hq2.out; have a3 := hq3.out; have a4 := hq4.out; omega)
      have fin : ∀ W : World, W.ownsRow 0 39 5 (.slice (some ⟨g, 0, none⟩) n c) n (pre ++ [.int .i64 K, .int .i64 (K + 1), .slice A2 n2 c2, .slice A3 n3 c3, .slice A4 n4 c4] ++ post) → Fr [g] w4 W → OwnSl CodeR W 39 F (.slice (some ⟨g, 0, none⟩) n c) (mkL mkCode cntCode k (l.take (j + 1)) ++ l.drop (j + 1)) := by
        intro W hr hf
        have hall : Fr (g :: (F2 ++ (F3 ++ F4))) wr W := fr_then (hf.more (fun z hz => by simp at hz; subst hz; exact List.mem_cons_self ..)) fa
        have := put.out W _ (mkCode K l[j]) (by rw [hfin.out]; exact Code_own (o2.fr hf (fun q hq hq' => by simp at hq'; subst hq'; exact g2 hq)) (o3.fr hf (fun q hq hq' => by simp at hq'; subst hq'; exact g3 hq)) (o4.fr hf (fun q hq hq' => by simp at hq'; subst hq'; exact g4 hq)) ⟨by omega, by omega⟩ ⟨by omega, by omega⟩ hnd) hr (fun q hq hne hnot => hall.block q (hltF.out q hq) (fun hx => by rcases List.mem_cons.1 hx with hx | hx; exact hne hx; exact hnot hx))
        have e1 := hK.out
        rw [e1, mkL_step hjl] at this
        exact this
      have hbF : Fr F w w4 := fr_then (fa.more (fun q hq => by rcases List.mem_cons.1 hq with rfl | hq; exact hgF; exact hsub.out q hq)) hb
      have finH := Lib.hid fin
      clear fin
      go_wp2_with fail
      go_roundw
      case rel => exact ⟨j + 1, _, by omega, by go_num, rfl, by rw [← hK1.out, ← hcnt.out], finH.out _ r5 (by exact frcA), by exact frcA⟩
      case measure => simp [intOf]; omega
    · have hjn := Lib.hid (show j = n by omega)
      have e1 : mkL mkCode cntCode k (l.take j) ++ l.drop j = mkL mkCode cntCode k l := by rw [List.take_of_length_le (by omega), List.drop_of_length_le (by omega), List.append_nil]
      rw [e1] at ho
      clear e1
      rw [List.take_of_length_le (by omega)] at hK
      go_wp2_with fail
      go_ret
      exact ⟨_, rfl, hK.out, ho, hb⟩
end Go.Proofs.YtgoinmdnpaknpaaGreat

/- Marks over slices of Image. Printed by markgen.py. Walks. -/
set_option linter.unusedVariables false
set_option linter.unusedSimpArgs false
set_option linter.unnecessarySimpa false
set_option maxRecDepth 100000
namespace Go.Proofs.YtgoinmdnpaknpaaGreat
open Go.RowKit

def cntImage (x : Image) : Nat := cntL cntCode x
def mkImage (k : Int) (x : Image) : Image := mkL mkCode cntCode k x
set_option maxHeartbeats 1000000 in
theorem mkImageTop (w : World) (A0 : Option Addr) (n0 c0 : Nat) (s0 : List Code) (k : Int) (F0 : List Nat) (o0 : OwnSl CodeR w 39 F0 (.slice A0 n0 c0) s0) (hnd : (F0 : List Nat).Nodup) (h1 : 0 ≤ k) (h2 : k + (cntL cntCode s0 : Nat) ≤ 1152921504606846976) :
    Calls Tryz.prog 7 #[.agg #[.slice A0 n0 c0], .int .i64 k] w fun e w' => ∃ r, e = .returned (.int .i64 r) ∧ r = k + (cntL cntCode s0 : Nat) ∧ OwnSl CodeR w' 39 F0 (.slice A0 n0 c0) (mkL mkCode cntCode k s0) ∧ Fr F0 w w' := by
  have q0 : ∀ z, z ∈ F0 → z < w.heap.size := o0.lt
  go_enter Tryz.func7, Tryz.ntmps7
  go_wp2_with fail
  refine (mkCodes _ n0 c0 A0 F0 s0 k (o0.below (by exact belA)) (by omega) (by omega)).mono ?_
  rintro e w0 ⟨k0, rfl, hk0, p0, f0⟩
  have hq0 := Lib.hid hk0
  have z0 : 0 ≤ k0 := by omega
  have y0 : k0 + (0 : Nat) ≤ 1152921504606846976 := by omega
  clear hk0
  have fa : Fr F0 w w0 := fr_then (f0.more (fun q hq => by simp [hq])) (Fr.of_below (by exact belA))
  have bx0 : ∀ o, w0.cell? ⟨w.heap.size, o, none⟩ = (#[.slice A0 n0 c0] : Array Value)[o]? := fun o => by
    rw [World.cell?_of_block (f0.block w.heap.size (by simp) (fun hh => by have := q0 _ hh; omega))]
    exact cell_of_row _ _ _ _ _ _ (heap_alloc_new w _)
  have hs0 : w.heap.size < w0.heap.size := by have := f0.size; first | omega | (simp at this; omega)
  have e0_0 : w0.cell? ⟨w.heap.size, 0, none⟩ = some (.slice A0 n0 c0) := bx0 0
  have bxH0 := Lib.hid bx0
  skip
  go_wp2_with fail
  go_ret
  exact ⟨_, rfl, by have a0 := hq0.out; omega, by have := p0; have a0 := hq0.out; simpa [a0] using this, fa⟩
end Go.Proofs.YtgoinmdnpaknpaaGreat

/- Ins: own data field by field; how many marks. Printed by ocgen.py. -/
set_option linter.unusedVariables false
set_option linter.unusedSimpArgs false
set_option maxRecDepth 100000
namespace Go.Proofs.YtgoinmdnpaknpaaGreat
open Go.RowKit

theorem cntIns_le (l : List Ins) : cntL cntIns l ≤ 16 * l.length := by
  induction l with
  | nil => simp [cntL]
  | cons x l ih => simp only [cntL, List.map_cons, List.sum_cons, List.length_cons] at *; simp only [cntIns] at *; omega
end Go.Proofs.YtgoinmdnpaknpaaGreat

/- Row: own data field by field; how many marks. Printed by ocgen.py. -/
set_option linter.unusedVariables false
set_option linter.unusedSimpArgs false
set_option maxRecDepth 100000
namespace Go.Proofs.YtgoinmdnpaknpaaGreat
open Go.RowKit

theorem cntRow_le (l : List Row) : cntL cntRow l ≤ 16 * l.length := by
  induction l with
  | nil => simp [cntL]
  | cons x l ih => simp only [cntL, List.map_cons, List.sum_cons, List.length_cons] at *; simp only [cntRow] at *; omega
end Go.Proofs.YtgoinmdnpaknpaaGreat

/- Code: own data field by field; how many marks. Printed by ocgen.py. -/
set_option linter.unusedVariables false
set_option linter.unusedSimpArgs false
set_option maxRecDepth 100000
namespace Go.Proofs.YtgoinmdnpaknpaaGreat
open Go.RowKit

theorem Code_ownc {w : World} {F : List Nat} {x0 : Int} {x1 : Int} {A2 : Option Addr} {n2 c2 : Nat} {s2 : List Int} {A3 : Option Addr} {n3 c3 : Nat} {s3 : List Ins} {A4 : Option Addr} {n4 c4 : Nat} {s4 : List Row} (h : CodeR.own w F [.int .i64 x0, .int .i64 x1, .slice A2 n2 c2, .slice A3 n3 c3, .slice A4 n4 c4] (x0, x1, s2, s3, s4)) : ∃ F2 F3 F4, F = (F2 ++ (F3 ++ F4)) ∧ ((F2 ++ (F3 ++ F4)) : List Nat).Nodup ∧ OwnSl intR w 3 F2 (.slice A2 n2 c2) s2 ∧ OwnSl InsR w 67 F3 (.slice A3 n3 c3) s3 ∧ OwnSl RowR w 71 F4 (.slice A4 n4 c4) s4 := by
  obtain ⟨x0q, x1q, A2q, n2q, c2q, s2q, A3q, n3q, c3q, s3q, A4q, n4q, c4q, s4q, F2, F3, F4, ec, ex, eF, nd, i0, i1, o2, o3, o4⟩ := Code_ownx h
  simp only [List.cons.injEq, Value.slice.injEq, Value.int.injEq, Value.bool.injEq, and_true, true_and, Prod.mk.injEq] at ec ex
  refine ⟨F2, F3, F4, eF, nd, ?_, ?_, ?_⟩
  · simp only [ec, ex]; exact o2
  · simp only [ec, ex]; exact o3
  · simp only [ec, ex]; exact o4
theorem cntCode_le1 (x : Code) : cntCode x ≤ 16 + 16 * mszCode x := by
  have t2 := cntInt_le (x.2.2.1)
  have t3 := cntIns_le (x.2.2.2.1)
  have t4 := cntRow_le (x.2.2.2.2)
  simp only [cntCode, mszCode]; omega
theorem cntCode_le (l : List Code) : cntL cntCode l ≤ 16 * mszLCode l := by
  induction l with
  | nil => simp [cntL]
  | cons x l ih => have := cntCode_le1 x; simp only [cntL, mszLCode, List.map_cons, List.sum_cons, List.length_cons] at *; omega
end Go.Proofs.YtgoinmdnpaknpaaGreat

/- Image: own data field by field; how many marks. Printed by ocgen.py. -/
set_option linter.unusedVariables false
set_option linter.unusedSimpArgs false
set_option maxRecDepth 100000
namespace Go.Proofs.YtgoinmdnpaknpaaGreat
open Go.RowKit

theorem cntImage_le1 (x : Image) : cntImage x ≤ 16 + 16 * mszImage x := by
  have t0 := cntCode_le (x)
  simp only [cntImage, mszImage]; omega
theorem cntImage_le (l : List Image) : cntL cntImage l ≤ 16 * mszLImage l := by
  induction l with
  | nil => simp [cntL]
  | cons x l ih => have := cntImage_le1 x; simp only [cntL, mszLImage, List.map_cons, List.sum_cons, List.length_cons] at *; omega
end Go.Proofs.YtgoinmdnpaknpaaGreat

/- Marks read back: Ins. Printed by heldgen.py. Walks. -/
set_option linter.unusedVariables false
set_option linter.unusedSimpArgs false
set_option linter.unnecessarySimpa false
set_option maxRecDepth 100000
namespace Go.Proofs.YtgoinmdnpaknpaaGreat
open Go.RowKit

set_option maxHeartbeats 2000000 in
theorem hdInss (w : World) (lo hi n c : Nat) (A : Option Addr) (l : List Ins) (k : Int) (h : Sl InsR w lo hi A n c (mkL mkIns cntIns k l)) (hh : hi ≤ w.heap.size) (hk1 : 0 ≤ k) (hk2 : k + (cntL cntIns l : Int) ≤ 1152921504606846976) :
    Calls Tryz.prog 35 #[.slice A n c, .int .i64 k] w (RetHd (k + (cntL cntIns l : Int)) w) := by
  have e1 : l.length = n := by have := h.lenEq; rwa [mkL_len] at this
  have b1 := h.lenLe
  go_enter Tryz.func35, Tryz.ntmps35
  go_wp2_with fail
  go_loopw [1, 5] (fun kk i wr => ∃ (j : Nat) (K : Int), j ≤ n ∧ i = .int .i64 j ∧ kk = .int .i64 K ∧ K = k + (cntL cntIns (l.take j) : Int) ∧ Below w.heap.size w wr) (fun _ i _ => n - (intOf i).toNat)
  case atStart => exact ⟨0, k, Nat.zero_le _, rfl, rfl, by simp [cntL], Below.refl _ _⟩
  case round =>
    obtain ⟨j, K, hj, rfl, rfl, hK0, hb⟩ := hrel
    have a0 : 0 ≤ K := by omega
    have a1 : K ≤ 1152921504606846976 := by have := cntL_take_le (cnt := cntIns) l j; omega
    have hhr : hi ≤ wr.heap.size := by have := hb.size; omega
    have hK := Lib.hid hK0
    by_cases hlt : j < n
    · have hg := mkL_get (mkf := mkIns) (cnt := cntIns) (l := l) (j := j) (k := k) (by omega)
      have hs0 := cntL_succ (cnt := cntIns) (l := l) (k := j) (by omega)
      have hle := cntL_take_le (cnt := cntIns) l (j + 1)
      obtain ⟨b, o, x0, x1, rfl, _, _, hl0, i0, i1, d0, d1⟩ := Ins_at (h.below hb hh) hlt
      rw [hl0, ← hK0] at hg
      generalize l[j]'(by omega) = y at hg hs0
      obtain ⟨u0, u1⟩ := y
      simp only [mkIns, Prod.mk.injEq] at hg
      simp only [cntIns] at hs0
      obtain ⟨g0, g1⟩ := hg
      have hs := Lib.hid hs0
      replace g0 := g0.symm
      subst g0
      replace g1 := g1.symm
      subst g1
      have hle2 := Lib.hid hle
      clear hs0 hle hK0
      have hK1 := Lib.hid (show ((K + 1) + 1) = k + (cntL cntIns (l.take (j + 1)) : Int) by have := hs.out; have := hK.out; omega)
      go_wp2_with fail
      go_roundw
      case rel => exact ⟨j + 1, ((K + 1) + 1), by omega, by go_num, by first | rfl | go_num, hK1.out, hb⟩
      case measure => simp [intOf]; omega
    · have hK2 := Lib.hid (show K = k + (cntL cntIns l : Int) by rw [hK0, List.take_of_length_le (by omega)])
      clear hK0
      go_wp2_with fail
      go_ret
      exact ⟨_, rfl, hK2.out, hb⟩
end Go.Proofs.YtgoinmdnpaknpaaGreat

/- Marks read back: Row. Printed by heldgen.py. Walks. -/
set_option linter.unusedVariables false
set_option linter.unusedSimpArgs false
set_option linter.unnecessarySimpa false
set_option maxRecDepth 100000
namespace Go.Proofs.YtgoinmdnpaknpaaGreat
open Go.RowKit

set_option maxHeartbeats 2000000 in
theorem hdRows (w : World) (lo hi n c : Nat) (A : Option Addr) (l : List Row) (k : Int) (h : Sl RowR w lo hi A n c (mkL mkRow cntRow k l)) (hh : hi ≤ w.heap.size) (hk1 : 0 ≤ k) (hk2 : k + (cntL cntRow l : Int) ≤ 1152921504606846976) :
    Calls Tryz.prog 36 #[.slice A n c, .int .i64 k] w (RetHd (k + (cntL cntRow l : Int)) w) := by
  have e1 : l.length = n := by have := h.lenEq; rwa [mkL_len] at this
  have b1 := h.lenLe
  go_enter Tryz.func36, Tryz.ntmps36
  go_wp2_with fail
  go_loopw [1, 5] (fun kk i wr => ∃ (j : Nat) (K : Int), j ≤ n ∧ i = .int .i64 j ∧ kk = .int .i64 K ∧ K = k + (cntL cntRow (l.take j) : Int) ∧ Below w.heap.size w wr) (fun _ i _ => n - (intOf i).toNat)
  case atStart => exact ⟨0, k, Nat.zero_le _, rfl, rfl, by simp [cntL], Below.refl _ _⟩
  case round =>
    obtain ⟨j, K, hj, rfl, rfl, hK0, hb⟩ := hrel
    have a0 : 0 ≤ K := by omega
    have a1 : K ≤ 1152921504606846976 := by have := cntL_take_le (cnt := cntRow) l j; omega
    have hhr : hi ≤ wr.heap.size := by have := hb.size; omega
    have hK := Lib.hid hK0
    by_cases hlt : j < n
    · have hg := mkL_get (mkf := mkRow) (cnt := cntRow) (l := l) (j := j) (k := k) (by omega)
      have hs0 := cntL_succ (cnt := cntRow) (l := l) (k := j) (by omega)
      have hle := cntL_take_le (cnt := cntRow) l (j + 1)
      obtain ⟨b, o, x0, x1, x2, rfl, _, _, hl0, i0, i1, i2, d0, d1, d2⟩ := Row_at (h.below hb hh) hlt
      rw [hl0, ← hK0] at hg
      generalize l[j]'(by omega) = y at hg hs0
      obtain ⟨u0, u1, u2⟩ := y
      simp only [mkRow, Prod.mk.injEq] at hg
      simp only [cntRow] at hs0
      obtain ⟨g0, g1, g2⟩ := hg
      have hs := Lib.hid hs0
      replace g0 := g0.symm
      subst g0
      replace g1 := g1.symm
      subst g1
      replace g2 := g2.symm
      subst g2
      have hle2 := Lib.hid hle
      clear hs0 hle hK0
      have hK1 := Lib.hid (show (((K + 1) + 1) + 1) = k + (cntL cntRow (l.take (j + 1)) : Int) by have := hs.out; have := hK.out; omega)
      go_wp2_with fail
      go_roundw
      case rel => exact ⟨j + 1, (((K + 1) + 1) + 1), by omega, by go_num, by first | rfl | go_num, hK1.out, hb⟩
      case measure => simp [intOf]; omega
    · have hK2 := Lib.hid (show K = k + (cntL cntRow l : Int) by rw [hK0, List.take_of_length_le (by omega)])
      clear hK0
      go_wp2_with fail
      go_ret
      exact ⟨_, rfl, hK2.out, hb⟩
end Go.Proofs.YtgoinmdnpaknpaaGreat

/- Marks read back: Code. Printed by heldgen.py. Walks. -/
set_option linter.unusedVariables false
set_option linter.unusedSimpArgs false
set_option linter.unnecessarySimpa false
set_option maxRecDepth 100000
namespace Go.Proofs.YtgoinmdnpaknpaaGreat
open Go.RowKit

set_option maxHeartbeats 2000000 in
theorem hdCodes (w : World) (lo hi n c : Nat) (A : Option Addr) (l : List Code) (k : Int) (h : Sl CodeR w lo hi A n c (mkL mkCode cntCode k l)) (hh : hi ≤ w.heap.size) (hk1 : 0 ≤ k) (hk2 : k + (cntL cntCode l : Int) ≤ 1152921504606846976) :
    Calls Tryz.prog 18 #[.slice A n c, .int .i64 k] w (RetHd (k + (cntL cntCode l : Int)) w) := by
  have e1 : l.length = n := by have := h.lenEq; rwa [mkL_len] at this
  have b1 := h.lenLe
  go_enter Tryz.func18, Tryz.ntmps18
  go_wp2_with fail
  go_loopw [1, 5] (fun kk i wr => ∃ (j : Nat) (K : Int), j ≤ n ∧ i = .int .i64 j ∧ kk = .int .i64 K ∧ K = k + (cntL cntCode (l.take j) : Int) ∧ Below w.heap.size w wr) (fun _ i _ => n - (intOf i).toNat)
  case atStart => exact ⟨0, k, Nat.zero_le _, rfl, rfl, by simp [cntL], Below.refl _ _⟩
  case round =>
    obtain ⟨j, K, hj, rfl, rfl, hK0, hb⟩ := hrel
    have a0 : 0 ≤ K := by omega
    have a1 : K ≤ 1152921504606846976 := by have := cntL_take_le (cnt := cntCode) l j; omega
    have hhr : hi ≤ wr.heap.size := by have := hb.size; omega
    have hK := Lib.hid hK0
    by_cases hlt : j < n
    · have hg := mkL_get (mkf := mkCode) (cnt := cntCode) (l := l) (j := j) (k := k) (by omega)
      have hs0 := cntL_succ (cnt := cntCode) (l := l) (k := j) (by omega)
      have hle := cntL_take_le (cnt := cntCode) l (j + 1)
      obtain ⟨b, o, x0, x1, A2, n2, c2, s2, A3, n3, c3, s3, A4, n4, c4, s4, rfl, _, _, hl0, i0, i1, h2, h3, h4, d0, d1, d2, d3, d4⟩ := Code_at (h.below hb hh) hlt
      rw [hl0, ← hK0] at hg
      generalize l[j]'(by omega) = y at hg hs0
      obtain ⟨u0, u1, v2, v3, v4⟩ := y
      simp only [mkCode, Prod.mk.injEq] at hg
      simp only [cntCode] at hs0
      obtain ⟨g0, g1, g2, g3, g4⟩ := hg
      have hs := Lib.hid hs0
      replace g0 := g0.symm
      subst g0
      replace g1 := g1.symm
      subst g1
      replace g2 := g2.symm
      subst g2
      have G3 := Lib.hid g3
      clear g3
      have G4 := Lib.hid g4
      clear g4
      have hle2 := Lib.hid hle
      clear hs0 hle hK0
      have b2 : ((K + 1) + 1) + (cntL cntInt v2 : Int) ≤ 1152921504606846976 := by have := hs.out; have := hle2.out; have := hK.out; omega
      go_wp2_with fail
      refine (hdInts _ lo hi n2 c2 A2 v2 ((K + 1) + 1) h2 (by omega) (by omega) b2).mono ?_
      rintro e w2 ⟨r2, rfl, q2, hb2⟩
      have p2 : 0 ≤ r2 := by omega
      have P2 : r2 ≤ 1152921504606846976 := by omega
      replace q2 := Lib.hid q2
      clear b2
      have hhr2 : hi ≤ w2.heap.size := by have := hb2.size; omega
      replace d3 := below_cell hb2 d3
      replace h3 := h3.below hb2 (by omega)
      replace d4 := below_cell hb2 d4
      replace h4 := h4.below hb2 (by omega)
      replace hb := below_then hb hb2
      have g3 := G3.out
      rw [← q2.out] at g3
      replace g3 := g3.symm
      subst g3
      clear G3
      have b3 : r2 + (cntL cntIns v3 : Int) ≤ 1152921504606846976 := by have := hs.out; have := hle2.out; have := hK.out; have := q2.out; omega
      go_wp2_with fail
      refine (hdInss _ lo hi n3 c3 A3 v3 r2 h3 (by omega) (by omega) b3).mono ?_
      rintro e w3 ⟨r3, rfl, q3, hb3⟩
      have p3 : 0 ≤ r3 := by omega
      have P3 : r3 ≤ 1152921504606846976 := by omega
      replace q3 := Lib.hid q3
      clear b3
      have hhr3 : hi ≤ w3.heap.size := by have := hb3.size; omega
      replace d4 := below_cell hb3 d4
      replace h4 := h4.below hb3 (by omega)
      replace hb := below_then hb hb3
      have g4 := G4.out
      rw [← q2.out, ← q3.out] at g4
      replace g4 := g4.symm
      subst g4
      clear G4
      have b4 : r3 + (cntL cntRow v4 : Int) ≤ 1152921504606846976 := by have := hs.out; have := hle2.out; have := hK.out; have := q2.out; have := q3.out; omega
      go_wp2_with fail
      refine (hdRows _ lo hi n4 c4 A4 v4 r3 h4 (by omega) (by omega) b4).mono ?_
      rintro e w4 ⟨r4, rfl, q4, hb4⟩
      have p4 : 0 ≤ r4 := by omega
      have P4 : r4 ≤ 1152921504606846976 := by omega
      replace q4 := Lib.hid q4
      clear b4
      have hhr4 : hi ≤ w4.heap.size := by have := hb4.size; omega
      replace hb := below_then hb hb4
      have hK1 := Lib.hid (show r4 = k + (cntL cntCode (l.take (j + 1)) : Int) by have := hs.out; have := hK.out; have := q2.out; have := q3.out; have := q4.out; omega)
      go_wp2_with fail
      go_roundw
      case rel => exact ⟨j + 1, r4, by omega, by go_num, by first | rfl | go_num, hK1.out, hb⟩
      case measure => simp [intOf]; omega
    · have hK2 := Lib.hid (show K = k + (cntL cntCode l : Int) by rw [hK0, List.take_of_length_le (by omega)])
      clear hK0
      go_wp2_with fail
      go_ret
      exact ⟨_, rfl, hK2.out, hb⟩
end Go.Proofs.YtgoinmdnpaknpaaGreat

/- Marks read back: Image. Printed by heldgen.py. Walks. -/
set_option linter.unusedVariables false
set_option linter.unusedSimpArgs false
set_option linter.unnecessarySimpa false
set_option maxRecDepth 100000
namespace Go.Proofs.YtgoinmdnpaknpaaGreat
open Go.RowKit

set_option maxHeartbeats 2000000 in
theorem hdImageTop (w : World) (lo hi : Nat) (A0 : Option Addr) (n0 c0 : Nat) (s0 : List Code) (k : Int) (h0 : Sl CodeR w lo hi A0 n0 c0 (mkL mkCode cntCode k s0)) (hh : hi ≤ w.heap.size) (hk1 : 0 ≤ k) (hk2 : k + (cntL cntCode s0 : Int) ≤ 1152921504606846976) :
    Calls Tryz.prog 8 #[.agg #[.slice A0 n0 c0], .int .i64 k] w (RetHd (k + (cntL cntCode s0 : Int)) w) := by
  go_enter Tryz.func8, Tryz.ntmps8
  go_wp2_with fail
  refine (hdCodes _ lo hi n0 c0 A0 s0 k (h0.below (show Below w.heap.size w _ by exact belA) hh) (by simp; omega) (by omega) (by omega)).mono ?_
  rintro e w0 ⟨r0, rfl, q0, hx⟩
  have hb : Below w.heap.size w w0 := below_then (by exact belA) hx
  have hhr : hi ≤ w0.heap.size := by have := hb.size; omega
  obtain ⟨hcE, hfE⟩ := bcell hx
  clear hcE hfE
  have p0 : 0 ≤ r0 := by omega
  replace q0 := Lib.hid q0
  clear hx
  have hK := Lib.hid (show r0 = k + (cntL cntCode s0 : Int) by have := q0.out; omega)
  go_wp2_with fail
  go_ret
  exact ⟨_, rfl, hK.out, hb⟩
end Go.Proofs.YtgoinmdnpaknpaaGreat
