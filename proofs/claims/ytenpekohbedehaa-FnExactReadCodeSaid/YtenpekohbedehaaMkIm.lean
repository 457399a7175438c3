/- Several texts in one: MkIns, MkRow, MkCode, MkImage, OcIns, OcRow, OcCode, OcImage, HdIns, HdRow, HdCode, HdImage. -/
import Derived.Test.YtenpekohbedehaaKit1
import Derived.Test.YtenpekohbedehaaTyIm

/- Marks over slices of Ins. Printed by markgen.py. Walks. -/
set_option linter.unusedVariables false
set_option linter.unusedSimpArgs false
set_option linter.unnecessarySimpa false
set_option maxRecDepth 100000
namespace Go.Proofs.Ytenpekohbedehaa
open Go.RowKit

def cntIns (x : Ins) : Nat := 1 + 1
def mkIns (k : Int) (x : Ins) : Ins := (k, (k + 1))
theorem Ins_ownx {w : World} {F : List Nat} {cs : List Value} {x : Ins} (h : InsR.own w F cs x) : ∃ x0 x1, cs = ([.int .i64 x0, .int .i64 x1] : List Value) ∧ x = (x0, x1) ∧ F = [] ∧ ([] : List Nat).Nodup ∧ I64 x0 ∧ I64 x1 := by
  obtain ⟨_, _, _, _, rfl, rfl, ⟨rfl, rfl, i0⟩, ⟨rfl, rfl, i1⟩, nd0⟩ := h
  exact ⟨x.1, x.2, rfl, rfl, by simp, by simpa using nd0, i0, i1⟩
set_option maxHeartbeats 2000000 in
theorem mkInss (w : World) (n c : Nat) (A : Option Addr) (F : List Nat) (l : List Ins) (k : Int) (h : OwnSl InsR w 133 F (.slice A n c) l) (h1 : 0 ≤ k) (h2 : k + (cntL cntIns l : Int) ≤ 1152921504606846976) :
    Calls Try.prog 55 #[.slice A n c, .int .i64 k] w (RetMk InsR 133 mkIns cntIns l k F (.slice A n c) w) := by
  obtain ⟨_, hx, _, hl⟩ := h.row'
  have bn : n ≤ 9223372036854775807 := by obtain ⟨_, ⟨_, h0, _⟩ | ⟨_, _, h3, h4⟩⟩ := ownsRow_cases hx <;> omega
  clear hx
  go_enter Try.func55, Try.ntmps55
  go_wp2_with fail
  go_loopw [1, 5] (fun kk i wr => ∃ (j : Nat) (K : Int), j ≤ n ∧ i = .int .i64 j ∧ kk = .int .i64 K ∧ K = k + (cntL cntIns (l.take j) : Int) ∧ OwnSl InsR wr 133 F (.slice A n c) (mkL mkIns cntIns k (l.take j) ++ l.drop j) ∧ Fr F w wr) (fun _ i _ => n - (intOf i).toNat)
  case atStart => exact ⟨0, k, Nat.zero_le _, rfl, rfl, by simp [cntL], by simpa [mkL] using h, Fr.refl _ _⟩
  case round =>
    obtain ⟨j, K, hj, rfl, rfl, hK0, ho, hb⟩ := hrel
    have hK := Lib.hid hK0
    have hk0 : 0 ≤ K := by omega
    clear hK0
    by_cases hlt : j < n
    · have hjl : j < l.length := by omega
      have c1 := cntL_succ (cnt := cntIns) hjl
      have c2 := cntL_take_le (cnt := cntIns) l (j + 1)
      have hk2 : K + (cntIns l[j] : Int) ≤ 1152921504606846976 := by have := hK.out; omega
      have hK1 := Lib.hid (show K + (cntIns l[j] : Int) = k + (cntL cntIns (l.take (j + 1)) : Int) by have := hK.out; omega)
      clear c1 c2
      obtain ⟨g, pre, cs, post, Fj, hA, hn0, hpre, hown, hrow, hgF, hgj, hsub0, put0⟩ := ho.focus (by decide) (j := j) (by simp [mkL_len]; omega)
      clear hn0
      subst hA
      rw [mkL_at hjl] at hown
      have hsub := Lib.hid hsub0
      clear hsub0
      have put := Lib.hid put0
      have hltF := Lib.hid ho.lt
      clear put0 ho
      obtain ⟨x0, x1, rfl, hx0, rfl, hnd, _, _⟩ := Ins_ownx hown
      have hx := Lib.hid hx0
      rw [hx0] at hk2
      simp only [cntIns] at hk2
      clear hx0 hown
      have hpreH : Hid (pre.length = j * 2) := hpre
      clear hpre
      have r0 := hrow
      have fa : Fr (g :: []) wr wr := Fr.refl _ _
      have u0 : wr.cell? ⟨g, j * 2, none⟩ = some (.int .i64 x0) := rowCell hrow hpreH.out (i := 0) (by simp)
      have u1 : wr.cell? ⟨g, j * 2 + 1, none⟩ = some (.int .i64 x1) := rowCell hrow hpreH.out (i := 1) (by simp)
      have v0 := hrow.frozenAt (j * 2)
      have v1 := hrow.frozenAt (j * 2 + 1)
      have r1 := rowSet r0 hpreH.out (i := 0) (by simp) (.int .i64 K)
      simp only [List.set_cons_zero, List.set_cons_succ] at r1
      have r2 := rowSet r1 hpreH.out (i := 1) (by simp) (.int .i64 (K + 1))
      simp only [List.set_cons_zero, List.set_cons_succ] at r2
      have hfin := Lib.hid (show mkIns K l[j] = (K, (K + 1)) by rw [hx.out]; simp only [mkIns])
      have hcnt := Lib.hid (show K + 1 + 1 = K + (cntIns l[j] : Int) by rw [hx.out]; simp only [cntIns];  omega)
      have fin : ∀ W : World, W.ownsRow 0 133 2 (.slice (some ⟨g, 0, none⟩) n c) n (pre ++ [.int .i64 K, .int .i64 (K + 1)] ++ post) → Fr [g] wr W → OwnSl InsR W 133 F (.slice (some ⟨g, 0, none⟩) n c) (mkL mkIns cntIns k (l.take (j + 1)) ++ l.drop (j + 1)) := by
        intro W hr hf
        have hall : Fr (g :: []) wr W := fr_then (hf.more (fun z hz => by simp at hz; subst hz; exact List.mem_cons_self ..)) fa
        have := put.out W _ (mkIns K l[j]) (by rw [hfin.out]; exact Ins_own _ _ _ ⟨by omega, by omega⟩ ⟨by omega, by omega⟩) hr (fun q hq hne hnot => hall.block q (hltF.out q hq) (fun hx => by rcases List.mem_cons.1 hx with hx | hx; exact hne hx; exact hnot hx))
        have e1 := hK.out
        rw [e1, mkL_step hjl] at this
        exact this
      have finH := Lib.hid fin
      clear fin
      go_wp2_with fail
      go_roundw
      case rel => exact ⟨j + 1, _, by omega, by go_num, rfl, by rw [← hK1.out, ← hcnt.out], finH.out _ r2 (by exact frcA), by exact frcA⟩
      case measure => simp [intOf]; omega
    · have hjn := Lib.hid (show j = n by omega)
      have e1 : mkL mkIns cntIns k (l.take j) ++ l.drop j = mkL mkIns cntIns k l := by rw [List.take_of_length_le (by omega), List.drop_of_length_le (by omega), List.append_nil]
      rw [e1] at ho
      clear e1
      rw [List.take_of_length_le (by omega)] at hK
      go_wp2_with fail
      go_ret
      exact ⟨_, rfl, hK.out, ho, hb⟩
end Go.Proofs.Ytenpekohbedehaa

/- Marks over slices of Row. Printed by markgen.py. Walks. -/
set_option linter.unusedVariables false
set_option linter.unusedSimpArgs false
set_option linter.unnecessarySimpa false
set_option maxRecDepth 100000
namespace Go.Proofs.Ytenpekohbedehaa
open Go.RowKit

def cntRow (x : Row) : Nat := 1 + 1 + 1
def mkRow (k : Int) (x : Row) : Row := (k, (k + 1), ((k + 1) + 1))
theorem Row_ownx {w : World} {F : List Nat} {cs : List Value} {x : Row} (h : RowR.own w F cs x) : ∃ x0 x1 x2, cs = ([.int .i64 x0, .int .i64 x1, .int .i64 x2] : List Value) ∧ x = (x0, x1, x2) ∧ F = [] ∧ ([] : List Nat).Nodup ∧ I64 x0 ∧ I64 x1 ∧ I64 x2 := by
  obtain ⟨_, _, _, _, rfl, rfl, ⟨rfl, rfl, i0⟩, ⟨_, _, _, _, rfl, rfl, ⟨rfl, rfl, i1⟩, ⟨rfl, rfl, i2⟩, nd1⟩, nd0⟩ := h
  exact ⟨x.1, x.2.1, x.2.2, rfl, rfl, by simp, by simpa using nd0, i0, i1, i2⟩
set_option maxHeartbeats 2000000 in
theorem mkRows (w : World) (n c : Nat) (A : Option Addr) (F : List Nat) (l : List Row) (k : Int) (h : OwnSl RowR w 141 F (.slice A n c) l) (h1 : 0 ≤ k) (h2 : k + (cntL cntRow l : Int) ≤ 1152921504606846976) :
    Calls Try.prog 56 #[.slice A n c, .int .i64 k] w (RetMk RowR 141 mkRow cntRow l k F (.slice A n c) w) := by
  obtain ⟨_, hx, _, hl⟩ := h.row'
  have bn : n ≤ 9223372036854775807 := by obtain ⟨_, ⟨_, h0, _⟩ | ⟨_, _, h3, h4⟩⟩ := ownsRow_cases hx <;> omega
  clear hx
  go_enter Try.func56, Try.ntmps56
  go_wp2_with fail
  go_loopw [1, 5] (fun kk i wr => ∃ (j : Nat) (K : Int), j ≤ n ∧ i = .int .i64 j ∧ kk = .int .i64 K ∧ K = k + (cntL cntRow (l.take j) : Int) ∧ OwnSl RowR wr 141 F (.slice A n c) (mkL mkRow cntRow k (l.take j) ++ l.drop j) ∧ Fr F w wr) (fun _ i _ => n - (intOf i).toNat)
  case atStart => exact ⟨0, k, Nat.zero_le _, rfl, rfl, by simp [cntL], by simpa [mkL] using h, Fr.refl _ _⟩
  case round =>
    obtain ⟨j, K, hj, rfl, rfl, hK0, ho, hb⟩ := hrel
    have hK := Lib.hid hK0
    have hk0 : 0 ≤ K := by omega
    clear hK0
    by_cases hlt : j < n
    · have hjl : j < l.length := by omega
      have c1 := cntL_succ (cnt := cntRow) hjl
      have c2 := cntL_take_le (cnt := cntRow) l (j + 1)
      have hk2 : K + (cntRow l[j] : Int) ≤ 1152921504606846976 := by have := hK.out; omega
      have hK1 := Lib.hid (show K + (cntRow l[j] : Int) = k + (cntL cntRow (l.take (j + 1)) : Int) by have := hK.out; omega)
      clear c1 c2
      obtain ⟨g, pre, cs, post, Fj, hA, hn0, hpre, hown, hrow, hgF, hgj, hsub0, put0⟩ := ho.focus (by decide) (j := j) (by simp [mkL_len]; omega)
      clear hn0
      subst hA
      rw [mkL_at hjl] at hown
      have hsub := Lib.hid hsub0
      clear hsub0
      have put := Lib.hid put0
      have hltF := Lib.hid ho.lt
      clear put0 ho
      obtain ⟨x0, x1, x2, rfl, hx0, rfl, hnd, _, _, _⟩ := Row_ownx hown
      have hx := Lib.hid hx0
      rw [hx0] at hk2
      simp only [cntRow] at hk2
      clear hx0 hown
      have hpreH : Hid (pre.length = j * 3) := hpre
      clear hpre
      have r0 := hrow
      have fa : Fr (g :: []) wr wr := Fr.refl _ _
      have u0 : wr.cell? ⟨g, j * 3, none⟩ = some (.int .i64 x0) := rowCell hrow hpreH.out (i := 0) (by simp)
      have u1 : wr.cell? ⟨g, j * 3 + 1, none⟩ = some (.int .i64 x1) := rowCell hrow hpreH.out (i := 1) (by simp)
      have u2 : wr.cell? ⟨g, j * 3 + 2, none⟩ = some (.int .i64 x2) := rowCell hrow hpreH.out (i := 2) (by simp)
      have v0 := hrow.frozenAt (j * 3)
      have v1 := hrow.frozenAt (j * 3 + 1)
      have v2 := hrow.frozenAt (j * 3 + 2)
      have r1 := rowSet r0 hpreH.out (i := 0) (by simp) (.int .i64 K)
      simp only [List.set_cons_zero, List.set_cons_succ] at r1
      have r2 := rowSet r1 hpreH.out (i := 1) (by simp) (.int .i64 (K + 1))
      simp only [List.set_cons_zero, List.set_cons_succ] at r2
      have r3 := rowSet r2 hpreH.out (i := 2) (by simp) (.int .i64 (K + 1 + 1))
      simp only [List.set_cons_zero, List.set_cons_succ] at r3
      have hfin := Lib.hid (show mkRow K l[j] = (K, (K + 1), (K + 1 + 1)) by rw [hx.out]; simp only [mkRow])
      have hcnt := Lib.hid (show K + 1 + 1 + 1 = K + (cntRow l[j] : Int) by rw [hx.out]; simp only [cntRow];  omega)
      have fin : ∀ W : World, W.ownsRow 0 141 3 (.slice (some ⟨g, 0, none⟩) n c) n (pre ++ [.int .i64 K, .int .i64 (K + 1), .int .i64 (K + 1 + 1)] ++ post) → Fr [g] wr W → OwnSl RowR W 141 F (.slice (some ⟨g, 0, none⟩) n c) (mkL mkRow cntRow k (l.take (j + 1)) ++ l.drop (j + 1)) := by
        intro W hr hf
        have hall : Fr (g :: []) wr W := fr_then (hf.more (fun z hz => by simp at hz; subst hz; exact List.mem_cons_self ..)) fa
        have := put.out W _ (mkRow K l[j]) (by rw [hfin.out]; exact Row_own _ _ _ _ ⟨by omega, by omega⟩ ⟨by omega, by omega⟩ ⟨by omega, by omega⟩) hr (fun q hq hne hnot => hall.block q (hltF.out q hq) (fun hx => by rcases List.mem_cons.1 hx with hx | hx; exact hne hx; exact hnot hx))
        have e1 := hK.out
        rw [e1, mkL_step hjl] at this
        exact this
      have finH := Lib.hid fin
      clear fin
      go_wp2_with fail
      go_roundw
      case rel => exact ⟨j + 1, _, by omega, by go_num, rfl, by rw [← hK1.out, ← hcnt.out], finH.out _ r3 (by exact frcA), by exact frcA⟩
      case measure => simp [intOf]; omega
    · have hjn := Lib.hid (show j = n by omega)
      have e1 : mkL mkRow cntRow k (l.take j) ++ l.drop j = mkL mkRow cntRow k l := by rw [List.take_of_length_le (by omega), List.drop_of_length_le (by omega), List.append_nil]
      rw [e1] at ho
      clear e1
      rw [List.take_of_length_le (by omega)] at hK
      go_wp2_with fail
      go_ret
      exact ⟨_, rfl, hK.out, ho, hb⟩
end Go.Proofs.Ytenpekohbedehaa

/- Marks over slices of Code. Printed by markgen.py. Walks. -/
set_option linter.unusedVariables false
set_option linter.unusedSimpArgs false
set_option linter.unnecessarySimpa false
set_option maxRecDepth 100000
namespace Go.Proofs.Ytenpekohbedehaa
open Go.RowKit

def cntCode (x : Code) : Nat := 1 + 1 + cntL cntInt (x.2.2.1) + cntL cntIns (x.2.2.2.1) + cntL cntRow (x.2.2.2.2)
def mkCode (k : Int) (x : Code) : Code := (k, (k + 1), mkL mkInt cntInt ((k + 1) + 1) (x.2.2.1), mkL mkIns cntIns (((k + 1) + 1) + (cntL cntInt (x.2.2.1) : Int)) (x.2.2.2.1), mkL mkRow cntRow ((((k + 1) + 1) + (cntL cntInt (x.2.2.1) : Int)) + (cntL cntIns (x.2.2.2.1) : Int)) (x.2.2.2.2))
theorem Code_ownx {w : World} {F : List Nat} {cs : List Value} {x : Code} (h : CodeR.own w F cs x) : ∃ x0 x1 A2 n2 c2 s2 A3 n3 c3 s3 A4 n4 c4 s4 F2 F3 F4, cs = ([.int .i64 x0, .int .i64 x1, .slice A2 n2 c2, .slice A3 n3 c3, .slice A4 n4 c4] : List Value) ∧ x = (x0, x1, s2, s3, s4) ∧ F = (F2 ++ (F3 ++ F4)) ∧ ((F2 ++ (F3 ++ F4)) : List Nat).Nodup ∧ I64 x0 ∧ I64 x1 ∧ OwnSl intR w 3 F2 (.slice A2 n2 c2) s2 ∧ OwnSl InsR w 133 F3 (.slice A3 n3 c3) s3 ∧ OwnSl RowR w 141 F4 (.slice A4 n4 c4) s4 := by
  obtain ⟨_, _, _, _, rfl, rfl, ⟨rfl, rfl, i0⟩, ⟨_, _, _, _, rfl, rfl, ⟨rfl, rfl, i1⟩, ⟨_, _, F2, _, rfl, rfl, ⟨A2, n2, c2, rfl, o2⟩, ⟨_, _, F3, F4, rfl, rfl, ⟨A3, n3, c3, rfl, o3⟩, ⟨A4, n4, c4, rfl, o4⟩, nd3⟩, nd2⟩, nd1⟩, nd0⟩ := h
  exact ⟨x.1, x.2.1, A2, n2, c2, x.2.2.1, A3, n3, c3, x.2.2.2.1, A4, n4, c4, x.2.2.2.2, F2, F3, F4, rfl, rfl, by simp, by simpa using nd0, i0, i1, o2, o3, o4⟩
set_option maxHeartbeats 1000000 in
theorem mkCodeTop (w : World) (x0 : Int) (x1 : Int) (A2 : Option Addr) (n2 c2 : Nat) (s2 : List Int) (A3 : Option Addr) (n3 c3 : Nat) (s3 : List Ins) (A4 : Option Addr) (n4 c4 : Nat) (s4 : List Row) (k : Int) (F2 F3 F4 : List Nat) (o2 : OwnSl intR w 3 F2 (.slice A2 n2 c2) s2) (o3 : OwnSl InsR w 133 F3 (.slice A3 n3 c3) s3) (o4 : OwnSl RowR w 141 F4 (.slice A4 n4 c4) s4) (hnd : ((F2 ++ (F3 ++ F4)) : List Nat).Nodup) (h1 : 0 ≤ k) (h2 : k + (cntL cntInt s2 + cntL cntIns s3 + cntL cntRow s4 : Nat) ≤ 1152921504606846976) :
    Calls Try.prog 11 #[.agg #[.int .i64 x0, .int .i64 x1, .slice A2 n2 c2, .slice A3 n3 c3, .slice A4 n4 c4], .int .i64 k] w fun e w' => ∃ r, e = .returned (.int .i64 r) ∧ r = k + (cntL cntInt s2 + cntL cntIns s3 + cntL cntRow s4 : Nat) ∧ OwnSl intR w' 3 F2 (.slice A2 n2 c2) (mkL mkInt cntInt k s2) ∧ OwnSl InsR w' 133 F3 (.slice A3 n3 c3) (mkL mkIns cntIns (k + (cntL cntInt s2 : Int)) s3) ∧ OwnSl RowR w' 141 F4 (.slice A4 n4 c4) (mkL mkRow cntRow ((k + (cntL cntInt s2 : Int)) + (cntL cntIns s3 : Int)) s4) ∧ Fr (F2 ++ (F3 ++ F4)) w w' := by
  have D23 : ∀ z, z ∈ F2 → z ∉ F3 := fun z h1 h2 => (List.nodup_append.1 hnd).2.2 z h1 z (List.mem_append_left _ h2) rfl
  have D32 : ∀ z, z ∈ F3 → z ∉ F2 := fun z h1 h2 => D23 z h2 h1
  have D24 : ∀ z, z ∈ F2 → z ∉ F4 := fun z h1 h2 => (List.nodup_append.1 hnd).2.2 z h1 z (List.mem_append_right _ h2) rfl
  have D42 : ∀ z, z ∈ F4 → z ∉ F2 := fun z h1 h2 => D24 z h2 h1
  have D34 : ∀ z, z ∈ F3 → z ∉ F4 := fun z h1 h2 => (List.nodup_append.1 (List.nodup_append.1 hnd).2.1).2.2 z h1 z h2 rfl
  have D43 : ∀ z, z ∈ F4 → z ∉ F3 := fun z h1 h2 => D34 z h2 h1
  have q2 : ∀ z, z ∈ F2 → z < w.heap.size := o2.lt
  have q3 : ∀ z, z ∈ F3 → z < w.heap.size := o3.lt
  have q4 : ∀ z, z ∈ F4 → z < w.heap.size := o4.lt
  go_enter Try.func11, Try.ntmps11
  go_wp2_with fail
  refine (mkInts _ n2 c2 A2 F2 s2 k (o2.below (by exact belA)) (by omega) (by omega)).mono ?_
  rintro e w2 ⟨k2, rfl, hk2, p2, f2⟩
  have hq2 := Lib.hid hk2
  have z2 : 0 ≤ k2 := by omega
  have y2 : k2 + (cntL cntIns s3 + cntL cntRow s4 : Nat) ≤ 1152921504606846976 := by omega
  clear hk2
  have fa : Fr (F2 ++ (F3 ++ F4)) w w2 := fr_then (f2.more (fun q hq => by simp [hq])) (Fr.of_below (by exact belA))
  replace o3 : OwnSl InsR w2 133 F3 (.slice A3 n3 c3) s3 := (OwnSl.fr (o3.below (by exact belA)) f2 D32)
  replace o4 : OwnSl RowR w2 141 F4 (.slice A4 n4 c4) s4 := (OwnSl.fr (o4.below (by exact belA)) f2 D42)
  have bx2 : ∀ o, w2.cell? ⟨w.heap.size, o, none⟩ = (#[.int .i64 x0, .int .i64 x1, .slice A2 n2 c2, .slice A3 n3 c3, .slice A4 n4 c4] : Array Value)[o]? := fun o => by
    rw [World.cell?_of_block (f2.block w.heap.size (by simp) (fun hh => by have := q2 _ hh; omega))]
    exact cell_of_row _ _ _ _ _ _ (heap_alloc_new w _)
  have hs2 : w.heap.size < w2.heap.size := by have := f2.size; first | omega | (simp at this; omega)
  have e2_0 : w2.cell? ⟨w.heap.size, 0, none⟩ = some (.int .i64 x0) := bx2 0
  have e2_1 : w2.cell? ⟨w.heap.size, 1, none⟩ = some (.int .i64 x1) := bx2 1
  have e2_2 : w2.cell? ⟨w.heap.size, 2, none⟩ = some (.slice A2 n2 c2) := bx2 2
  have e2_3 : w2.cell? ⟨w.heap.size, 3, none⟩ = some (.slice A3 n3 c3) := bx2 3
  have e2_4 : w2.cell? ⟨w.heap.size, 4, none⟩ = some (.slice A4 n4 c4) := bx2 4
  have bxH2 := Lib.hid bx2
  skip
  go_wp2_with fail
  refine (mkInss _ n3 c3 A3 F3 s3 k2 (o3.below (by exact belA)) (by omega) (by omega)).mono ?_
  rintro e w3 ⟨k3, rfl, hk3, p3, f3⟩
  have hq3 := Lib.hid hk3
  have z3 : 0 ≤ k3 := by omega
  have y3 : k3 + (cntL cntRow s4 : Nat) ≤ 1152921504606846976 := by omega
  clear hk3
  replace fa : Fr (F2 ++ (F3 ++ F4)) w w3 := fr_then (f3.more (fun q hq => by simp [hq])) (by exact frcA)
  replace p2 := OwnSl.fr (p2.below (by exact belA)) f3 D23
  replace o4 : OwnSl RowR w3 141 F4 (.slice A4 n4 c4) s4 := (OwnSl.fr (o4.below (by exact belA)) f3 D43)
  have bx3 : ∀ o, w3.cell? ⟨w.heap.size, o, none⟩ = (#[.int .i64 x0, .int .i64 x1, .slice A2 n2 c2, .slice A3 n3 c3, .slice A4 n4 c4] : Array Value)[o]? := fun o => by
    rw [World.cell?_of_block (f3.block w.heap.size (by first | exact hs2 | (simp; exact hs2)) (fun hh => by have := q3 _ hh; omega))]
    exact bx2 o
  have hs3 : w.heap.size < w3.heap.size := by have := f3.size; first | omega | (simp at this; omega)
  have e3_0 : w3.cell? ⟨w.heap.size, 0, none⟩ = some (.int .i64 x0) := bx3 0
  have e3_1 : w3.cell? ⟨w.heap.size, 1, none⟩ = some (.int .i64 x1) := bx3 1
  have e3_2 : w3.cell? ⟨w.heap.size, 2, none⟩ = some (.slice A2 n2 c2) := bx3 2
  have e3_3 : w3.cell? ⟨w.heap.size, 3, none⟩ = some (.slice A3 n3 c3) := bx3 3
  have e3_4 : w3.cell? ⟨w.heap.size, 4, none⟩ = some (.slice A4 n4 c4) := bx3 4
  have bxH3 := Lib.hid bx3
  skip
  go_wp2_with fail
  refine (mkRows _ n4 c4 A4 F4 s4 k3 (o4.below (by exact belA)) (by omega) (by omega)).mono ?_
  rintro e w4 ⟨k4, rfl, hk4, p4, f4⟩
  have hq4 := Lib.hid hk4
  have z4 : 0 ≤ k4 := by omega
  have y4 : k4 + (0 : Nat) ≤ 1152921504606846976 := by omega
  clear hk4
  replace fa : Fr (F2 ++ (F3 ++ F4)) w w4 := fr_then (f4.more (fun q hq => by simp [hq])) (by exact frcA)
  replace p2 := OwnSl.fr (p2.below (by exact belA)) f4 D24
  replace p3 := OwnSl.fr (p3.below (by exact belA)) f4 D34
  have bx4 : ∀ o, w4.cell? ⟨w.heap.size, o, none⟩ = (#[.int .i64 x0, .int .i64 x1, .slice A2 n2 c2, .slice A3 n3 c3, .slice A4 n4 c4] : Array Value)[o]? := fun o => by
    rw [World.cell?_of_block (f4.block w.heap.size (by first | exact hs3 | (simp; exact hs3)) (fun hh => by have := q4 _ hh; omega))]
    exact bx3 o
  have hs4 : w.heap.size < w4.heap.size := by have := f4.size; first | omega | (simp at this; omega)
  have e4_0 : w4.cell? ⟨w.heap.size, 0, none⟩ = some (.int .i64 x0) := bx4 0
  have e4_1 : w4.cell? ⟨w.heap.size, 1, none⟩ = some (.int .i64 x1) := bx4 1
  have e4_2 : w4.cell? ⟨w.heap.size, 2, none⟩ = some (.slice A2 n2 c2) := bx4 2
  have e4_3 : w4.cell? ⟨w.heap.size, 3, none⟩ = some (.slice A3 n3 c3) := bx4 3
  have e4_4 : w4.cell? ⟨w.heap.size, 4, none⟩ = some (.slice A4 n4 c4) := bx4 4
  have bxH4 := Lib.hid bx4
  skip
  go_wp2_with fail
  go_ret
  exact ⟨_, rfl, by have a2 := hq2.out; have a3 := hq3.out; have a4 := hq4.out; omega, by have := p2; have a2 := hq2.out; have a3 := hq3.out; have a4 := hq4.out; simpa [a2, a3, a4] using this, by have := p3; have a2 := hq2.out; have a3 := hq3.out; have a4 := hq4.out; simpa [a2, a3, a4] using this, by have := p4; have a2 := hq2.out; have a3 := hq3.out; have a4 := hq4.out; simpa [a2, a3, a4] using this, fa⟩
end Go.Proofs.Ytenpekohbedehaa

/- Marks over slices of Image. Printed by markgen.py. Walks. -/
set_option linter.unusedVariables false
set_option linter.unusedSimpArgs false
set_option linter.unnecessarySimpa false
set_option maxRecDepth 100000
namespace Go.Proofs.Ytenpekohbedehaa
open Go.RowKit

def cntImage (x : Image) : Nat := cntL cntCode x
def mkImage (k : Int) (x : Image) : Image := mkL mkCode cntCode k x
end Go.Proofs.Ytenpekohbedehaa

/- Ins: own data field by field; how many marks. Printed by ocgen.py. -/
set_option linter.unusedVariables false
set_option linter.unusedSimpArgs false
set_option maxRecDepth 100000
namespace Go.Proofs.Ytenpekohbedehaa
open Go.RowKit

theorem cntIns_le (l : List Ins) : cntL cntIns l ≤ 16 * l.length := by
  induction l with
  | nil => simp [cntL]
  | cons x l ih => simp only [cntL, List.map_cons, List.sum_cons, List.length_cons] at *; simp only [cntIns] at *; omega
end Go.Proofs.Ytenpekohbedehaa

/- Row: own data field by field; how many marks. Printed by ocgen.py. -/
set_option linter.unusedVariables false
set_option linter.unusedSimpArgs false
set_option maxRecDepth 100000
namespace Go.Proofs.Ytenpekohbedehaa
open Go.RowKit

theorem cntRow_le (l : List Row) : cntL cntRow l ≤ 16 * l.length := by
  induction l with
  | nil => simp [cntL]
  | cons x l ih => simp only [cntL, List.map_cons, List.sum_cons, List.length_cons] at *; simp only [cntRow] at *; omega
end Go.Proofs.Ytenpekohbedehaa

/- Code: own data field by field; how many marks. Printed by ocgen.py. -/
set_option linter.unusedVariables false
set_option linter.unusedSimpArgs false
set_option maxRecDepth 100000
namespace Go.Proofs.Ytenpekohbedehaa
open Go.RowKit

theorem Code_ownc {w : World} {F : List Nat} {x0 : Int} {x1 : Int} {A2 : Option Addr} {n2 c2 : Nat} {s2 : List Int} {A3 : Option Addr} {n3 c3 : Nat} {s3 : List Ins} {A4 : Option Addr} {n4 c4 : Nat} {s4 : List Row} (h : CodeR.own w F [.int .i64 x0, .int .i64 x1, .slice A2 n2 c2, .slice A3 n3 c3, .slice A4 n4 c4] (x0, x1, s2, s3, s4)) : ∃ F2 F3 F4, F = (F2 ++ (F3 ++ F4)) ∧ ((F2 ++ (F3 ++ F4)) : List Nat).Nodup ∧ OwnSl intR w 3 F2 (.slice A2 n2 c2) s2 ∧ OwnSl InsR w 133 F3 (.slice A3 n3 c3) s3 ∧ OwnSl RowR w 141 F4 (.slice A4 n4 c4) s4 := by
  obtain ⟨x0q, x1q, A2q, n2q, c2q, s2q, A3q, n3q, c3q, s3q, A4q, n4q, c4q, s4q, F2, F3, F4, ec, ex, eF, nd, i0, i1, o2, o3, o4⟩ := Code_ownx h
  simp only [List.cons.injEq, Value.slice.injEq, Value.int.injEq, Value.bool.injEq, and_true, true_and, Prod.mk.injEq] at ec ex
  refine ⟨F2, F3, F4, eF, nd, ?_, ?_, ?_⟩
  · simp only [ec, ex]; exact o2
  · simp only [ec, ex]; exact o3
  · simp only [ec, ex]; exact o4
theorem cntCode_le1 (x : Code) : cntCode x ≤ 16 + 16 * mszCode x := by
  have t2 := cntInt_le (x.2.2.1)
  have t3 := cntIns_le (x.2.2.2.1)
  have t4 := cntRow_le (x.2.2.2.2)
  simp only [cntCode, mszCode]; omega
theorem cntCode_le (l : List Code) : cntL cntCode l ≤ 16 * mszLCode l := by
  induction l with
  | nil => simp [cntL]
  | cons x l ih => have := cntCode_le1 x; simp only [cntL, mszLCode, List.map_cons, List.sum_cons, List.length_cons] at *; omega
end Go.Proofs.Ytenpekohbedehaa

/- Image: own data field by field; how many marks. Printed by ocgen.py. -/
set_option linter.unusedVariables false
set_option linter.unusedSimpArgs false
set_option maxRecDepth 100000
namespace Go.Proofs.Ytenpekohbedehaa
open Go.RowKit

theorem cntImage_le1 (x : Image) : cntImage x ≤ 16 + 16 * mszImage x := by
  have t0 := cntCode_le (x)
  simp only [cntImage, mszImage]; omega
theorem cntImage_le (l : List Image) : cntL cntImage l ≤ 16 * mszLImage l := by
  induction l with
  | nil => simp [cntL]
  | cons x l ih => have := cntImage_le1 x; simp only [cntL, mszLImage, List.map_cons, List.sum_cons, List.length_cons] at *; omega
end Go.Proofs.Ytenpekohbedehaa

/- Marks read back: Ins. Printed by heldgen.py. Walks. -/
set_option linter.unusedVariables false
set_option linter.unusedSimpArgs false
set_option linter.unnecessarySimpa false
set_option maxRecDepth 100000
namespace Go.Proofs.Ytenpekohbedehaa
open Go.RowKit

set_option maxHeartbeats 2000000 in
theorem hdInss (w : World) (lo hi n c : Nat) (A : Option Addr) (l : List Ins) (k : Int) (h : Sl InsR w lo hi A n c (mkL mkIns cntIns k l)) (hh : hi ≤ w.heap.size) (hk1 : 0 ≤ k) (hk2 : k + (cntL cntIns l : Int) ≤ 1152921504606846976) :
    Calls Try.prog 58 #[.slice A n c, .int .i64 k] w (RetHd (k + (cntL cntIns l : Int)) w) := by
  have e1 : l.length = n := by have := h.lenEq; rwa [mkL_len] at this
  have b1 := h.lenLe
  go_enter Try.func58, Try.ntmps58
  go_wp2_with fail
  go_loopw [1, 5] (fun kk i wr => ∃ (j : Nat) (K : Int), j ≤ n ∧ i = .int .i64 j ∧ kk = .int .i64 K ∧ K = k + (cntL cntIns (l.take j) : Int) ∧ Below w.heap.size w wr) (fun _ i _ => n - (intOf i).toNat)
  case atStart => exact ⟨0, k, Nat.zero_le _, rfl, rfl, by simp [cntL], Below.refl _ _⟩
  case round =>
    obtain ⟨j, K, hj, rfl, rfl, hK0, hb⟩ := hrel
    have a0 : 0 ≤ K := by omega
    have a1 : K ≤ 1152921504606846976 := by have := cntL_take_le (cnt := cntIns) l j; omega
    have hhr : hi ≤ wr.heap.size := by have := hb.size; omega
    have hK := Lib.hid hK0
    by_cases hlt : j < n
    · have hg := mkL_get (mkf := mkIns) (cnt := cntIns) (l := l) (j := j) (k := k) (by omega)
      have hs0 := cntL_succ (cnt := cntIns) (l := l) (k := j) (by omega)
      have hle := cntL_take_le (cnt := cntIns) l (j + 1)
      obtain ⟨b, o, x0, x1, rfl, _, _, hl0, i0, i1, d0, d1⟩ := Ins_at (h.below hb hh) hlt
      rw [hl0, ← hK0] at hg
      generalize l[j]'(by omega) = y at hg hs0
      obtain ⟨u0, u1⟩ := y
      simp only [mkIns, Prod.mk.injEq] at hg
      simp only [cntIns] at hs0
      obtain ⟨g0, g1⟩ := hg
      have hs := Lib.hid hs0
      replace g0 := g0.symm
      subst g0
      replace g1 := g1.symm
      subst g1
      have hle2 := Lib.hid hle
      clear hs0 hle hK0
      have hK1 := Lib.hid (show ((K + 1) + 1) = k + (cntL cntIns (l.take (j + 1)) : Int) by have := hs.out; have := hK.out; omega)
      go_wp2_with fail
      go_roundw
      case rel => exact ⟨j + 1, ((K + 1) + 1), by omega, by go_num, by first | rfl | go_num, hK1.out, hb⟩
      case measure => simp [intOf]; omega
    · have hK2 := Lib.hid (show K = k + (cntL cntIns l : Int) by rw [hK0, List.take_of_length_le (by omega)])
      clear hK0
      go_wp2_with fail
      go_ret
      exact ⟨_, rfl, hK2.out, hb⟩
end Go.Proofs.Ytenpekohbedehaa

/- Marks read back: Row. Printed by heldgen.py. Walks. -/
set_option linter.unusedVariables false
set_option linter.unusedSimpArgs false
set_option linter.unnecessarySimpa false
set_option maxRecDepth 100000
namespace Go.Proofs.Ytenpekohbedehaa
open Go.RowKit

set_option maxHeartbeats 2000000 in
theorem hdRows (w : World) (lo hi n c : Nat) (A : Option Addr) (l : List Row) (k : Int) (h : Sl RowR w lo hi A n c (mkL mkRow cntRow k l)) (hh : hi ≤ w.heap.size) (hk1 : 0 ≤ k) (hk2 : k + (cntL cntRow l : Int) ≤ 1152921504606846976) :
    Calls Try.prog 59 #[.slice A n c, .int .i64 k] w (RetHd (k + (cntL cntRow l : Int)) w) := by
  have e1 : l.length = n := by have := h.lenEq; rwa [mkL_len] at this
  have b1 := h.lenLe
  go_enter Try.func59, Try.ntmps59
  go_wp2_with fail
  go_loopw [1, 5] (fun kk i wr => ∃ (j : Nat) (K : Int), j ≤ n ∧ i = .int .i64 j ∧ kk = .int .i64 K ∧ K = k + (cntL cntRow (l.take j) : Int) ∧ Below w.heap.size w wr) (fun _ i _ => n - (intOf i).toNat)
  case atStart => exact ⟨0, k, Nat.zero_le _, rfl, rfl, by simp [cntL], Below.refl _ _⟩
  case round =>
    obtain ⟨j, K, hj, rfl, rfl, hK0, hb⟩ := hrel
    have a0 : 0 ≤ K := by omega
    have a1 : K ≤ 1152921504606846976 := by have := cntL_take_le (cnt := cntRow) l j; omega
    have hhr : hi ≤ wr.heap.size := by have := hb.size; omega
    have hK := Lib.hid hK0
    by_cases hlt : j < n
    · have hg := mkL_get (mkf := mkRow) (cnt := cntRow) (l := l) (j := j) (k := k) (by omega)
      have hs0 := cntL_succ (cnt := cntRow) (l := l) (k := j) (by omega)
      have hle := cntL_take_le (cnt := cntRow) l (j + 1)
      obtain ⟨b, o, x0, x1, x2, rfl, _, _, hl0, i0, i1, i2, d0, d1, d2⟩ := Row_at (h.below hb hh) hlt
      rw [hl0, ← hK0] at hg
      generalize l[j]'(by omega) = y at hg hs0
      obtain ⟨u0, u1, u2⟩ := y
      simp only [mkRow, Prod.mk.injEq] at hg
      simp only [cntRow] at hs0
      obtain ⟨g0, g1, g2⟩ := hg
      have hs := Lib.hid hs0
      replace g0 := g0.symm
      subst g0
      replace g1 := g1.symm
      subst g1
      replace g2 := g2.symm
      subst g2
      have hle2 := Lib.hid hle
      clear hs0 hle hK0
      have hK1 := Lib.hid (show (((K + 1) + 1) + 1) = k + (cntL cntRow (l.take (j + 1)) : Int) by have := hs.out; have := hK.out; omega)
      go_wp2_with fail
      go_roundw
      case rel => exact ⟨j + 1, (((K + 1) + 1) + 1), by omega, by go_num, by first | rfl | go_num, hK1.out, hb⟩
      case measure => simp [intOf]; omega
    · have hK2 := Lib.hid (show K = k + (cntL cntRow l : Int) by rw [hK0, List.take_of_length_le (by omega)])
      clear hK0
      go_wp2_with fail
      go_ret
      exact ⟨_, rfl, hK2.out, hb⟩
end Go.Proofs.Ytenpekohbedehaa

/- Marks read back: Code. Printed by heldgen.py. Walks. -/
set_option linter.unusedVariables false
set_option linter.unusedSimpArgs false
set_option linter.unnecessarySimpa false
set_option maxRecDepth 100000
namespace Go.Proofs.Ytenpekohbedehaa
open Go.RowKit

set_option maxHeartbeats 2000000 in
theorem hdCodeTop (w : World) (lo hi : Nat) (x0 : Int) (x1 : Int) (A2 : Option Addr) (n2 c2 : Nat) (s2 : List Int) (A3 : Option Addr) (n3 c3 : Nat) (s3 : List Ins) (A4 : Option Addr) (n4 c4 : Nat) (s4 : List Row) (k : Int) (h2 : Sl intR w lo hi A2 n2 c2 (mkL mkInt cntInt k s2)) (h3 : Sl InsR w lo hi A3 n3 c3 (mkL mkIns cntIns (k + (cntL cntInt s2 : Int)) s3)) (h4 : Sl RowR w lo hi A4 n4 c4 (mkL mkRow cntRow ((k + (cntL cntInt s2 : Int)) + (cntL cntIns s3 : Int)) s4)) (hh : hi ≤ w.heap.size) (hk1 : 0 ≤ k) (hk2 : k + (cntL cntInt s2 : Int) + (cntL cntIns s3 : Int) + (cntL cntRow s4 : Int) ≤ 1152921504606846976) :
    Calls Try.prog 12 #[.agg #[.int .i64 x0, .int .i64 x1, .slice A2 n2 c2, .slice A3 n3 c3, .slice A4 n4 c4], .int .i64 k] w (RetHd (k + (cntL cntInt s2 : Int) + (cntL cntIns s3 : Int) + (cntL cntRow s4 : Int)) w) := by
  go_enter Try.func12, Try.ntmps12
  go_wp2_with fail
  refine (hdInts _ lo hi n2 c2 A2 s2 k (h2.below (show Below w.heap.size w _ by exact belA) hh) (by simp; omega) (by omega) (by omega)).mono ?_
  rintro e w2 ⟨r2, rfl, q2, hx⟩
  have hb : Below w.heap.size w w2 := below_then (by exact belA) hx
  have hhr : hi ≤ w2.heap.size := by have := hb.size; omega
  obtain ⟨hcE, hfE⟩ := bcell hx
  have k3 : w2.cell? ⟨w.heap.size, 3, none⟩ = some (.slice A3 n3 c3) := by simp [hcE, go_sem]
  replace h3 := h3.below hb hh
  have k4 : w2.cell? ⟨w.heap.size, 4, none⟩ = some (.slice A4 n4 c4) := by simp [hcE, go_sem]
  replace h4 := h4.below hb hh
  clear hcE hfE
  have p2 : 0 ≤ r2 := by omega
  replace q2 := Lib.hid q2
  clear hx
  go_wp2_with fail
  have g3 := h3
  rw [← q2.out] at g3
  have b3 : r2 + (cntL cntIns s3 : Int) ≤ 1152921504606846976 := by have := q2.out; omega
  refine (hdInss _ lo hi n3 c3 A3 s3 r2 g3 (by omega) (by omega) b3).mono ?_
  rintro e w3 ⟨r3, rfl, q3, hx⟩
  replace hb := below_then hb hx
  replace k4 := below_cell hx k4
  replace h4 := h4.below hx (by omega)
  replace hhr : hi ≤ w3.heap.size := by have := hx.size; omega
  have p3 : 0 ≤ r3 := by omega
  replace q3 := Lib.hid q3
  clear hx
  go_wp2_with fail
  have g4 := h4
  rw [← q2.out, ← q3.out] at g4
  have b4 : r3 + (cntL cntRow s4 : Int) ≤ 1152921504606846976 := by have := q2.out; have := q3.out; omega
  refine (hdRows _ lo hi n4 c4 A4 s4 r3 g4 (by omega) (by omega) b4).mono ?_
  rintro e w4 ⟨r4, rfl, q4, hx⟩
  replace hb := below_then hb hx
  replace hhr : hi ≤ w4.heap.size := by have := hx.size; omega
  have p4 : 0 ≤ r4 := by omega
  replace q4 := Lib.hid q4
  clear hx
  have hK := Lib.hid (show r4 = k + (cntL cntInt s2 : Int) + (cntL cntIns s3 : Int) + (cntL cntRow s4 : Int) by have := q2.out; have := q3.out; have := q4.out; omega)
  go_wp2_with fail
  go_ret
  exact ⟨_, rfl, hK.out, hb⟩
end Go.Proofs.Ytenpekohbedehaa

/- Marks read back: Image. Printed by heldgen.py. Walks. -/
set_option linter.unusedVariables false
set_option linter.unusedSimpArgs false
set_option linter.unnecessarySimpa false
set_option maxRecDepth 100000
namespace Go.Proofs.Ytenpekohbedehaa
open Go.RowKit

end Go.Proofs.Ytenpekohbedehaa
