/- The reference's CheckNotes: walk. -/
import Derived.Test.YtgdeclmciflmpaaChkS
import Derived.Test.YtgdeclmciflmpaaChkJ
import Derived.Test.YtgdeclmciflmpaaSlc
import Derived.Deep.DeepCutAuto
import Derived.Deep.RegionHeld3
set_option linter.unusedVariables false
set_option linter.unusedSimpArgs false
set_option maxRecDepth 100000
namespace Go.Proofs.Ytgdeclmciflmpaa
open Go.RowKit
attribute [local irreducible] wpList
set_option maxHeartbeats 16000000 in
theorem specCheckNotes1 (w : World) (lo hi n c : Nat) (A : Option Addr) (l : List Note) (h : Sl noteR w lo hi A n c l) (hh : hi ≤ w.heap.size) (hn : n ≤ 1048576) :
    Calls Try.prog 10 #[.slice A n c] w (RetCk (chkNR l) w) := by
  have HL := Lib.hid h.lenEq
  obtain ⟨r, hr⟩ : ∃ r, chkNR l = r := ⟨_, rfl⟩
  have HR := Lib.hid hr
  rw [hr]
  clear hr
  obtain ⟨gd, hgd⟩ : ∃ b, goodNotes l = b := ⟨_, rfl⟩
  have HG := Lib.hid hgd
  clear hgd
  go_enter Try.func10, Try.ntmps10
  go_wp2_with fail
  refine (specL11Good w lo hi n c A l h hh).mono ?_
  rintro e w1 ⟨rfl, hb1⟩
  rw [HG.out]
  cases gd
  · have hr : r = (0, 0, false) := by rw [← HR.out]; unfold chkNR; rw [if_neg (by rw [HG.out]; simp)]
    subst hr
    go_wp2_with fail
    refine bodyPost_ret (v := .tuple #[.int .i64 0, .int .i64 0, .bool false]) (by simp [results, Try.results10, go_sem]) rfl ?_
    exact ⟨rfl, by exact belA⟩
  have HOKS := Lib.hid (show ∀ x, x ∈ l → noteOk x = true from by
    have := HG.out
    unfold goodNotes at this
    simp only [Bool.and_eq_true] at this
    exact fun x hx => List.all_eq_true.1 this.1 x hx)
  go_wp2_with fail
  go_loopw [13] (fun v wr => ∃ (k : Nat), k ≤ n ∧ v = .int .i64 k ∧ Hid (∀ j, j < k → wrongAt l j = 0) ∧ Below w.heap.size w wr) (fun v _ => n - (intOf v).toNat)
  case atStart => exact ⟨0, Nat.zero_le _, rfl, Lib.hid (fun j hj => by omega), hb1⟩
  case round =>
    obtain ⟨k, hk, rfl, HW, hb⟩ := hrel
    by_cases hlt : k < n
    rotate_left
    · have hr : r = (0, (n : Int), true) := by
        rw [← HR.out]
        unfold chkNR
        rw [if_pos HG.out, chk_end (fun j hj => HW.out j (by have := HL.out; omega)), HL.out]
      subst hr
      go_wp2_with fail
      refine bodyPost_ret (v := .tuple #[.int .i64 0, .int .i64 n, .bool true]) (by simp [results, Try.results10, go_sem]) rfl ?_
      exact ⟨rfl, hb⟩
    obtain ⟨b, o, x, y, z, rfl, hb1', hb2', hl0, i1, i2, i3, c0, c1, c2⟩ := (h.below hb hh).note_at hlt
    have hkl : k < l.length := by have := HL.out; omega
    have HX := Lib.hid hl0
    have HOK := Lib.hid (show noteOk (x, y, z) = true from hl0 ▸ HOKS.out _ (List.getElem_mem hkl))
    clear hl0
    go_upto_region 6 with fail
    obtain ⟨U, hU⟩ : ∃ U, U = wr.alloc (.cells #[.int .i64 x, .int .i64 y, .int .i64 z] 80) := ⟨_, rfl⟩
    obtain ⟨Nb, hNb⟩ : ∃ N, wr.heap.size = N := ⟨_, rfl⟩
    have hbU : Below wr.heap.size wr U := by rw [hU]; exact belA
    have hS := Lib.hid (show ∀ V', Below U.heap.size U V' → V'.cell? ⟨Nb, 0, none⟩ = some (.int .i64 x) ∧ V'.cell? ⟨Nb, 1, none⟩ = some (.int .i64 y) ∧ V'.cell? ⟨Nb, 2, none⟩ = some (.int .i64 z) from fun V' hV' =>
      ⟨below_cell hV' (by rw [hU, ← hNb]; simp [go_sem]), below_cell hV' (by rw [hU, ← hNb]; simp [go_sem]), below_cell hV' (by rw [hU, ← hNb]; simp [go_sem])⟩)
    have hbwU : Below w.heap.size w U := hb.trans (hbU.mono hb.size)
    rw [← hU, hNb]
    clear hU c0 c1 c2
    have hzU := hbwU.size
    have hUs : Sl noteR U lo hi (some ⟨b, o, none⟩) k c (l.take k) := (h.below hbwU hh).cut k (by omega)
    obtain ⟨cd, hcd⟩ : ∃ c, codeOf (stOf (l.take k) y) (x, y, z) = c := ⟨_, rfl⟩
    have HCD := Lib.hid hcd
    clear hcd
    have hkc : k ≤ c := by have := h.2.1; omega
    have hkcI : (k : Int) ≤ (c : Int) := by omega
    obtain ⟨k0, k1, k2⟩ := hS.out U (Below.refl _ _)
    go_region_held3 (fun V' => V'.cell? ⟨Nb, 0, none⟩ = some (.int .i64 x) ∧ V'.cell? ⟨Nb, 1, none⟩ = some (.int .i64 y) ∧ V'.cell? ⟨Nb, 2, none⟩ = some (.int .i64 z)) (exact hS.out _ (show Below U.heap.size U _ by exact beloA))
      (first | (go_at_call 44; ((with_reducible refine (specWrong _ lo hi k c (some ⟨b, o, none⟩) (l.take k) (hUs.below (show Below U.heap.size U _ by exact beloA) (by omega)) (by first | omega | (simp; done) | (simp; omega)) (by omega) x y z HOK.out).mono ?_); rintro e w7 ⟨rfl, hb7⟩; have b7 : Below U.heap.size U w7 := (by exact beloA); have z7 := b7.size; rw [HCD.out])))
    have hb8 : Below w.heap.size w w7 := hbwU.trans (b7.mono hzU)
    have hrg := code_range (stOf (l.take k) y) (x, y, z)
    rw [HCD.out] at hrg
    clear k0 k1 k2
    by_cases h0 : cd > 0
    rotate_left
    · have hz : cd = 0 := by omega
      have HW8 := Lib.hid (show ∀ j, j < k + 1 → wrongAt l j = 0 from fun j hj => by
        rcases Nat.lt_or_ge j k with h | h
        · exact HW.out j h
        · have : j = k := by omega
          subst this
          rw [wrong_at hkl HX.out]
          exact HCD.out.trans hz)
      clear hz hrg
      go_wp2_with fail
      go_roundw
      case rel => exact ⟨k + 1, by omega, by go_num, HW8, hb8⟩
      case measure => simp [intOf]; omega
    · have hr : r = (cd, (k : Int), true) := by
        rw [← HR.out]
        unfold chkNR
        rw [if_pos HG.out, chk_at HW.out hkl ((wrong_at hkl HX.out).trans HCD.out) (by omega)]
      subst hr
      clear hrg
      go_wp2_with fail
      refine bodyPost_ret (v := .tuple #[.int .i64 cd, .int .i64 k, .bool true]) (by simp [results, Try.results10, go_sem]) rfl ?_
      exact ⟨rfl, hb8⟩
end Go.Proofs.Ytgdeclmciflmpaa
