/- What the program tells of one note: walk of noteState.take. -/
import Derived.Test.YtgdeclmciflmpaaChkI0
import Derived.Deep.DeepCutAuto
import Derived.Deep.RegionHeld3
import Derived.Deep.QuietTactic
import Derived.BigQuiet
set_option linter.unusedVariables false
set_option linter.unusedSimpArgs false
set_option maxRecDepth 100000
namespace Go.Proofs.Ytgdeclmciflmpaa
open Go.RowKit
attribute [local irreducible] wpList
set_option maxHeartbeats 16000000 in
theorem implTake2 (w : World) (b : Nat) (F : List Nat) (e o : Bool) (ps os : List Int) (id site : Int) (hI : I64 site) (h : NSt w b F (e, o, ps, os)) (hl : os.length ≤ 1048576) (hlp : ps.length ≤ 1048576) :
    Calls Try.prog 47 #[.pointer (some ⟨b, 0, none⟩), .agg #[.int .i64 2, .int .i64 id, .int .i64 site]] w (RetTk b F (e, o, ps, os) (2, id, site) w) := by
  have HNS := Lib.hid h
  have hbF := h.mem
  obtain ⟨vp, vo, Fp, Fo, hb, hp, ho, hF, hn⟩ := h
  have HP := Lib.hid hp
  have HO := Lib.hid ho
  obtain ⟨Ap, np, cp, rfl, hnp⟩ := hp.form
  obtain ⟨Ao, no, co, rfl, hno⟩ := ho.form
  have c0 := cell_of_row w b 0 _ _ _ hb
  have c1 := cell_of_row w b 1 _ _ _ hb
  have c2 := cell_of_row w b 2 _ _ _ hb
  have c3 := cell_of_row w b 3 _ _ _ hb
  have hbl : b < w.heap.size := (Array.getElem?_eq_some_iff.1 hb).1
  have HB := Lib.hid hb
  simp only at hnp hno c0 c1
  have hno' : no ≤ 1048576 := by omega
  have hnp' : np ≤ 1048576 := by omega
  have HL := Lib.hid hnp
  have HLo := Lib.hid hno
  have HFN := Lib.hid (And.intro hF hn)
  clear hb hp ho hF hn hnp hno
  go_enter Try.func47, Try.ntmps47
  cases e
  rotate_left
  · go_wp2_with fail
    go_ret
    exact ⟨ret_int (code_e ..).symm, Fr.of_below (by exact belA), fun h => by rw [code_e] at h; omega⟩
  have HT0 := Lib.hid (show TkI w b F o (.slice Ap np cp) (.slice Ao no co) [] w (.slice Ap np cp) (.slice Ao no co) ps os from ⟨Fp, Fo, HB.out, HP.out, HO.out, HFN.out.1 ▸ HFN.out.2, Fr.refl _ _, fun k hk => Or.inl (HFN.out.1 ▸ hk), fun k hk => by cases hk⟩)
  go_upto_region 4 with fail
  obtain ⟨W, hW⟩ : ∃ W, W = w.alloc (.cells #[.int .i64 2, .int .i64 id, .int .i64 site] 80) := ⟨_, rfl⟩
  have hbW : Below w.heap.size w W := by rw [hW]; exact belA
  have hS := Lib.hid (show ∀ V', Below W.heap.size W V' → V'.cell? ⟨w.heap.size, 0, none⟩ = some (.int .i64 2) ∧ V'.cell? ⟨w.heap.size, 2, none⟩ = some (.int .i64 site) ∧ V'.cell? ⟨b, 0, none⟩ = some (.bool false) ∧ V'.cell? ⟨b, 1, none⟩ = some (.bool o) ∧ V'.cell? ⟨b, 2, none⟩ = some (.slice Ap np cp) ∧ V'.cell? ⟨b, 3, none⟩ = some (.slice Ao no co) from fun V' hV' =>
    ⟨below_cell hV' (by rw [hW]; simp [go_sem]), below_cell hV' (by rw [hW]; simp [go_sem]), below_cell hV' (below_cell hbW c0), below_cell hV' (below_cell hbW c1), below_cell hV' (below_cell hbW c2), below_cell hV' (below_cell hbW c3)⟩)
  have hWN := Lib.hid (show W.heap[w.heap.size]? = some (.cells #[.int .i64 2, .int .i64 id, .int .i64 site] 80) by rw [hW]; exact alloc_new' rfl)
  have hzW : W.heap.size = w.heap.size + 1 := by rw [hW]; simp
  have hbWl : b < W.heap.size := by omega
  have hSp := Lib.hid (show Sl intR W 0 w.heap.size Ap np cp ps from HP.out.sl.below hbW (Nat.le_refl _))
  rw [← hW]
  clear hW c0 c1 c2 c3
  have hzW' : w.heap.size ≤ W.heap.size := by omega
  have hzWl : w.heap.size < W.heap.size := by omega
  clear hzW
  have HT1 := Lib.hid (HT0.out.aside hbW (Nat.le_refl _) hzWl)
  clear HT0
  obtain ⟨k0, k2, b0, b1, b2, b3⟩ := hS.out W (Below.refl _ _)
  go_quiet (fail)
  clear k0 k2 b0 b1 b2 b3
  obtain ⟨V0, hV0⟩ : ∃ V, V = W.drewN nq := ⟨_, rfl⟩
  have hWV0 : Below W.heap.size W V0 := by rw [hV0]; exact beloA
  obtain ⟨k0, k2, b0, b1, b2, b3⟩ := hS.out V0 hWV0
  rw [← hV0]
  clear hV0
  by_cases hpos : 0 < no
  rotate_left
  · have hz : no = 0 := by omega
    have hcd : codeOf (false, o, ps, os) (2, id, site) = 3 := by
      rw [code_k2, if_neg]
      have e0 : os = [] := List.eq_nil_of_length_eq_zero (by rw [← HLo.out]; exact hz)
      rw [e0]; simp [lastOk]
    subst hz
    go_upto_region 6 with fail
    go_quiet (fail)
    go_wp2_with fail
    go_ret
    exact ⟨ret_int hcd.symm, Fr.of_below (by exact belA), fun h => by rw [hcd] at h; omega⟩
  obtain ⟨m, rfl⟩ : ∃ m, no = m + 1 := ⟨no - 1, by omega⟩
  obtain ⟨g, hAg, hgc, hgm⟩ := own_at HO.out
  subst hAg
  obtain ⟨bo, oo, hAo, hbo1, hbo2, hco, hi64⟩ := (HO.out.sl.below (hbW.trans (hWV0.mono hzW')) (Nat.le_refl _)).int_at (k := m) (by omega)
  obtain ⟨rfl, rfl⟩ : g = bo ∧ 0 = oo := by
    injection hAo with hAo
    injection hAo with h1 h2
    exact ⟨h1, h2⟩
  clear hAo
  rw [Nat.zero_add] at hco
  have hml : m < os.length := by have := HLo.out; omega
  obtain ⟨y, hy⟩ : ∃ y, os[m]'hml = y := ⟨_, rfl⟩
  rw [hy] at hco hi64
  have HY := Lib.hid hy
  have hlast := Lib.hid (show os.getLast? = some y by
    rw [List.getLast?_eq_getElem?, ← HLo.out]
    simp only [Nat.add_sub_cancel]
    rw [List.getElem?_eq_getElem hml, HY.out])
  clear hy
  have hw1 : IntKind.i64.wrap (((m + 1 : Nat) : Int) - 1) = (m : Int) := by rw [IntWalk.i64_in _ (by omega)]; omega
  have hm0 : ¬ (m : Int) < 0 := by omega
  have hmI : (m : Int) < ((m + 1 : Nat) : Int) := by omega
  by_cases hys : y = site
  rotate_left
  · have hcd : codeOf (false, o, ps, os) (2, id, site) = 3 := by
      rw [code_k2, if_neg]
      unfold lastOk
      rw [hlast.out]
      simpa using hys
    have hne : (y != site) = true := by simpa using hys
    go_upto_region 6 with fail
    go_quiet (fail)
    go_wp2_with fail
    go_ret
    exact ⟨ret_int hcd.symm, Fr.of_below (by exact belA), fun h => by rw [hcd] at h; omega⟩
  subst hys
  have hcd : codeOf (false, o, ps, os) (2, id, y) = 0 := by
    rw [code_k2, if_pos]
    unfold lastOk
    rw [hlast.out]
    simp
  go_upto_region 6 with fail
  go_quiet (fail)
  obtain ⟨V, hV⟩ : ∃ V, V = V0.drewN nq := ⟨_, rfl⟩
  have hWV : Below W.heap.size W V := by rw [hV]; exact beloA
  replace HT1 := Lib.hid (HT1.out.keep hWV)
  obtain ⟨k0, k2, b0, b1, b2, b3⟩ := hS.out V hWV
  rw [← hV]
  clear hV hS hWV0
  have fzb : ∀ j, V.frozen? ⟨b, j, none⟩ = false := blk_frozen HT1.out.hb
  have hmc : m ≤ co := by omega
  have hmcI : (m : Int) ≤ (co : Int) := by omega
  go_wp2_with fail
  go_ret
  have hU := heap_setCell (i := 3) (u := .slice (some ⟨g, 0, none⟩) m co) HT1.out.hb
  obtain ⟨hfF, hNS⟩ := (HT1.out.cut2 (m := m) (by omega)).fin (e' := false) (o' := true) (w' := (V.setCell ⟨b, 3, none⟩ (.slice (some ⟨g, 0, none⟩) m co)).setCell ⟨b, 1, none⟩ (.bool true)) (by exact frcA) (by rw [heap_setCell hU]; simp)
  have hdl : os.dropLast = os.take m := by rw [List.dropLast_eq_take, ← HLo.out]; rfl
  exact ⟨ret_int hcd.symm, hfF, fun _ => by rw [next_k2, hdl]; exact hNS⟩
end Go.Proofs.Ytgdeclmciflmpaa
