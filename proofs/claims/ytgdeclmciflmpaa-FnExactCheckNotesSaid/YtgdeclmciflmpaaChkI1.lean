/- What the program tells of one note: walk of noteState.take. -/
import Derived.Test.YtgdeclmciflmpaaChkI0
import Derived.Deep.DeepCutAuto
import Derived.Deep.RegionHeld3
import Derived.Deep.QuietTactic
import Derived.BigQuiet
set_option linter.unusedVariables false
set_option linter.unusedSimpArgs false
set_option maxRecDepth 100000
namespace Go.Proofs.Ytgdeclmciflmpaa
open Go.RowKit
attribute [local irreducible] wpList
set_option maxHeartbeats 16000000 in
theorem implTake1 (w : World) (b : Nat) (F : List Nat) (e o : Bool) (ps os : List Int) (id site : Int) (hI : I64 site) (h : NSt w b F (e, o, ps, os)) (hl : os.length ≤ 1048576) (hlp : ps.length ≤ 1048576) :
    Calls Try.prog 47 #[.pointer (some ⟨b, 0, none⟩), .agg #[.int .i64 1, .int .i64 id, .int .i64 site]] w (RetTk b F (e, o, ps, os) (1, id, site) w) := by
  have HNS := Lib.hid h
  have hbF := h.mem
  obtain ⟨vp, vo, Fp, Fo, hb, hp, ho, hF, hn⟩ := h
  have HP := Lib.hid hp
  have HO := Lib.hid ho
  obtain ⟨Ap, np, cp, rfl, hnp⟩ := hp.form
  obtain ⟨Ao, no, co, rfl, hno⟩ := ho.form
  have c0 := cell_of_row w b 0 _ _ _ hb
  have c1 := cell_of_row w b 1 _ _ _ hb
  have c2 := cell_of_row w b 2 _ _ _ hb
  have c3 := cell_of_row w b 3 _ _ _ hb
  have hbl : b < w.heap.size := (Array.getElem?_eq_some_iff.1 hb).1
  have HB := Lib.hid hb
  simp only at hnp hno c0 c1
  have hno' : no ≤ 1048576 := by omega
  have hnp' : np ≤ 1048576 := by omega
  have HL := Lib.hid hnp
  have HLo := Lib.hid hno
  have HFN := Lib.hid (And.intro hF hn)
  clear hb hp ho hF hn hnp hno
  go_enter Try.func47, Try.ntmps47
  cases e
  rotate_left
  · go_wp2_with fail
    go_ret
    exact ⟨ret_int (code_e ..).symm, Fr.of_below (by exact belA), fun h => by rw [code_e] at h; omega⟩
  have HT0 := Lib.hid (show TkI w b F o (.slice Ap np cp) (.slice Ao no co) [] w (.slice Ap np cp) (.slice Ao no co) ps os from ⟨Fp, Fo, HB.out, HP.out, HO.out, HFN.out.1 ▸ HFN.out.2, Fr.refl _ _, fun k hk => Or.inl (HFN.out.1 ▸ hk), fun k hk => by cases hk⟩)
  go_upto_region 4 with fail
  obtain ⟨W, hW⟩ : ∃ W, W = w.alloc (.cells #[.int .i64 1, .int .i64 id, .int .i64 site] 80) := ⟨_, rfl⟩
  have hbW : Below w.heap.size w W := by rw [hW]; exact belA
  have hS := Lib.hid (show ∀ V', Below W.heap.size W V' → V'.cell? ⟨w.heap.size, 0, none⟩ = some (.int .i64 1) ∧ V'.cell? ⟨w.heap.size, 2, none⟩ = some (.int .i64 site) ∧ V'.cell? ⟨b, 0, none⟩ = some (.bool false) ∧ V'.cell? ⟨b, 1, none⟩ = some (.bool o) ∧ V'.cell? ⟨b, 2, none⟩ = some (.slice Ap np cp) ∧ V'.cell? ⟨b, 3, none⟩ = some (.slice Ao no co) from fun V' hV' =>
    ⟨below_cell hV' (by rw [hW]; simp [go_sem]), below_cell hV' (by rw [hW]; simp [go_sem]), below_cell hV' (below_cell hbW c0), below_cell hV' (below_cell hbW c1), below_cell hV' (below_cell hbW c2), below_cell hV' (below_cell hbW c3)⟩)
  have hWN := Lib.hid (show W.heap[w.heap.size]? = some (.cells #[.int .i64 1, .int .i64 id, .int .i64 site] 80) by rw [hW]; exact alloc_new' rfl)
  have hzW : W.heap.size = w.heap.size + 1 := by rw [hW]; simp
  have hbWl : b < W.heap.size := by omega
  have hSp := Lib.hid (show Sl intR W 0 w.heap.size Ap np cp ps from HP.out.sl.below hbW (Nat.le_refl _))
  rw [← hW]
  clear hW c0 c1 c2 c3
  have hzW' : w.heap.size ≤ W.heap.size := by omega
  have hzWl : w.heap.size < W.heap.size := by omega
  clear hzW
  have HT1 := Lib.hid (HT0.out.aside hbW (Nat.le_refl _) hzWl)
  clear HT0
  obtain ⟨hs, hhs⟩ : ∃ x, ps.contains site = x := ⟨_, rfl⟩
  have HHS := Lib.hid hhs
  clear hhs
  go_cut [17] (fun v wx => v = .bool hs ∧ Below W.heap.size W wx)
  case first =>
    obtain ⟨k0, k2, b0, b1, b2, b3⟩ := hS.out W (Below.refl _ _)
    go_region_held3 (fun V' => V'.cell? ⟨w.heap.size, 0, none⟩ = some (.int .i64 1) ∧ V'.cell? ⟨w.heap.size, 2, none⟩ = some (.int .i64 site) ∧ V'.cell? ⟨b, 0, none⟩ = some (.bool false) ∧ V'.cell? ⟨b, 1, none⟩ = some (.bool o) ∧ V'.cell? ⟨b, 2, none⟩ = some (.slice Ap np cp) ∧ V'.cell? ⟨b, 3, none⟩ = some (.slice Ao no co)) (exact hS.out _ (show Below W.heap.size W _ by exact beloA))
      (first | (go_at_call 81; ((with_reducible refine (slicesContains _ 0 w.heap.size Ap np cp ps site (hSp.out.below (show Below W.heap.size W _ by exact beloA) hzW') (by first | omega | (simp; done) | (simp; omega))).mono ?_); rintro e w7 ⟨rfl, hb7⟩; have b7 : Below W.heap.size W w7 := (by exact beloA); have z7 := b7.size; rw [HHS.out])))
    all_goals
      go_wp2_with fail
      go_meet
      case rel => exact ⟨rfl, by exact beloA⟩
  case rest =>
    obtain ⟨rfl, hbe⟩ := hcut
    obtain ⟨k0, k2, b0, b1, b2, b3⟩ := hS.out wc hbe
    have hbc : Below w.heap.size w wc := hbW.trans (hbe.mono hzW')
    cases hs
    rotate_left
    · go_wp2_with fail
      go_ret
      have hcd : codeOf (false, o, ps, os) (1, id, site) = 2 := by rw [code_k1, if_pos HHS.out]
      exact ⟨ret_int hcd.symm, Fr.of_below hbc, fun h => by rw [hcd] at h; omega⟩
    go_upto_region 6 with fail
    go_quiet (fail)
    cases o
    rotate_left
    · go_wp2_with fail
      go_ret
      have hcd : codeOf (false, true, ps, os) (1, id, site) = 4 := by rw [code_k1, if_neg (by rw [HHS.out]; simp), if_pos rfl]
      exact ⟨ret_int hcd.symm, Fr.of_below (by exact belA), fun h => by rw [hcd] at h; omega⟩
    have hcd : codeOf (false, false, ps, os) (1, id, site) = 0 := by rw [code_k1, if_neg (by rw [HHS.out]; simp), if_neg (by simp)]
    go_upto_region 15 with fail
    refine wp_region_noPanic ?_
    refine wp_region_cut (S := fun V' => V'.cell? ⟨w.heap.size, 2, none⟩ = some (.int .i64 site) ∧ V'.cell? ⟨b, 3, none⟩ = some (.slice Ao no co)) 23 (by kernel_rfl) (by kernel_rfl) ⟨(hS.out _ (show Below W.heap.size W _ by exact beloA)).2.1, (hS.out _ (show Below W.heap.size W _ by exact beloA)).2.2.2.2.2⟩ (fun hR => ?_)
    simp only [headOps, List.take_succ_cons, List.take_zero]
    obtain ⟨V, hV⟩ : ∃ V, V = (wc.drewN nq).drew := ⟨_, rfl⟩
    have hWV : Below W.heap.size W V := by rw [hV]; exact beloA
    have HT := Lib.hid (HT1.out.keep hWV)
    have HN := Lib.hid (below_at hWV hzWl hWN.out)
    rw [← hV] at hR ⊢
    have hSV := hR
    clear hV hWV k0 k2 b0 b1 b2 b3 hbe hbc
    refine takeH 0 ?_
    refine takeH 1 ?_
    refine takeH 2 ?_
    refine takeH 3 ?_
    refine takeH 4 ?_
    refine takeH 6 ?_
    refine takeH 7 ?_
    refine takeH 10 ?_
    refine takeH 11 ?_
    refine takeH 12 ?_
    refine takeH 13 ?_
    refine takeH 14 ?_
    refine takeH 15 ?_
    refine wpAnyH_ready (rs := [5, 8, 16]) (by kernel_rfl) (by simp) ?_
    refine (AllReadyH.cons (i := 5) rfl (fun K hK => ?_) (AllReadyH.cons (i := 8) rfl (fun K hK => ?_) (AllReadyH.cons (i := 16) rfl (fun K hK => ?_) AllReadyH.nil)))
    · skip
      have k5 : V.cell? ⟨b, 2, none⟩ = some (.slice Ap np cp) := by rw [World.cell?]; simp [HT.out.hb]
      go_simp
      clear k5
      refine hK.out _ _ hSV (fun hR => ?_)
      clear hK K
      try simp only [Act.put, List.getElem_toArray, List.getElem_cons_zero, List.getElem_cons_succ, List.setIfInBounds_toArray, List.set_cons_zero, List.set_cons_succ]
      refine wpAnyH_ready (rs := [8, 16]) (by kernel_rfl) (by simp) ?_
      refine (AllReadyH.cons (i := 8) rfl (fun K hK => ?_) (AllReadyH.cons (i := 16) rfl (fun K hK => ?_) AllReadyH.nil))
      · skip
        go_simp
        obtain ⟨V', hV'⟩ : ∃ V', V' = V.alloc (.cells #[.int .i64 site] 3) := ⟨_, rfl⟩
        have hx : Below V.heap.size V V' := by rw [hV']; exact belA
        have hz : V'.heap.size = V.heap.size + 1 := by rw [hV']; simp
        have H8 := Lib.hid (show V'.heap[V.heap.size]? = some (.cells #[.int .i64 site] 3) by rw [hV']; exact alloc_new' rfl)
        obtain ⟨X8, hX⟩ : ∃ X, V.heap.size = X := ⟨_, rfl⟩
        replace HT := Lib.hid (HT.out.aside hx (Nat.le_refl _) (show V.heap.size < V'.heap.size by omega))
        replace HN := Lib.hid (below_at hx (blk_size HN.out) HN.out)
        rw [hX] at HT H8 ⊢
        rw [← hV']
        clear hx hz hX hV' hSV
        skip
        skip
        have hSV' : V'.cell? ⟨w.heap.size, 2, none⟩ = some (.int .i64 site) ∧ V'.cell? ⟨b, 3, none⟩ = some (.slice Ao no co) := ⟨by rw [World.cell?]; simp [HN.out], by rw [World.cell?]; simp [HT.out.hb]⟩
        refine hK.out _ _ hSV' (fun hR => ?_)
        clear hK K
        obtain ⟨V, hV⟩ : ∃ V, V = V' := ⟨_, rfl⟩
        rw [← hV] at HT HN hSV' hR H8 ⊢
        clear hV V'
        have hSV := hSV'
        clear hSV'
        try simp only [Act.put, List.getElem_toArray, List.getElem_cons_zero, List.getElem_cons_succ, List.setIfInBounds_toArray, List.set_cons_zero, List.set_cons_succ]
        refine wpAnyH_ready (rs := [9, 16]) (by kernel_rfl) (by simp) ?_
        refine (AllReadyH.cons (i := 9) rfl (fun K hK => ?_) (AllReadyH.cons (i := 16) rfl (fun K hK => ?_) AllReadyH.nil))
        · skip
          obtain ⟨xs, hxs, put⟩ := HT.out.app1
          refine step_intK V (by rfl) (.tmp 80) (.tmp 83) (by rfl) _ _ xs (by rfl) hxs X8 site _ (by rfl) H8.out (by omega) ?_
          intro Av1 nv1 cv1 V' a1 a2 a3
          obtain ⟨hT', hD⟩ := put V' _ site a1.out a2.out a3.out hI
          replace HT := Lib.hid hT'
          replace HN := Lib.hid ((hD w.heap.size (by simp)).trans HN.out)
          clear H8
          clear hSV a1 a2 a3 put hxs hT' hD
          have hSV' : V'.cell? ⟨w.heap.size, 2, none⟩ = some (.int .i64 site) ∧ V'.cell? ⟨b, 3, none⟩ = some (.slice Ao no co) := ⟨by rw [World.cell?]; simp [HN.out], by rw [World.cell?]; simp [HT.out.hb]⟩
          refine hK.out _ _ hSV' (fun hR => ?_)
          clear hK K
          obtain ⟨V, hV⟩ : ∃ V, V = V' := ⟨_, rfl⟩
          rw [← hV] at HT HN hSV' hR ⊢
          clear hV V'
          have hSV := hSV'
          clear hSV'
          try simp only [Act.put, List.getElem_toArray, List.getElem_cons_zero, List.getElem_cons_succ, List.setIfInBounds_toArray, List.set_cons_zero, List.set_cons_succ]
          refine wpAnyH_ready (rs := [16]) (by kernel_rfl) (by simp) ?_
          refine (AllReadyH.cons (i := 16) rfl (fun K hK => ?_) AllReadyH.nil)
          go_simp
          obtain ⟨V', hV'⟩ : ∃ V', V' = V.alloc (.cells #[.int .i64 site] 3) := ⟨_, rfl⟩
          have hx : Below V.heap.size V V' := by rw [hV']; exact belA
          have hz : V'.heap.size = V.heap.size + 1 := by rw [hV']; simp
          have H16 := Lib.hid (show V'.heap[V.heap.size]? = some (.cells #[.int .i64 site] 3) by rw [hV']; exact alloc_new' rfl)
          obtain ⟨X16, hX⟩ : ∃ X, V.heap.size = X := ⟨_, rfl⟩
          replace HT := Lib.hid (HT.out.aside hx (Nat.le_refl _) (show V.heap.size < V'.heap.size by omega))
          replace HN := Lib.hid (below_at hx (blk_size HN.out) HN.out)
          rw [hX] at HT H16 ⊢
          rw [← hV']
          clear hx hz hX hV' hSV
          skip
          skip
          have hSV' : V'.cell? ⟨w.heap.size, 2, none⟩ = some (.int .i64 site) ∧ V'.cell? ⟨b, 3, none⟩ = some (.slice Ao no co) := ⟨by rw [World.cell?]; simp [HN.out], by rw [World.cell?]; simp [HT.out.hb]⟩
          refine hK.out _ _ hSV' (fun hR => ?_)
          clear hK K
          obtain ⟨V, hV⟩ : ∃ V, V = V' := ⟨_, rfl⟩
          rw [← hV] at HT HN hSV' hR H16 ⊢
          clear hV V'
          have hSV := hSV'
          clear hSV'
          try simp only [Act.put, List.getElem_toArray, List.getElem_cons_zero, List.getElem_cons_succ, List.setIfInBounds_toArray, List.set_cons_zero, List.set_cons_succ]
          refine wpAnyH_ready (rs := [17]) (by kernel_rfl) (by simp) ?_
          refine (AllReadyH.cons (i := 17) rfl (fun K hK => ?_) AllReadyH.nil)
          obtain ⟨xs, hxs, put⟩ := HT.out.app2
          refine step_intK V (by rfl) (.tmp 88) (.tmp 91) (by rfl) _ _ xs (by rfl) hxs X16 site _ (by rfl) H16.out (by omega) ?_
          intro Av2 nv2 cv2 V' a1 a2 a3
          obtain ⟨hT', hD⟩ := put V' _ site a1.out a2.out a3.out hI
          replace HT := Lib.hid hT'
          replace HN := Lib.hid ((hD w.heap.size (by simp)).trans HN.out)
          clear H16
          clear hSV a1 a2 a3 put hxs hT' hD
          have hSV' : V'.cell? ⟨w.heap.size, 2, none⟩ = some (.int .i64 site) ∧ V'.cell? ⟨b, 3, none⟩ = some (.slice Ao no co) := ⟨by rw [World.cell?]; simp [HN.out], by rw [World.cell?]; simp [HT.out.hb]⟩
          refine hK.out _ _ hSV' (fun hR => ?_)
          clear hK K
          obtain ⟨V, hV⟩ : ∃ V, V = V' := ⟨_, rfl⟩
          rw [← hV] at HT HN hSV' hR ⊢
          clear hV V'
          have hSV := hSV'
          clear hSV'
          try simp only [Act.put, List.getElem_toArray, List.getElem_cons_zero, List.getElem_cons_succ, List.setIfInBounds_toArray, List.set_cons_zero, List.set_cons_succ]
          refine takeH 18 ?_
          refine takeH 19 ?_
          have k5 : V.cell? ⟨b, 2, none⟩ = some (.slice Ap np cp) := by rw [World.cell?]; simp [HT.out.hb]
          have fzb : ∀ j, V.frozen? ⟨b, j, none⟩ = false := blk_frozen HT.out.hb
          refine wpAnyH_ready (rs := [20]) (by kernel_rfl) (by simp) ?_
          refine AllReadyH.cons (i := 20) rfl (fun K hK => ?_) AllReadyH.nil
          go_simp
          obtain ⟨U, hU⟩ : ∃ U, U = V.setCell ⟨b, 2, none⟩ (.slice Av1 nv1 cv1) := ⟨_, rfl⟩
          have hfU : Fr [b] V U := by rw [hU]; exact frcA
          have hNb := (HT.out.out (k := w.heap.size) (by simp)).2.1
          have hSU : U.cell? ⟨w.heap.size, 2, none⟩ = some (.int .i64 site) ∧ U.cell? ⟨b, 3, none⟩ = some (.slice Ao no co) := ⟨cell_fr hfU (by simpa using hNb) hSV.1, by rw [hU]; simp [go_sem, hSV.2]⟩
          have hUb : U.heap[b]? = some (.cells #[.bool false, .bool false, .slice Av1 nv1 cv1, .slice Ao no co] 87) := by rw [hU, heap_setCell HT.out.hb]; simp
          rw [← hU]
          refine hK.out _ _ hSU (fun hR => ?_)
          clear hK K k5 fzb hU
          try simp only [Act.put, List.getElem_toArray, List.getElem_cons_zero, List.getElem_cons_succ, List.setIfInBounds_toArray, List.set_cons_zero, List.set_cons_succ]
          refine takeH 21 ?_
          refine takeH 22 ?_
          have k6 : U.cell? ⟨b, 3, none⟩ = some (.slice Ao no co) := hSU.2
          have fzb : ∀ j, U.frozen? ⟨b, j, none⟩ = false := blk_frozen hUb
          refine wpAnyH_done (by kernel_rfl) ?_ _
          refine lastQ_op rfl (fun K hK => ?_)
          rw [if_pos (by rfl)]
          go_simp
          refine hK _ _ ?_
          clear hK K
          refine NoPanic.normal ?_
          go_wp2_with fail
          go_ret
          obtain ⟨hfF, hNS⟩ := HT.out.fin (e' := false) (o' := false) (w' := U.setCell ⟨b, 3, none⟩ (.slice Av2 nv2 cv2)) (hfU.trans (by exact frcA)) (by rw [heap_setCell hUb]; simp)
          exact ⟨ret_int hcd.symm, hfF, fun _ => by rw [next_k1]; exact hNS⟩
        · skip
          go_simp
          obtain ⟨V', hV'⟩ : ∃ V', V' = V.alloc (.cells #[.int .i64 site] 3) := ⟨_, rfl⟩
          have hx : Below V.heap.size V V' := by rw [hV']; exact belA
          have hz : V'.heap.size = V.heap.size + 1 := by rw [hV']; simp
          have H16 := Lib.hid (show V'.heap[V.heap.size]? = some (.cells #[.int .i64 site] 3) by rw [hV']; exact alloc_new' rfl)
          obtain ⟨X16, hX⟩ : ∃ X, V.heap.size = X := ⟨_, rfl⟩
          replace HT := Lib.hid (HT.out.aside hx (Nat.le_refl _) (show V.heap.size < V'.heap.size by omega))
          replace HN := Lib.hid (below_at hx (blk_size HN.out) HN.out)
          replace H8 := Lib.hid (below_at hx (blk_size H8.out) H8.out)
          rw [hX] at HT H16 ⊢
          rw [← hV']
          clear hx hz hX hV' hSV
          skip
          skip
          have hSV' : V'.cell? ⟨w.heap.size, 2, none⟩ = some (.int .i64 site) ∧ V'.cell? ⟨b, 3, none⟩ = some (.slice Ao no co) := ⟨by rw [World.cell?]; simp [HN.out], by rw [World.cell?]; simp [HT.out.hb]⟩
          refine hK.out _ _ hSV' (fun hR => ?_)
          clear hK K
          obtain ⟨V, hV⟩ : ∃ V, V = V' := ⟨_, rfl⟩
          rw [← hV] at HT HN hSV' hR H8 H16 ⊢
          clear hV V'
          have hSV := hSV'
          clear hSV'
          try simp only [Act.put, List.getElem_toArray, List.getElem_cons_zero, List.getElem_cons_succ, List.setIfInBounds_toArray, List.set_cons_zero, List.set_cons_succ]
          refine wpAnyH_ready (rs := [9]) (by kernel_rfl) (by simp) ?_
          refine (AllReadyH.cons (i := 9) rfl (fun K hK => ?_) AllReadyH.nil)
          obtain ⟨xs, hxs, put⟩ := HT.out.app1
          refine step_intK V (by rfl) (.tmp 80) (.tmp 83) (by rfl) _ _ xs (by rfl) hxs X8 site _ (by rfl) H8.out (by omega) ?_
          intro Av1 nv1 cv1 V' a1 a2 a3
          obtain ⟨hT', hD⟩ := put V' _ site a1.out a2.out a3.out hI
          replace HT := Lib.hid hT'
          replace HN := Lib.hid ((hD w.heap.size (by simp)).trans HN.out)
          clear H8
          replace H16 := Lib.hid ((hD X16 (by simp)).trans H16.out)
          clear hSV a1 a2 a3 put hxs hT' hD
          have hSV' : V'.cell? ⟨w.heap.size, 2, none⟩ = some (.int .i64 site) ∧ V'.cell? ⟨b, 3, none⟩ = some (.slice Ao no co) := ⟨by rw [World.cell?]; simp [HN.out], by rw [World.cell?]; simp [HT.out.hb]⟩
          refine hK.out _ _ hSV' (fun hR => ?_)
          clear hK K
          obtain ⟨V, hV⟩ : ∃ V, V = V' := ⟨_, rfl⟩
          rw [← hV] at HT HN hSV' hR H16 ⊢
          clear hV V'
          have hSV := hSV'
          clear hSV'
          try simp only [Act.put, List.getElem_toArray, List.getElem_cons_zero, List.getElem_cons_succ, List.setIfInBounds_toArray, List.set_cons_zero, List.set_cons_succ]
          refine wpAnyH_ready (rs := [17]) (by kernel_rfl) (by simp) ?_
          refine (AllReadyH.cons (i := 17) rfl (fun K hK => ?_) AllReadyH.nil)
          obtain ⟨xs, hxs, put⟩ := HT.out.app2
          refine step_intK V (by rfl) (.tmp 88) (.tmp 91) (by rfl) _ _ xs (by rfl) hxs X16 site _ (by rfl) H16.out (by omega) ?_
          intro Av2 nv2 cv2 V' a1 a2 a3
          obtain ⟨hT', hD⟩ := put V' _ site a1.out a2.out a3.out hI
          replace HT := Lib.hid hT'
          replace HN := Lib.hid ((hD w.heap.size (by simp)).trans HN.out)
          clear H16
          clear hSV a1 a2 a3 put hxs hT' hD
          have hSV' : V'.cell? ⟨w.heap.size, 2, none⟩ = some (.int .i64 site) ∧ V'.cell? ⟨b, 3, none⟩ = some (.slice Ao no co) := ⟨by rw [World.cell?]; simp [HN.out], by rw [World.cell?]; simp [HT.out.hb]⟩
          refine hK.out _ _ hSV' (fun hR => ?_)
          clear hK K
          obtain ⟨V, hV⟩ : ∃ V, V = V' := ⟨_, rfl⟩
          rw [← hV] at HT HN hSV' hR ⊢
          clear hV V'
          have hSV := hSV'
          clear hSV'
          try simp only [Act.put, List.getElem_toArray, List.getElem_cons_zero, List.getElem_cons_succ, List.setIfInBounds_toArray, List.set_cons_zero, List.set_cons_succ]
          refine takeH 18 ?_
          refine takeH 19 ?_
          have k5 : V.cell? ⟨b, 2, none⟩ = some (.slice Ap np cp) := by rw [World.cell?]; simp [HT.out.hb]
          have fzb : ∀ j, V.frozen? ⟨b, j, none⟩ = false := blk_frozen HT.out.hb
          refine wpAnyH_ready (rs := [20]) (by kernel_rfl) (by simp) ?_
          refine AllReadyH.cons (i := 20) rfl (fun K hK => ?_) AllReadyH.nil
          go_simp
          obtain ⟨U, hU⟩ : ∃ U, U = V.setCell ⟨b, 2, none⟩ (.slice Av1 nv1 cv1) := ⟨_, rfl⟩
          have hfU : Fr [b] V U := by rw [hU]; exact frcA
          have hNb := (HT.out.out (k := w.heap.size) (by simp)).2.1
          have hSU : U.cell? ⟨w.heap.size, 2, none⟩ = some (.int .i64 site) ∧ U.cell? ⟨b, 3, none⟩ = some (.slice Ao no co) := ⟨cell_fr hfU (by simpa using hNb) hSV.1, by rw [hU]; simp [go_sem, hSV.2]⟩
          have hUb : U.heap[b]? = some (.cells #[.bool false, .bool false, .slice Av1 nv1 cv1, .slice Ao no co] 87) := by rw [hU, heap_setCell HT.out.hb]; simp
          rw [← hU]
          refine hK.out _ _ hSU (fun hR => ?_)
          clear hK K k5 fzb hU
          try simp only [Act.put, List.getElem_toArray, List.getElem_cons_zero, List.getElem_cons_succ, List.setIfInBounds_toArray, List.set_cons_zero, List.set_cons_succ]
          refine takeH 21 ?_
          refine takeH 22 ?_
          have k6 : U.cell? ⟨b, 3, none⟩ = some (.slice Ao no co) := hSU.2
          have fzb : ∀ j, U.frozen? ⟨b, j, none⟩ = false := blk_frozen hUb
          refine wpAnyH_done (by kernel_rfl) ?_ _
          refine lastQ_op rfl (fun K hK => ?_)
          rw [if_pos (by rfl)]
          go_simp
          refine hK _ _ ?_
          clear hK K
          refine NoPanic.normal ?_
          go_wp2_with fail
          go_ret
          obtain ⟨hfF, hNS⟩ := HT.out.fin (e' := false) (o' := false) (w' := U.setCell ⟨b, 3, none⟩ (.slice Av2 nv2 cv2)) (hfU.trans (by exact frcA)) (by rw [heap_setCell hUb]; simp)
          exact ⟨ret_int hcd.symm, hfF, fun _ => by rw [next_k1]; exact hNS⟩
      · skip
        go_simp
        obtain ⟨V', hV'⟩ : ∃ V', V' = V.alloc (.cells #[.int .i64 site] 3) := ⟨_, rfl⟩
        have hx : Below V.heap.size V V' := by rw [hV']; exact belA
        have hz : V'.heap.size = V.heap.size + 1 := by rw [hV']; simp
        have H16 := Lib.hid (show V'.heap[V.heap.size]? = some (.cells #[.int .i64 site] 3) by rw [hV']; exact alloc_new' rfl)
        obtain ⟨X16, hX⟩ : ∃ X, V.heap.size = X := ⟨_, rfl⟩
        replace HT := Lib.hid (HT.out.aside hx (Nat.le_refl _) (show V.heap.size < V'.heap.size by omega))
        replace HN := Lib.hid (below_at hx (blk_size HN.out) HN.out)
        rw [hX] at HT H16 ⊢
        rw [← hV']
        clear hx hz hX hV' hSV
        skip
        skip
        have hSV' : V'.cell? ⟨w.heap.size, 2, none⟩ = some (.int .i64 site) ∧ V'.cell? ⟨b, 3, none⟩ = some (.slice Ao no co) := ⟨by rw [World.cell?]; simp [HN.out], by rw [World.cell?]; simp [HT.out.hb]⟩
        refine hK.out _ _ hSV' (fun hR => ?_)
        clear hK K
        obtain ⟨V, hV⟩ : ∃ V, V = V' := ⟨_, rfl⟩
        rw [← hV] at HT HN hSV' hR H16 ⊢
        clear hV V'
        have hSV := hSV'
        clear hSV'
        try simp only [Act.put, List.getElem_toArray, List.getElem_cons_zero, List.getElem_cons_succ, List.setIfInBounds_toArray, List.set_cons_zero, List.set_cons_succ]
        refine wpAnyH_ready (rs := [8]) (by kernel_rfl) (by simp) ?_
        refine (AllReadyH.cons (i := 8) rfl (fun K hK => ?_) AllReadyH.nil)
        go_simp
        obtain ⟨V', hV'⟩ : ∃ V', V' = V.alloc (.cells #[.int .i64 site] 3) := ⟨_, rfl⟩
        have hx : Below V.heap.size V V' := by rw [hV']; exact belA
        have hz : V'.heap.size = V.heap.size + 1 := by rw [hV']; simp
        have H8 := Lib.hid (show V'.heap[V.heap.size]? = some (.cells #[.int .i64 site] 3) by rw [hV']; exact alloc_new' rfl)
        obtain ⟨X8, hX⟩ : ∃ X, V.heap.size = X := ⟨_, rfl⟩
        replace HT := Lib.hid (HT.out.aside hx (Nat.le_refl _) (show V.heap.size < V'.heap.size by omega))
        replace HN := Lib.hid (below_at hx (blk_size HN.out) HN.out)
        replace H16 := Lib.hid (below_at hx (blk_size H16.out) H16.out)
        rw [hX] at HT H8 ⊢
        rw [← hV']
        clear hx hz hX hV' hSV
        skip
        skip
        have hSV' : V'.cell? ⟨w.heap.size, 2, none⟩ = some (.int .i64 site) ∧ V'.cell? ⟨b, 3, none⟩ = some (.slice Ao no co) := ⟨by rw [World.cell?]; simp [HN.out], by rw [World.cell?]; simp [HT.out.hb]⟩
        refine hK.out _ _ hSV' (fun hR => ?_)
        clear hK K
        obtain ⟨V, hV⟩ : ∃ V, V = V' := ⟨_, rfl⟩
        rw [← hV] at HT HN hSV' hR H8 H16 ⊢
        clear hV V'
        have hSV := hSV'
        clear hSV'
        try simp only [Act.put, List.getElem_toArray, List.getElem_cons_zero, List.getElem_cons_succ, List.setIfInBounds_toArray, List.set_cons_zero, List.set_cons_succ]
        refine wpAnyH_ready (rs := [9]) (by kernel_rfl) (by simp) ?_
        refine (AllReadyH.cons (i := 9) rfl (fun K hK => ?_) AllReadyH.nil)
        obtain ⟨xs, hxs, put⟩ := HT.out.app1
        refine step_intK V (by rfl) (.tmp 80) (.tmp 83) (by rfl) _ _ xs (by rfl) hxs X8 site _ (by rfl) H8.out (by omega) ?_
        intro Av1 nv1 cv1 V' a1 a2 a3
        obtain ⟨hT', hD⟩ := put V' _ site a1.out a2.out a3.out hI
        replace HT := Lib.hid hT'
        replace HN := Lib.hid ((hD w.heap.size (by simp)).trans HN.out)
        clear H8
        replace H16 := Lib.hid ((hD X16 (by simp)).trans H16.out)
        clear hSV a1 a2 a3 put hxs hT' hD
        have hSV' : V'.cell? ⟨w.heap.size, 2, none⟩ = some (.int .i64 site) ∧ V'.cell? ⟨b, 3, none⟩ = some (.slice Ao no co) := ⟨by rw [World.cell?]; simp [HN.out], by rw [World.cell?]; simp [HT.out.hb]⟩
        refine hK.out _ _ hSV' (fun hR => ?_)
        clear hK K
        obtain ⟨V, hV⟩ : ∃ V, V = V' := ⟨_, rfl⟩
        rw [← hV] at HT HN hSV' hR H16 ⊢
        clear hV V'
        have hSV := hSV'
        clear hSV'
        try simp only [Act.put, List.getElem_toArray, List.getElem_cons_zero, List.getElem_cons_succ, List.setIfInBounds_toArray, List.set_cons_zero, List.set_cons_succ]
        refine wpAnyH_ready (rs := [17]) (by kernel_rfl) (by simp) ?_
        refine (AllReadyH.cons (i := 17) rfl (fun K hK => ?_) AllReadyH.nil)
        obtain ⟨xs, hxs, put⟩ := HT.out.app2
        refine step_intK V (by rfl) (.tmp 88) (.tmp 91) (by rfl) _ _ xs (by rfl) hxs X16 site _ (by rfl) H16.out (by omega) ?_
        intro Av2 nv2 cv2 V' a1 a2 a3
        obtain ⟨hT', hD⟩ := put V' _ site a1.out a2.out a3.out hI
        replace HT := Lib.hid hT'
        replace HN := Lib.hid ((hD w.heap.size (by simp)).trans HN.out)
        clear H16
        clear hSV a1 a2 a3 put hxs hT' hD
        have hSV' : V'.cell? ⟨w.heap.size, 2, none⟩ = some (.int .i64 site) ∧ V'.cell? ⟨b, 3, none⟩ = some (.slice Ao no co) := ⟨by rw [World.cell?]; simp [HN.out], by rw [World.cell?]; simp [HT.out.hb]⟩
        refine hK.out _ _ hSV' (fun hR => ?_)
        clear hK K
        obtain ⟨V, hV⟩ : ∃ V, V = V' := ⟨_, rfl⟩
        rw [← hV] at HT HN hSV' hR ⊢
        clear hV V'
        have hSV := hSV'
        clear hSV'
        try simp only [Act.put, List.getElem_toArray, List.getElem_cons_zero, List.getElem_cons_succ, List.setIfInBounds_toArray, List.set_cons_zero, List.set_cons_succ]
        refine takeH 18 ?_
        refine takeH 19 ?_
        have k5 : V.cell? ⟨b, 2, none⟩ = some (.slice Ap np cp) := by rw [World.cell?]; simp [HT.out.hb]
        have fzb : ∀ j, V.frozen? ⟨b, j, none⟩ = false := blk_frozen HT.out.hb
        refine wpAnyH_ready (rs := [20]) (by kernel_rfl) (by simp) ?_
        refine AllReadyH.cons (i := 20) rfl (fun K hK => ?_) AllReadyH.nil
        go_simp
        obtain ⟨U, hU⟩ : ∃ U, U = V.setCell ⟨b, 2, none⟩ (.slice Av1 nv1 cv1) := ⟨_, rfl⟩
        have hfU : Fr [b] V U := by rw [hU]; exact frcA
        have hNb := (HT.out.out (k := w.heap.size) (by simp)).2.1
        have hSU : U.cell? ⟨w.heap.size, 2, none⟩ = some (.int .i64 site) ∧ U.cell? ⟨b, 3, none⟩ = some (.slice Ao no co) := ⟨cell_fr hfU (by simpa using hNb) hSV.1, by rw [hU]; simp [go_sem, hSV.2]⟩
        have hUb : U.heap[b]? = some (.cells #[.bool false, .bool false, .slice Av1 nv1 cv1, .slice Ao no co] 87) := by rw [hU, heap_setCell HT.out.hb]; simp
        rw [← hU]
        refine hK.out _ _ hSU (fun hR => ?_)
        clear hK K k5 fzb hU
        try simp only [Act.put, List.getElem_toArray, List.getElem_cons_zero, List.getElem_cons_succ, List.setIfInBounds_toArray, List.set_cons_zero, List.set_cons_succ]
        refine takeH 21 ?_
        refine takeH 22 ?_
        have k6 : U.cell? ⟨b, 3, none⟩ = some (.slice Ao no co) := hSU.2
        have fzb : ∀ j, U.frozen? ⟨b, j, none⟩ = false := blk_frozen hUb
        refine wpAnyH_done (by kernel_rfl) ?_ _
        refine lastQ_op rfl (fun K hK => ?_)
        rw [if_pos (by rfl)]
        go_simp
        refine hK _ _ ?_
        clear hK K
        refine NoPanic.normal ?_
        go_wp2_with fail
        go_ret
        obtain ⟨hfF, hNS⟩ := HT.out.fin (e' := false) (o' := false) (w' := U.setCell ⟨b, 3, none⟩ (.slice Av2 nv2 cv2)) (hfU.trans (by exact frcA)) (by rw [heap_setCell hUb]; simp)
        exact ⟨ret_int hcd.symm, hfF, fun _ => by rw [next_k1]; exact hNS⟩
    · skip
      go_simp
      obtain ⟨V', hV'⟩ : ∃ V', V' = V.alloc (.cells #[.int .i64 site] 3) := ⟨_, rfl⟩
      have hx : Below V.heap.size V V' := by rw [hV']; exact belA
      have hz : V'.heap.size = V.heap.size + 1 := by rw [hV']; simp
      have H8 := Lib.hid (show V'.heap[V.heap.size]? = some (.cells #[.int .i64 site] 3) by rw [hV']; exact alloc_new' rfl)
      obtain ⟨X8, hX⟩ : ∃ X, V.heap.size = X := ⟨_, rfl⟩
      replace HT := Lib.hid (HT.out.aside hx (Nat.le_refl _) (show V.heap.size < V'.heap.size by omega))
      replace HN := Lib.hid (below_at hx (blk_size HN.out) HN.out)
      rw [hX] at HT H8 ⊢
      rw [← hV']
      clear hx hz hX hV' hSV
      skip
      skip
      have hSV' : V'.cell? ⟨w.heap.size, 2, none⟩ = some (.int .i64 site) ∧ V'.cell? ⟨b, 3, none⟩ = some (.slice Ao no co) := ⟨by rw [World.cell?]; simp [HN.out], by rw [World.cell?]; simp [HT.out.hb]⟩
      refine hK.out _ _ hSV' (fun hR => ?_)
      clear hK K
      obtain ⟨V, hV⟩ : ∃ V, V = V' := ⟨_, rfl⟩
      rw [← hV] at HT HN hSV' hR H8 ⊢
      clear hV V'
      have hSV := hSV'
      clear hSV'
      try simp only [Act.put, List.getElem_toArray, List.getElem_cons_zero, List.getElem_cons_succ, List.setIfInBounds_toArray, List.set_cons_zero, List.set_cons_succ]
      refine wpAnyH_ready (rs := [5, 16]) (by kernel_rfl) (by simp) ?_
      refine (AllReadyH.cons (i := 5) rfl (fun K hK => ?_) (AllReadyH.cons (i := 16) rfl (fun K hK => ?_) AllReadyH.nil))
      · skip
        have k5 : V.cell? ⟨b, 2, none⟩ = some (.slice Ap np cp) := by rw [World.cell?]; simp [HT.out.hb]
        go_simp
        clear k5
        refine hK.out _ _ hSV (fun hR => ?_)
        clear hK K
        try simp only [Act.put, List.getElem_toArray, List.getElem_cons_zero, List.getElem_cons_succ, List.setIfInBounds_toArray, List.set_cons_zero, List.set_cons_succ]
        refine wpAnyH_ready (rs := [9, 16]) (by kernel_rfl) (by simp) ?_
        refine (AllReadyH.cons (i := 9) rfl (fun K hK => ?_) (AllReadyH.cons (i := 16) rfl (fun K hK => ?_) AllReadyH.nil))
        · skip
          obtain ⟨xs, hxs, put⟩ := HT.out.app1
          refine step_intK V (by rfl) (.tmp 80) (.tmp 83) (by rfl) _ _ xs (by rfl) hxs X8 site _ (by rfl) H8.out (by omega) ?_
          intro Av1 nv1 cv1 V' a1 a2 a3
          obtain ⟨hT', hD⟩ := put V' _ site a1.out a2.out a3.out hI
          replace HT := Lib.hid hT'
          replace HN := Lib.hid ((hD w.heap.size (by simp)).trans HN.out)
          clear H8
          clear hSV a1 a2 a3 put hxs hT' hD
          have hSV' : V'.cell? ⟨w.heap.size, 2, none⟩ = some (.int .i64 site) ∧ V'.cell? ⟨b, 3, none⟩ = some (.slice Ao no co) := ⟨by rw [World.cell?]; simp [HN.out], by rw [World.cell?]; simp [HT.out.hb]⟩
          refine hK.out _ _ hSV' (fun hR => ?_)
          clear hK K
          obtain ⟨V, hV⟩ : ∃ V, V = V' := ⟨_, rfl⟩
          rw [← hV] at HT HN hSV' hR ⊢
          clear hV V'
          have hSV := hSV'
          clear hSV'
          try simp only [Act.put, List.getElem_toArray, List.getElem_cons_zero, List.getElem_cons_succ, List.setIfInBounds_toArray, List.set_cons_zero, List.set_cons_succ]
          refine wpAnyH_ready (rs := [16]) (by kernel_rfl) (by simp) ?_
          refine (AllReadyH.cons (i := 16) rfl (fun K hK => ?_) AllReadyH.nil)
          go_simp
          obtain ⟨V', hV'⟩ : ∃ V', V' = V.alloc (.cells #[.int .i64 site] 3) := ⟨_, rfl⟩
          have hx : Below V.heap.size V V' := by rw [hV']; exact belA
          have hz : V'.heap.size = V.heap.size + 1 := by rw [hV']; simp
          have H16 := Lib.hid (show V'.heap[V.heap.size]? = some (.cells #[.int .i64 site] 3) by rw [hV']; exact alloc_new' rfl)
          obtain ⟨X16, hX⟩ : ∃ X, V.heap.size = X := ⟨_, rfl⟩
          replace HT := Lib.hid (HT.out.aside hx (Nat.le_refl _) (show V.heap.size < V'.heap.size by omega))
          replace HN := Lib.hid (below_at hx (blk_size HN.out) HN.out)
          rw [hX] at HT H16 ⊢
          rw [← hV']
          clear hx hz hX hV' hSV
          skip
          skip
          have hSV' : V'.cell? ⟨w.heap.size, 2, none⟩ = some (.int .i64 site) ∧ V'.cell? ⟨b, 3, none⟩ = some (.slice Ao no co) := ⟨by rw [World.cell?]; simp [HN.out], by rw [World.cell?]; simp [HT.out.hb]⟩
          refine hK.out _ _ hSV' (fun hR => ?_)
          clear hK K
          obtain ⟨V, hV⟩ : ∃ V, V = V' := ⟨_, rfl⟩
          rw [← hV] at HT HN hSV' hR H16 ⊢
          clear hV V'
          have hSV := hSV'
          clear hSV'
          try simp only [Act.put, List.getElem_toArray, List.getElem_cons_zero, List.getElem_cons_succ, List.setIfInBounds_toArray, List.set_cons_zero, List.set_cons_succ]
          refine wpAnyH_ready (rs := [17]) (by kernel_rfl) (by simp) ?_
          refine (AllReadyH.cons (i := 17) rfl (fun K hK => ?_) AllReadyH.nil)
          obtain ⟨xs, hxs, put⟩ := HT.out.app2
          refine step_intK V (by rfl) (.tmp 88) (.tmp 91) (by rfl) _ _ xs (by rfl) hxs X16 site _ (by rfl) H16.out (by omega) ?_
          intro Av2 nv2 cv2 V' a1 a2 a3
          obtain ⟨hT', hD⟩ := put V' _ site a1.out a2.out a3.out hI
          replace HT := Lib.hid hT'
          replace HN := Lib.hid ((hD w.heap.size (by simp)).trans HN.out)
          clear H16
          clear hSV a1 a2 a3 put hxs hT' hD
          have hSV' : V'.cell? ⟨w.heap.size, 2, none⟩ = some (.int .i64 site) ∧ V'.cell? ⟨b, 3, none⟩ = some (.slice Ao no co) := ⟨by rw [World.cell?]; simp [HN.out], by rw [World.cell?]; simp [HT.out.hb]⟩
          refine hK.out _ _ hSV' (fun hR => ?_)
          clear hK K
          obtain ⟨V, hV⟩ : ∃ V, V = V' := ⟨_, rfl⟩
          rw [← hV] at HT HN hSV' hR ⊢
          clear hV V'
          have hSV := hSV'
          clear hSV'
          try simp only [Act.put, List.getElem_toArray, List.getElem_cons_zero, List.getElem_cons_succ, List.setIfInBounds_toArray, List.set_cons_zero, List.set_cons_succ]
          refine takeH 18 ?_
          refine takeH 19 ?_
          have k5 : V.cell? ⟨b, 2, none⟩ = some (.slice Ap np cp) := by rw [World.cell?]; simp [HT.out.hb]
          have fzb : ∀ j, V.frozen? ⟨b, j, none⟩ = false := blk_frozen HT.out.hb
          refine wpAnyH_ready (rs := [20]) (by kernel_rfl) (by simp) ?_
          refine AllReadyH.cons (i := 20) rfl (fun K hK => ?_) AllReadyH.nil
          go_simp
          obtain ⟨U, hU⟩ : ∃ U, U = V.setCell ⟨b, 2, none⟩ (.slice Av1 nv1 cv1) := ⟨_, rfl⟩
          have hfU : Fr [b] V U := by rw [hU]; exact frcA
          have hNb := (HT.out.out (k := w.heap.size) (by simp)).2.1
          have hSU : U.cell? ⟨w.heap.size, 2, none⟩ = some (.int .i64 site) ∧ U.cell? ⟨b, 3, none⟩ = some (.slice Ao no co) := ⟨cell_fr hfU (by simpa using hNb) hSV.1, by rw [hU]; simp [go_sem, hSV.2]⟩
          have hUb : U.heap[b]? = some (.cells #[.bool false, .bool false, .slice Av1 nv1 cv1, .slice Ao no co] 87) := by rw [hU, heap_setCell HT.out.hb]; simp
          rw [← hU]
          refine hK.out _ _ hSU (fun hR => ?_)
          clear hK K k5 fzb hU
          try simp only [Act.put, List.getElem_toArray, List.getElem_cons_zero, List.getElem_cons_succ, List.setIfInBounds_toArray, List.set_cons_zero, List.set_cons_succ]
          refine takeH 21 ?_
          refine takeH 22 ?_
          have k6 : U.cell? ⟨b, 3, none⟩ = some (.slice Ao no co) := hSU.2
          have fzb : ∀ j, U.frozen? ⟨b, j, none⟩ = false := blk_frozen hUb
          refine wpAnyH_done (by kernel_rfl) ?_ _
          refine lastQ_op rfl (fun K hK => ?_)
          rw [if_pos (by rfl)]
          go_simp
          refine hK _ _ ?_
          clear hK K
          refine NoPanic.normal ?_
          go_wp2_with fail
          go_ret
          obtain ⟨hfF, hNS⟩ := HT.out.fin (e' := false) (o' := false) (w' := U.setCell ⟨b, 3, none⟩ (.slice Av2 nv2 cv2)) (hfU.trans (by exact frcA)) (by rw [heap_setCell hUb]; simp)
          exact ⟨ret_int hcd.symm, hfF, fun _ => by rw [next_k1]; exact hNS⟩
        · skip
          go_simp
          obtain ⟨V', hV'⟩ : ∃ V', V' = V.alloc (.cells #[.int .i64 site] 3) := ⟨_, rfl⟩
          have hx : Below V.heap.size V V' := by rw [hV']; exact belA
          have hz : V'.heap.size = V.heap.size + 1 := by rw [hV']; simp
          have H16 := Lib.hid (show V'.heap[V.heap.size]? = some (.cells #[.int .i64 site] 3) by rw [hV']; exact alloc_new' rfl)
          obtain ⟨X16, hX⟩ : ∃ X, V.heap.size = X := ⟨_, rfl⟩
          replace HT := Lib.hid (HT.out.aside hx (Nat.le_refl _) (show V.heap.size < V'.heap.size by omega))
          replace HN := Lib.hid (below_at hx (blk_size HN.out) HN.out)
          replace H8 := Lib.hid (below_at hx (blk_size H8.out) H8.out)
          rw [hX] at HT H16 ⊢
          rw [← hV']
          clear hx hz hX hV' hSV
          skip
          skip
          have hSV' : V'.cell? ⟨w.heap.size, 2, none⟩ = some (.int .i64 site) ∧ V'.cell? ⟨b, 3, none⟩ = some (.slice Ao no co) := ⟨by rw [World.cell?]; simp [HN.out], by rw [World.cell?]; simp [HT.out.hb]⟩
          refine hK.out _ _ hSV' (fun hR => ?_)
          clear hK K
          obtain ⟨V, hV⟩ : ∃ V, V = V' := ⟨_, rfl⟩
          rw [← hV] at HT HN hSV' hR H8 H16 ⊢
          clear hV V'
          have hSV := hSV'
          clear hSV'
          try simp only [Act.put, List.getElem_toArray, List.getElem_cons_zero, List.getElem_cons_succ, List.setIfInBounds_toArray, List.set_cons_zero, List.set_cons_succ]
          refine wpAnyH_ready (rs := [9]) (by kernel_rfl) (by simp) ?_
          refine (AllReadyH.cons (i := 9) rfl (fun K hK => ?_) AllReadyH.nil)
          obtain ⟨xs, hxs, put⟩ := HT.out.app1
          refine step_intK V (by rfl) (.tmp 80) (.tmp 83) (by rfl) _ _ xs (by rfl) hxs X8 site _ (by rfl) H8.out (by omega) ?_
          intro Av1 nv1 cv1 V' a1 a2 a3
          obtain ⟨hT', hD⟩ := put V' _ site a1.out a2.out a3.out hI
          replace HT := Lib.hid hT'
          replace HN := Lib.hid ((hD w.heap.size (by simp)).trans HN.out)
          clear H8
          replace H16 := Lib.hid ((hD X16 (by simp)).trans H16.out)
          clear hSV a1 a2 a3 put hxs hT' hD
          have hSV' : V'.cell? ⟨w.heap.size, 2, none⟩ = some (.int .i64 site) ∧ V'.cell? ⟨b, 3, none⟩ = some (.slice Ao no co) := ⟨by rw [World.cell?]; simp [HN.out], by rw [World.cell?]; simp [HT.out.hb]⟩
          refine hK.out _ _ hSV' (fun hR => ?_)
          clear hK K
          obtain ⟨V, hV⟩ : ∃ V, V = V' := ⟨_, rfl⟩
          rw [← hV] at HT HN hSV' hR H16 ⊢
          clear hV V'
          have hSV := hSV'
          clear hSV'
          try simp only [Act.put, List.getElem_toArray, List.getElem_cons_zero, List.getElem_cons_succ, List.setIfInBounds_toArray, List.set_cons_zero, List.set_cons_succ]
          refine wpAnyH_ready (rs := [17]) (by kernel_rfl) (by simp) ?_
          refine (AllReadyH.cons (i := 17) rfl (fun K hK => ?_) AllReadyH.nil)
          obtain ⟨xs, hxs, put⟩ := HT.out.app2
          refine step_intK V (by rfl) (.tmp 88) (.tmp 91) (by rfl) _ _ xs (by rfl) hxs X16 site _ (by rfl) H16.out (by omega) ?_
          intro Av2 nv2 cv2 V' a1 a2 a3
          obtain ⟨hT', hD⟩ := put V' _ site a1.out a2.out a3.out hI
          replace HT := Lib.hid hT'
          replace HN := Lib.hid ((hD w.heap.size (by simp)).trans HN.out)
          clear H16
          clear hSV a1 a2 a3 put hxs hT' hD
          have hSV' : V'.cell? ⟨w.heap.size, 2, none⟩ = some (.int .i64 site) ∧ V'.cell? ⟨b, 3, none⟩ = some (.slice Ao no co) := ⟨by rw [World.cell?]; simp [HN.out], by rw [World.cell?]; simp [HT.out.hb]⟩
          refine hK.out _ _ hSV' (fun hR => ?_)
          clear hK K
          obtain ⟨V, hV⟩ : ∃ V, V = V' := ⟨_, rfl⟩
          rw [← hV] at HT HN hSV' hR ⊢
          clear hV V'
          have hSV := hSV'
          clear hSV'
          try simp only [Act.put, List.getElem_toArray, List.getElem_cons_zero, List.getElem_cons_succ, List.setIfInBounds_toArray, List.set_cons_zero, List.set_cons_succ]
          refine takeH 18 ?_
          refine takeH 19 ?_
          have k5 : V.cell? ⟨b, 2, none⟩ = some (.slice Ap np cp) := by rw [World.cell?]; simp [HT.out.hb]
          have fzb : ∀ j, V.frozen? ⟨b, j, none⟩ = false := blk_frozen HT.out.hb
          refine wpAnyH_ready (rs := [20]) (by kernel_rfl) (by simp) ?_
          refine AllReadyH.cons (i := 20) rfl (fun K hK => ?_) AllReadyH.nil
          go_simp
          obtain ⟨U, hU⟩ : ∃ U, U = V.setCell ⟨b, 2, none⟩ (.slice Av1 nv1 cv1) := ⟨_, rfl⟩
          have hfU : Fr [b] V U := by rw [hU]; exact frcA
          have hNb := (HT.out.out (k := w.heap.size) (by simp)).2.1
          have hSU : U.cell? ⟨w.heap.size, 2, none⟩ = some (.int .i64 site) ∧ U.cell? ⟨b, 3, none⟩ = some (.slice Ao no co) := ⟨cell_fr hfU (by simpa using hNb) hSV.1, by rw [hU]; simp [go_sem, hSV.2]⟩
          have hUb : U.heap[b]? = some (.cells #[.bool false, .bool false, .slice Av1 nv1 cv1, .slice Ao no co] 87) := by rw [hU, heap_setCell HT.out.hb]; simp
          rw [← hU]
          refine hK.out _ _ hSU (fun hR => ?_)
          clear hK K k5 fzb hU
          try simp only [Act.put, List.getElem_toArray, List.getElem_cons_zero, List.getElem_cons_succ, List.setIfInBounds_toArray, List.set_cons_zero, List.set_cons_succ]
          refine takeH 21 ?_
          refine takeH 22 ?_
          have k6 : U.cell? ⟨b, 3, none⟩ = some (.slice Ao no co) := hSU.2
          have fzb : ∀ j, U.frozen? ⟨b, j, none⟩ = false := blk_frozen hUb
          refine wpAnyH_done (by kernel_rfl) ?_ _
          refine lastQ_op rfl (fun K hK => ?_)
          rw [if_pos (by rfl)]
          go_simp
          refine hK _ _ ?_
          clear hK K
          refine NoPanic.normal ?_
          go_wp2_with fail
          go_ret
          obtain ⟨hfF, hNS⟩ := HT.out.fin (e' := false) (o' := false) (w' := U.setCell ⟨b, 3, none⟩ (.slice Av2 nv2 cv2)) (hfU.trans (by exact frcA)) (by rw [heap_setCell hUb]; simp)
          exact ⟨ret_int hcd.symm, hfF, fun _ => by rw [next_k1]; exact hNS⟩
      · skip
        go_simp
        obtain ⟨V', hV'⟩ : ∃ V', V' = V.alloc (.cells #[.int .i64 site] 3) := ⟨_, rfl⟩
        have hx : Below V.heap.size V V' := by rw [hV']; exact belA
        have hz : V'.heap.size = V.heap.size + 1 := by rw [hV']; simp
        have H16 := Lib.hid (show V'.heap[V.heap.size]? = some (.cells #[.int .i64 site] 3) by rw [hV']; exact alloc_new' rfl)
        obtain ⟨X16, hX⟩ : ∃ X, V.heap.size = X := ⟨_, rfl⟩
        replace HT := Lib.hid (HT.out.aside hx (Nat.le_refl _) (show V.heap.size < V'.heap.size by omega))
        replace HN := Lib.hid (below_at hx (blk_size HN.out) HN.out)
        replace H8 := Lib.hid (below_at hx (blk_size H8.out) H8.out)
        rw [hX] at HT H16 ⊢
        rw [← hV']
        clear hx hz hX hV' hSV
        skip
        skip
        have hSV' : V'.cell? ⟨w.heap.size, 2, none⟩ = some (.int .i64 site) ∧ V'.cell? ⟨b, 3, none⟩ = some (.slice Ao no co) := ⟨by rw [World.cell?]; simp [HN.out], by rw [World.cell?]; simp [HT.out.hb]⟩
        refine hK.out _ _ hSV' (fun hR => ?_)
        clear hK K
        obtain ⟨V, hV⟩ : ∃ V, V = V' := ⟨_, rfl⟩
        rw [← hV] at HT HN hSV' hR H8 H16 ⊢
        clear hV V'
        have hSV := hSV'
        clear hSV'
        try simp only [Act.put, List.getElem_toArray, List.getElem_cons_zero, List.getElem_cons_succ, List.setIfInBounds_toArray, List.set_cons_zero, List.set_cons_succ]
        refine wpAnyH_ready (rs := [5]) (by kernel_rfl) (by simp) ?_
        refine (AllReadyH.cons (i := 5) rfl (fun K hK => ?_) AllReadyH.nil)
        have k5 : V.cell? ⟨b, 2, none⟩ = some (.slice Ap np cp) := by rw [World.cell?]; simp [HT.out.hb]
        go_simp
        clear k5
        refine hK.out _ _ hSV (fun hR => ?_)
        clear hK K
        try simp only [Act.put, List.getElem_toArray, List.getElem_cons_zero, List.getElem_cons_succ, List.setIfInBounds_toArray, List.set_cons_zero, List.set_cons_succ]
        refine wpAnyH_ready (rs := [9]) (by kernel_rfl) (by simp) ?_
        refine (AllReadyH.cons (i := 9) rfl (fun K hK => ?_) AllReadyH.nil)
        obtain ⟨xs, hxs, put⟩ := HT.out.app1
        refine step_intK V (by rfl) (.tmp 80) (.tmp 83) (by rfl) _ _ xs (by rfl) hxs X8 site _ (by rfl) H8.out (by omega) ?_
        intro Av1 nv1 cv1 V' a1 a2 a3
        obtain ⟨hT', hD⟩ := put V' _ site a1.out a2.out a3.out hI
        replace HT := Lib.hid hT'
        replace HN := Lib.hid ((hD w.heap.size (by simp)).trans HN.out)
        clear H8
        replace H16 := Lib.hid ((hD X16 (by simp)).trans H16.out)
        clear hSV a1 a2 a3 put hxs hT' hD
        have hSV' : V'.cell? ⟨w.heap.size, 2, none⟩ = some (.int .i64 site) ∧ V'.cell? ⟨b, 3, none⟩ = some (.slice Ao no co) := ⟨by rw [World.cell?]; simp [HN.out], by rw [World.cell?]; simp [HT.out.hb]⟩
        refine hK.out _ _ hSV' (fun hR => ?_)
        clear hK K
        obtain ⟨V, hV⟩ : ∃ V, V = V' := ⟨_, rfl⟩
        rw [← hV] at HT HN hSV' hR H16 ⊢
        clear hV V'
        have hSV := hSV'
        clear hSV'
        try simp only [Act.put, List.getElem_toArray, List.getElem_cons_zero, List.getElem_cons_succ, List.setIfInBounds_toArray, List.set_cons_zero, List.set_cons_succ]
        refine wpAnyH_ready (rs := [17]) (by kernel_rfl) (by simp) ?_
        refine (AllReadyH.cons (i := 17) rfl (fun K hK => ?_) AllReadyH.nil)
        obtain ⟨xs, hxs, put⟩ := HT.out.app2
        refine step_intK V (by rfl) (.tmp 88) (.tmp 91) (by rfl) _ _ xs (by rfl) hxs X16 site _ (by rfl) H16.out (by omega) ?_
        intro Av2 nv2 cv2 V' a1 a2 a3
        obtain ⟨hT', hD⟩ := put V' _ site a1.out a2.out a3.out hI
        replace HT := Lib.hid hT'
        replace HN := Lib.hid ((hD w.heap.size (by simp)).trans HN.out)
        clear H16
        clear hSV a1 a2 a3 put hxs hT' hD
        have hSV' : V'.cell? ⟨w.heap.size, 2, none⟩ = some (.int .i64 site) ∧ V'.cell? ⟨b, 3, none⟩ = some (.slice Ao no co) := ⟨by rw [World.cell?]; simp [HN.out], by rw [World.cell?]; simp [HT.out.hb]⟩
        refine hK.out _ _ hSV' (fun hR => ?_)
        clear hK K
        obtain ⟨V, hV⟩ : ∃ V, V = V' := ⟨_, rfl⟩
        rw [← hV] at HT HN hSV' hR ⊢
        clear hV V'
        have hSV := hSV'
        clear hSV'
        try simp only [Act.put, List.getElem_toArray, List.getElem_cons_zero, List.getElem_cons_succ, List.setIfInBounds_toArray, List.set_cons_zero, List.set_cons_succ]
        refine takeH 18 ?_
        refine takeH 19 ?_
        have k5 : V.cell? ⟨b, 2, none⟩ = some (.slice Ap np cp) := by rw [World.cell?]; simp [HT.out.hb]
        have fzb : ∀ j, V.frozen? ⟨b, j, none⟩ = false := blk_frozen HT.out.hb
        refine wpAnyH_ready (rs := [20]) (by kernel_rfl) (by simp) ?_
        refine AllReadyH.cons (i := 20) rfl (fun K hK => ?_) AllReadyH.nil
        go_simp
        obtain ⟨U, hU⟩ : ∃ U, U = V.setCell ⟨b, 2, none⟩ (.slice Av1 nv1 cv1) := ⟨_, rfl⟩
        have hfU : Fr [b] V U := by rw [hU]; exact frcA
        have hNb := (HT.out.out (k := w.heap.size) (by simp)).2.1
        have hSU : U.cell? ⟨w.heap.size, 2, none⟩ = some (.int .i64 site) ∧ U.cell? ⟨b, 3, none⟩ = some (.slice Ao no co) := ⟨cell_fr hfU (by simpa using hNb) hSV.1, by rw [hU]; simp [go_sem, hSV.2]⟩
        have hUb : U.heap[b]? = some (.cells #[.bool false, .bool false, .slice Av1 nv1 cv1, .slice Ao no co] 87) := by rw [hU, heap_setCell HT.out.hb]; simp
        rw [← hU]
        refine hK.out _ _ hSU (fun hR => ?_)
        clear hK K k5 fzb hU
        try simp only [Act.put, List.getElem_toArray, List.getElem_cons_zero, List.getElem_cons_succ, List.setIfInBounds_toArray, List.set_cons_zero, List.set_cons_succ]
        refine takeH 21 ?_
        refine takeH 22 ?_
        have k6 : U.cell? ⟨b, 3, none⟩ = some (.slice Ao no co) := hSU.2
        have fzb : ∀ j, U.frozen? ⟨b, j, none⟩ = false := blk_frozen hUb
        refine wpAnyH_done (by kernel_rfl) ?_ _
        refine lastQ_op rfl (fun K hK => ?_)
        rw [if_pos (by rfl)]
        go_simp
        refine hK _ _ ?_
        clear hK K
        refine NoPanic.normal ?_
        go_wp2_with fail
        go_ret
        obtain ⟨hfF, hNS⟩ := HT.out.fin (e' := false) (o' := false) (w' := U.setCell ⟨b, 3, none⟩ (.slice Av2 nv2 cv2)) (hfU.trans (by exact frcA)) (by rw [heap_setCell hUb]; simp)
        exact ⟨ret_int hcd.symm, hfF, fun _ => by rw [next_k1]; exact hNS⟩
    · skip
      go_simp
      obtain ⟨V', hV'⟩ : ∃ V', V' = V.alloc (.cells #[.int .i64 site] 3) := ⟨_, rfl⟩
      have hx : Below V.heap.size V V' := by rw [hV']; exact belA
      have hz : V'.heap.size = V.heap.size + 1 := by rw [hV']; simp
      have H16 := Lib.hid (show V'.heap[V.heap.size]? = some (.cells #[.int .i64 site] 3) by rw [hV']; exact alloc_new' rfl)
      obtain ⟨X16, hX⟩ : ∃ X, V.heap.size = X := ⟨_, rfl⟩
      replace HT := Lib.hid (HT.out.aside hx (Nat.le_refl _) (show V.heap.size < V'.heap.size by omega))
      replace HN := Lib.hid (below_at hx (blk_size HN.out) HN.out)
      rw [hX] at HT H16 ⊢
      rw [← hV']
      clear hx hz hX hV' hSV
      skip
      skip
      have hSV' : V'.cell? ⟨w.heap.size, 2, none⟩ = some (.int .i64 site) ∧ V'.cell? ⟨b, 3, none⟩ = some (.slice Ao no co) := ⟨by rw [World.cell?]; simp [HN.out], by rw [World.cell?]; simp [HT.out.hb]⟩
      refine hK.out _ _ hSV' (fun hR => ?_)
      clear hK K
      obtain ⟨V, hV⟩ : ∃ V, V = V' := ⟨_, rfl⟩
      rw [← hV] at HT HN hSV' hR H16 ⊢
      clear hV V'
      have hSV := hSV'
      clear hSV'
      try simp only [Act.put, List.getElem_toArray, List.getElem_cons_zero, List.getElem_cons_succ, List.setIfInBounds_toArray, List.set_cons_zero, List.set_cons_succ]
      refine wpAnyH_ready (rs := [5, 8]) (by kernel_rfl) (by simp) ?_
      refine (AllReadyH.cons (i := 5) rfl (fun K hK => ?_) (AllReadyH.cons (i := 8) rfl (fun K hK => ?_) AllReadyH.nil))
      · skip
        have k5 : V.cell? ⟨b, 2, none⟩ = some (.slice Ap np cp) := by rw [World.cell?]; simp [HT.out.hb]
        go_simp
        clear k5
        refine hK.out _ _ hSV (fun hR => ?_)
        clear hK K
        try simp only [Act.put, List.getElem_toArray, List.getElem_cons_zero, List.getElem_cons_succ, List.setIfInBounds_toArray, List.set_cons_zero, List.set_cons_succ]
        refine wpAnyH_ready (rs := [8]) (by kernel_rfl) (by simp) ?_
        refine (AllReadyH.cons (i := 8) rfl (fun K hK => ?_) AllReadyH.nil)
        go_simp
        obtain ⟨V', hV'⟩ : ∃ V', V' = V.alloc (.cells #[.int .i64 site] 3) := ⟨_, rfl⟩
        have hx : Below V.heap.size V V' := by rw [hV']; exact belA
        have hz : V'.heap.size = V.heap.size + 1 := by rw [hV']; simp
        have H8 := Lib.hid (show V'.heap[V.heap.size]? = some (.cells #[.int .i64 site] 3) by rw [hV']; exact alloc_new' rfl)
        obtain ⟨X8, hX⟩ : ∃ X, V.heap.size = X := ⟨_, rfl⟩
        replace HT := Lib.hid (HT.out.aside hx (Nat.le_refl _) (show V.heap.size < V'.heap.size by omega))
        replace HN := Lib.hid (below_at hx (blk_size HN.out) HN.out)
        replace H16 := Lib.hid (below_at hx (blk_size H16.out) H16.out)
        rw [hX] at HT H8 ⊢
        rw [← hV']
        clear hx hz hX hV' hSV
        skip
        skip
        have hSV' : V'.cell? ⟨w.heap.size, 2, none⟩ = some (.int .i64 site) ∧ V'.cell? ⟨b, 3, none⟩ = some (.slice Ao no co) := ⟨by rw [World.cell?]; simp [HN.out], by rw [World.cell?]; simp [HT.out.hb]⟩
        refine hK.out _ _ hSV' (fun hR => ?_)
        clear hK K
        obtain ⟨V, hV⟩ : ∃ V, V = V' := ⟨_, rfl⟩
        rw [← hV] at HT HN hSV' hR H8 H16 ⊢
        clear hV V'
        have hSV := hSV'
        clear hSV'
        try simp only [Act.put, List.getElem_toArray, List.getElem_cons_zero, List.getElem_cons_succ, List.setIfInBounds_toArray, List.set_cons_zero, List.set_cons_succ]
        refine wpAnyH_ready (rs := [9]) (by kernel_rfl) (by simp) ?_
        refine (AllReadyH.cons (i := 9) rfl (fun K hK => ?_) AllReadyH.nil)
        obtain ⟨xs, hxs, put⟩ := HT.out.app1
        refine step_intK V (by rfl) (.tmp 80) (.tmp 83) (by rfl) _ _ xs (by rfl) hxs X8 site _ (by rfl) H8.out (by omega) ?_
        intro Av1 nv1 cv1 V' a1 a2 a3
        obtain ⟨hT', hD⟩ := put V' _ site a1.out a2.out a3.out hI
        replace HT := Lib.hid hT'
        replace HN := Lib.hid ((hD w.heap.size (by simp)).trans HN.out)
        clear H8
        replace H16 := Lib.hid ((hD X16 (by simp)).trans H16.out)
        clear hSV a1 a2 a3 put hxs hT' hD
        have hSV' : V'.cell? ⟨w.heap.size, 2, none⟩ = some (.int .i64 site) ∧ V'.cell? ⟨b, 3, none⟩ = some (.slice Ao no co) := ⟨by rw [World.cell?]; simp [HN.out], by rw [World.cell?]; simp [HT.out.hb]⟩
        refine hK.out _ _ hSV' (fun hR => ?_)
        clear hK K
        obtain ⟨V, hV⟩ : ∃ V, V = V' := ⟨_, rfl⟩
        rw [← hV] at HT HN hSV' hR H16 ⊢
        clear hV V'
        have hSV := hSV'
        clear hSV'
        try simp only [Act.put, List.getElem_toArray, List.getElem_cons_zero, List.getElem_cons_succ, List.setIfInBounds_toArray, List.set_cons_zero, List.set_cons_succ]
        refine wpAnyH_ready (rs := [17]) (by kernel_rfl) (by simp) ?_
        refine (AllReadyH.cons (i := 17) rfl (fun K hK => ?_) AllReadyH.nil)
        obtain ⟨xs, hxs, put⟩ := HT.out.app2
        refine step_intK V (by rfl) (.tmp 88) (.tmp 91) (by rfl) _ _ xs (by rfl) hxs X16 site _ (by rfl) H16.out (by omega) ?_
        intro Av2 nv2 cv2 V' a1 a2 a3
        obtain ⟨hT', hD⟩ := put V' _ site a1.out a2.out a3.out hI
        replace HT := Lib.hid hT'
        replace HN := Lib.hid ((hD w.heap.size (by simp)).trans HN.out)
        clear H16
        clear hSV a1 a2 a3 put hxs hT' hD
        have hSV' : V'.cell? ⟨w.heap.size, 2, none⟩ = some (.int .i64 site) ∧ V'.cell? ⟨b, 3, none⟩ = some (.slice Ao no co) := ⟨by rw [World.cell?]; simp [HN.out], by rw [World.cell?]; simp [HT.out.hb]⟩
        refine hK.out _ _ hSV' (fun hR => ?_)
        clear hK K
        obtain ⟨V, hV⟩ : ∃ V, V = V' := ⟨_, rfl⟩
        rw [← hV] at HT HN hSV' hR ⊢
        clear hV V'
        have hSV := hSV'
        clear hSV'
        try simp only [Act.put, List.getElem_toArray, List.getElem_cons_zero, List.getElem_cons_succ, List.setIfInBounds_toArray, List.set_cons_zero, List.set_cons_succ]
        refine takeH 18 ?_
        refine takeH 19 ?_
        have k5 : V.cell? ⟨b, 2, none⟩ = some (.slice Ap np cp) := by rw [World.cell?]; simp [HT.out.hb]
        have fzb : ∀ j, V.frozen? ⟨b, j, none⟩ = false := blk_frozen HT.out.hb
        refine wpAnyH_ready (rs := [20]) (by kernel_rfl) (by simp) ?_
        refine AllReadyH.cons (i := 20) rfl (fun K hK => ?_) AllReadyH.nil
        go_simp
        obtain ⟨U, hU⟩ : ∃ U, U = V.setCell ⟨b, 2, none⟩ (.slice Av1 nv1 cv1) := ⟨_, rfl⟩
        have hfU : Fr [b] V U := by rw [hU]; exact frcA
        have hNb := (HT.out.out (k := w.heap.size) (by simp)).2.1
        have hSU : U.cell? ⟨w.heap.size, 2, none⟩ = some (.int .i64 site) ∧ U.cell? ⟨b, 3, none⟩ = some (.slice Ao no co) := ⟨cell_fr hfU (by simpa using hNb) hSV.1, by rw [hU]; simp [go_sem, hSV.2]⟩
        have hUb : U.heap[b]? = some (.cells #[.bool false, .bool false, .slice Av1 nv1 cv1, .slice Ao no co] 87) := by rw [hU, heap_setCell HT.out.hb]; simp
        rw [← hU]
        refine hK.out _ _ hSU (fun hR => ?_)
        clear hK K k5 fzb hU
        try simp only [Act.put, List.getElem_toArray, List.getElem_cons_zero, List.getElem_cons_succ, List.setIfInBounds_toArray, List.set_cons_zero, List.set_cons_succ]
        refine takeH 21 ?_
        refine takeH 22 ?_
        have k6 : U.cell? ⟨b, 3, none⟩ = some (.slice Ao no co) := hSU.2
        have fzb : ∀ j, U.frozen? ⟨b, j, none⟩ = false := blk_frozen hUb
        refine wpAnyH_done (by kernel_rfl) ?_ _
        refine lastQ_op rfl (fun K hK => ?_)
        rw [if_pos (by rfl)]
        go_simp
        refine hK _ _ ?_
        clear hK K
        refine NoPanic.normal ?_
        go_wp2_with fail
        go_ret
        obtain ⟨hfF, hNS⟩ := HT.out.fin (e' := false) (o' := false) (w' := U.setCell ⟨b, 3, none⟩ (.slice Av2 nv2 cv2)) (hfU.trans (by exact frcA)) (by rw [heap_setCell hUb]; simp)
        exact ⟨ret_int hcd.symm, hfF, fun _ => by rw [next_k1]; exact hNS⟩
      · skip
        go_simp
        obtain ⟨V', hV'⟩ : ∃ V', V' = V.alloc (.cells #[.int .i64 site] 3) := ⟨_, rfl⟩
        have hx : Below V.heap.size V V' := by rw [hV']; exact belA
        have hz : V'.heap.size = V.heap.size + 1 := by rw [hV']; simp
        have H8 := Lib.hid (show V'.heap[V.heap.size]? = some (.cells #[.int .i64 site] 3) by rw [hV']; exact alloc_new' rfl)
        obtain ⟨X8, hX⟩ : ∃ X, V.heap.size = X := ⟨_, rfl⟩
        replace HT := Lib.hid (HT.out.aside hx (Nat.le_refl _) (show V.heap.size < V'.heap.size by omega))
        replace HN := Lib.hid (below_at hx (blk_size HN.out) HN.out)
        replace H16 := Lib.hid (below_at hx (blk_size H16.out) H16.out)
        rw [hX] at HT H8 ⊢
        rw [← hV']
        clear hx hz hX hV' hSV
        skip
        skip
        have hSV' : V'.cell? ⟨w.heap.size, 2, none⟩ = some (.int .i64 site) ∧ V'.cell? ⟨b, 3, none⟩ = some (.slice Ao no co) := ⟨by rw [World.cell?]; simp [HN.out], by rw [World.cell?]; simp [HT.out.hb]⟩
        refine hK.out _ _ hSV' (fun hR => ?_)
        clear hK K
        obtain ⟨V, hV⟩ : ∃ V, V = V' := ⟨_, rfl⟩
        rw [← hV] at HT HN hSV' hR H8 H16 ⊢
        clear hV V'
        have hSV := hSV'
        clear hSV'
        try simp only [Act.put, List.getElem_toArray, List.getElem_cons_zero, List.getElem_cons_succ, List.setIfInBounds_toArray, List.set_cons_zero, List.set_cons_succ]
        refine wpAnyH_ready (rs := [5]) (by kernel_rfl) (by simp) ?_
        refine (AllReadyH.cons (i := 5) rfl (fun K hK => ?_) AllReadyH.nil)
        have k5 : V.cell? ⟨b, 2, none⟩ = some (.slice Ap np cp) := by rw [World.cell?]; simp [HT.out.hb]
        go_simp
        clear k5
        refine hK.out _ _ hSV (fun hR => ?_)
        clear hK K
        try simp only [Act.put, List.getElem_toArray, List.getElem_cons_zero, List.getElem_cons_succ, List.setIfInBounds_toArray, List.set_cons_zero, List.set_cons_succ]
        refine wpAnyH_ready (rs := [9]) (by kernel_rfl) (by simp) ?_
        refine (AllReadyH.cons (i := 9) rfl (fun K hK => ?_) AllReadyH.nil)
        obtain ⟨xs, hxs, put⟩ := HT.out.app1
        refine step_intK V (by rfl) (.tmp 80) (.tmp 83) (by rfl) _ _ xs (by rfl) hxs X8 site _ (by rfl) H8.out (by omega) ?_
        intro Av1 nv1 cv1 V' a1 a2 a3
        obtain ⟨hT', hD⟩ := put V' _ site a1.out a2.out a3.out hI
        replace HT := Lib.hid hT'
        replace HN := Lib.hid ((hD w.heap.size (by simp)).trans HN.out)
        clear H8
        replace H16 := Lib.hid ((hD X16 (by simp)).trans H16.out)
        clear hSV a1 a2 a3 put hxs hT' hD
        have hSV' : V'.cell? ⟨w.heap.size, 2, none⟩ = some (.int .i64 site) ∧ V'.cell? ⟨b, 3, none⟩ = some (.slice Ao no co) := ⟨by rw [World.cell?]; simp [HN.out], by rw [World.cell?]; simp [HT.out.hb]⟩
        refine hK.out _ _ hSV' (fun hR => ?_)
        clear hK K
        obtain ⟨V, hV⟩ : ∃ V, V = V' := ⟨_, rfl⟩
        rw [← hV] at HT HN hSV' hR H16 ⊢
        clear hV V'
        have hSV := hSV'
        clear hSV'
        try simp only [Act.put, List.getElem_toArray, List.getElem_cons_zero, List.getElem_cons_succ, List.setIfInBounds_toArray, List.set_cons_zero, List.set_cons_succ]
        refine wpAnyH_ready (rs := [17]) (by kernel_rfl) (by simp) ?_
        refine (AllReadyH.cons (i := 17) rfl (fun K hK => ?_) AllReadyH.nil)
        obtain ⟨xs, hxs, put⟩ := HT.out.app2
        refine step_intK V (by rfl) (.tmp 88) (.tmp 91) (by rfl) _ _ xs (by rfl) hxs X16 site _ (by rfl) H16.out (by omega) ?_
        intro Av2 nv2 cv2 V' a1 a2 a3
        obtain ⟨hT', hD⟩ := put V' _ site a1.out a2.out a3.out hI
        replace HT := Lib.hid hT'
        replace HN := Lib.hid ((hD w.heap.size (by simp)).trans HN.out)
        clear H16
        clear hSV a1 a2 a3 put hxs hT' hD
        have hSV' : V'.cell? ⟨w.heap.size, 2, none⟩ = some (.int .i64 site) ∧ V'.cell? ⟨b, 3, none⟩ = some (.slice Ao no co) := ⟨by rw [World.cell?]; simp [HN.out], by rw [World.cell?]; simp [HT.out.hb]⟩
        refine hK.out _ _ hSV' (fun hR => ?_)
        clear hK K
        obtain ⟨V, hV⟩ : ∃ V, V = V' := ⟨_, rfl⟩
        rw [← hV] at HT HN hSV' hR ⊢
        clear hV V'
        have hSV := hSV'
        clear hSV'
        try simp only [Act.put, List.getElem_toArray, List.getElem_cons_zero, List.getElem_cons_succ, List.setIfInBounds_toArray, List.set_cons_zero, List.set_cons_succ]
        refine takeH 18 ?_
        refine takeH 19 ?_
        have k5 : V.cell? ⟨b, 2, none⟩ = some (.slice Ap np cp) := by rw [World.cell?]; simp [HT.out.hb]
        have fzb : ∀ j, V.frozen? ⟨b, j, none⟩ = false := blk_frozen HT.out.hb
        refine wpAnyH_ready (rs := [20]) (by kernel_rfl) (by simp) ?_
        refine AllReadyH.cons (i := 20) rfl (fun K hK => ?_) AllReadyH.nil
        go_simp
        obtain ⟨U, hU⟩ : ∃ U, U = V.setCell ⟨b, 2, none⟩ (.slice Av1 nv1 cv1) := ⟨_, rfl⟩
        have hfU : Fr [b] V U := by rw [hU]; exact frcA
        have hNb := (HT.out.out (k := w.heap.size) (by simp)).2.1
        have hSU : U.cell? ⟨w.heap.size, 2, none⟩ = some (.int .i64 site) ∧ U.cell? ⟨b, 3, none⟩ = some (.slice Ao no co) := ⟨cell_fr hfU (by simpa using hNb) hSV.1, by rw [hU]; simp [go_sem, hSV.2]⟩
        have hUb : U.heap[b]? = some (.cells #[.bool false, .bool false, .slice Av1 nv1 cv1, .slice Ao no co] 87) := by rw [hU, heap_setCell HT.out.hb]; simp
        rw [← hU]
        refine hK.out _ _ hSU (fun hR => ?_)
        clear hK K k5 fzb hU
        try simp only [Act.put, List.getElem_toArray, List.getElem_cons_zero, List.getElem_cons_succ, List.setIfInBounds_toArray, List.set_cons_zero, List.set_cons_succ]
        refine takeH 21 ?_
        refine takeH 22 ?_
        have k6 : U.cell? ⟨b, 3, none⟩ = some (.slice Ao no co) := hSU.2
        have fzb : ∀ j, U.frozen? ⟨b, j, none⟩ = false := blk_frozen hUb
        refine wpAnyH_done (by kernel_rfl) ?_ _
        refine lastQ_op rfl (fun K hK => ?_)
        rw [if_pos (by rfl)]
        go_simp
        refine hK _ _ ?_
        clear hK K
        refine NoPanic.normal ?_
        go_wp2_with fail
        go_ret
        obtain ⟨hfF, hNS⟩ := HT.out.fin (e' := false) (o' := false) (w' := U.setCell ⟨b, 3, none⟩ (.slice Av2 nv2 cv2)) (hfU.trans (by exact frcA)) (by rw [heap_setCell hUb]; simp)
        exact ⟨ret_int hcd.symm, hfF, fun _ => by rw [next_k1]; exact hNS⟩
end Go.Proofs.Ytgdeclmciflmpaa
