/- Codes read back: the program's walk. Printed by rdmgen.py. -/
import Derived.Test.YtgoinmdnpaknpaaGreatRdL
import Derived.Test.YtgoinmdnpaknpaaGreatRdF
set_option linter.unusedVariables false
set_option linter.unusedSimpArgs false
set_option maxRecDepth 100000
namespace Go.Proofs.YtgoinmdnpaknpaaGreat
open Go.RowKit
attribute [local irreducible] wpList
theorem cbR_true {c : Code} (h : (cbR c).2 = true) : cbB c = true ∧ (cbR c).1 = cbL c := by
  by_cases h1 : (cbB c && decide ((cbL c).length ≤ 2000)) = true
  · unfold cbR; rw [if_pos h1]; rw [Bool.and_eq_true] at h1; exact ⟨h1.1, rfl⟩
  · unfold cbR at h; rw [if_neg h1] at h; cases h
theorem cbR_false {c : Code} (h : (cbR c).2 = false) (hc : cbB c = true) (hl : (cbL c).length ≤ 2000) : False := by
  rw [cbR_yes hc hl] at h; cases h
set_option maxHeartbeats 16000000 in
theorem implReadCode (w : World) (s : ByteArray) (x0 : Int) (hs : s.size ≤ maxLen) (hx : I64 x0) :
    Calls Tryz.prog 27 #[.string s, .int .i64 x0] w (RetRC s x0 w) := by
  obtain ⟨inf, hif, iz0, iz1, iz2⟩ := info_parts Tryz.infoInsR
  have HIF := Lib.hid hif
  have IZ0 := Lib.hid iz0
  have IZ1 := Lib.hid iz1
  have IZ2 := Lib.hid iz2
  clear hif iz0 iz1 iz2
  go_enter Tryz.func27, Tryz.ntmps27
  go_upto_region 2 with fail
  obtain ⟨W0, hW0⟩ : ∃ W0, W0 = (w.alloc (.cells #[.int .i64 0, .int .i64 0, .slice none 0 0, .slice none 0 0, .slice none 0 0] 39)).alloc (.cells #[.string s, .int .i64 x0, .bool true] 85) := ⟨_, rfl⟩
  obtain ⟨R, hR⟩ : ∃ R, w.heap.size = R := ⟨_, rfl⟩
  obtain ⟨B, hB⟩ : ∃ B, R + 1 = B := ⟨_, rfl⟩
  have hbW : Below w.heap.size w W0 := by rw [hW0]; exact belA
  have HZ := Lib.hid (show CdB W0 R 0 0 (.slice none 0 0) (.slice none 0 0) (.slice none 0 0) from by rw [hW0]; exact below_at (Below.alloc (Below.refl _ _) (Nat.le_refl _) _) (by simp; omega) (alloc_new' hR))
  have HR := Lib.hid (show RdrB W0 B 85 s x0 true from by rw [hW0]; exact alloc_new' (by simp; omega))
  have hRB : R < B := by omega
  have hwR : w.heap.size ≤ R := by omega
  rw [← hW0, hR, hB]
  clear hW0 hR hB
  go_wp2_with fail
  refine (implNumber W0 B s x0 true hs hx HR.out).mono ?_
  rintro e w1 ⟨n0, x1, ok1, rfl, ⟨b00, b01⟩, hx1, HN1, HR1, hf1⟩
  have HF1 := Lib.hid (Fol.first HN1.out (by omega))
  have hbl := blk_size HR.out
  have hb1 : Below w.heap.size w w1 := below_fr hbW hf1 (fun k hk => by simp at hk; omega)
  have HZ1 := Lib.hid (show CdB w1 R 0 0 (.slice none 0 0) (.slice none 0 0) (.slice none 0 0) from fr_at hf1 (by simp; omega) HZ.out)
  clear HN1 HR HZ hf1 hbW
  go_wp2_with fail
  refine (implNumber w1 B s x1 ok1 hs hx1 HR1.out).mono ?_
  rintro e w2 ⟨n1, x2, ok2, rfl, ⟨b10, b11⟩, hx2, HN2, HR2, hf2⟩
  have HF2 := Lib.hid (HF1.out.vars HN2.out (by omega))
  have hb2 : Below w.heap.size w w2 := below_fr hb1 hf2 (fun k hk => by simp at hk; omega)
  have HZ2 := Lib.hid (show CdB w2 R 0 0 (.slice none 0 0) (.slice none 0 0) (.slice none 0 0) from fr_at hf2 (by simp; omega) HZ1.out)
  clear HN2 HR1 HZ1 hf2 hb1 HF1
  have i0 : I64 n0 := by unfold I64; omega
  have i1 : I64 n1 := by unfold I64; omega
  go_upto_region 3 with fail
  obtain ⟨C, hC⟩ : ∃ C, w2.heap.size = C := ⟨_, rfl⟩
  obtain ⟨W3, hW3⟩ : ∃ W3, W3 = w2.alloc (.cells #[.int .i64 n0, .int .i64 n1, .slice none 0 0, .slice none 0 0, .slice none 0 0] 39) := ⟨_, rfl⟩
  have HL := Lib.hid (show LSt w W3 R B C 85 s x2 ok2 n0 n1 (.slice none 0 0) (.slice none 0 0) (.slice none 0 0) from by rw [hW3]; exact LSt.new hb2 hwR hRB HR2.out HZ2.out hC)
  rw [← hW3, hC]
  have hBC := HL.out.at_.2.2
  clear hW3 hC HR2 HZ2 hb2
  go_wp2_with fail
  refine (implNumber W3 B s x2 ok2 hs hx2 HL.out.rd).mono ?_
  rintro e w3 ⟨m, x3, ok3, rfl, ⟨b20, b21⟩, hx3, HN3, HR3, hf3⟩
  have HF3 := Lib.hid (HF2.out.many HN3.out (by omega))
  have HL3 := Lib.hid (HL.out.num hf3 HR3.out)
  clear HN3 HR3 hf3 HL HF2
  go_wp2_with fail
  go_loopw [9] (fun iv wr => ∃ (cnt x : Int) (ok : Bool) (A : Option Addr) (n c : Nat) (l : List Int) (F : List Nat), iv = .int .i64 cnt ∧ I64 x ∧ (0 ≤ cnt ∧ cnt ≤ 1000000) ∧ (l.length : Int) ≤ 1000000 - cnt ∧ Hid (OwnSl intR wr 3 F (.slice A n c) l) ∧ Hid (∀ j, j ∈ F → C < j) ∧ Hid (Fol s x0 x ok (MS n0 n1 l cnt) (fun c => cp4 c l.length)) ∧ Hid (LSt w wr R B C 85 s x ok n0 n1 (.slice A n c) (.slice none 0 0) (.slice none 0 0))) (fun iv _ => (intOf iv).toNat)
  case atStart => exact ⟨m, x3, ok3, none, 0, 0, [], [], rfl, hx3, ⟨b20, b21⟩, by simp; omega, Lib.hid (OwnSl.nil_ ..), Lib.hid (by simp), HF3, HL3⟩
  case round =>
    clear HF3 HL3
    obtain ⟨cnt, x, ok, A, n, c, l, F, rfl, hxx, ⟨hc0, hc1⟩, hll, HO, HFF, HF, HL⟩ := hrel
    obtain ⟨r0, r1, r2⟩ := HL.out.rd.cells
    obtain ⟨q0, q1, q2, q3, q4⟩ := HL.out.cd.cells
    have hCr : C < wr.heap.size := blk_size HL.out.cd
    have hlen := HO.out.form
    by_cases hgo : 0 < cnt ∧ ok = true
    · obtain ⟨hcp, rfl⟩ := hgo
      go_upto_region 6 with fail
      have hS := Lib.hid (show ∀ V, Fr [B] wr V → V.cell? ⟨C, 2, none⟩ = some (.slice A n c) from fun V hV => cell_fr hV (by simp; omega) q2)
      clear r0 r1 r2 q0 q1 q2 q3 q4
      refine wp_region_noPanic ?_
      refine wp_region_cut (S := (fun V => V.cell? ⟨C, 2, none⟩ = some (.slice A n c))) 7 (by kernel_rfl) (by kernel_rfl) (hS.out _ (by exact frcA)) (fun hR0 => ?_)
      simp only [headOps, List.take_succ_cons, List.take_zero]
      refine takeH 0 ?_
      refine takeH 1 ?_
      refine takeH 2 ?_
      refine wpAnyH_ready (rs := [3]) (by kernel_rfl) (by simp) ?_
      refine AllReadyH.cons (i := 3) rfl (fun K hK => ?_) AllReadyH.nil
      go_simp
      go_at_call 60
      ((with_reducible refine (implNumber _ B s x true hs hxx (HL.out.rd.below (show Below wr.heap.size wr _ by exact belA))).mono ?_); rintro e w5 ⟨g, x5, ok5, rfl, ⟨b50, b51⟩, hx5, HN5, HR5, hf5⟩)
      have t5 : Fr [B] wr w5 := Fr.trans (show Fr [B] wr _ by exact frcA) hf5
      have HL5 := Lib.hid (HL.out.num t5 HR5.out)
      have HO5 := Lib.hid (HO.out.fr t5 (fun k hk hk2 => by have := HFF.out k hk; simp at hk2; omega))
      have HF5 := Lib.hid (HF.out.site hcp HN5.out (by omega))
      have ig : I64 g := by unfold I64; omega
      have hC5 : C < w5.heap.size := blk_size HL5.out.cd
      clear HN5 HR5 hf5 HF HO HL
      go_wp2_with fail
      refine hK.out _ _ (hS.out _ t5) (fun hR5 => ?_)
      clear hK K
      try simp only [Act.put, List.getElem_toArray, List.getElem_cons_zero, List.getElem_cons_succ, List.setIfInBounds_toArray, List.set_cons_zero, List.set_cons_succ]
      refine wpAnyH_ready (rs := [4]) (by kernel_rfl) (by simp) ?_
      refine AllReadyH.cons (i := 4) rfl (fun K hK => ?_) AllReadyH.nil
      go_simp
      refine hK.out _ _ (below_cell (show Below w5.heap.size w5 _ by exact belA) (hS.out _ t5)) (fun hR6 => ?_)
      clear hK K
      try simp only [Act.put, List.getElem_toArray, List.getElem_cons_zero, List.getElem_cons_succ, List.setIfInBounds_toArray, List.set_cons_zero, List.set_cons_succ]
      refine wpAnyH_ready (rs := [5]) (by kernel_rfl) (by simp) ?_
      refine AllReadyH.cons (i := 5) rfl (fun K hK => ?_) AllReadyH.nil
      refine step_intO (by rfl) _ _ (by rfl) (.slice A n c) l.length l F (by rfl) rfl (HO5.out.below (show Below w5.heap.size w5 _ by exact belA)) w5.heap.size g 3 (by rfl) (alloc_new' rfl) ig (by omega) ?_
      intro A8 n8 c8 w8 F8 HO8 fr8 HF8
      have hown := HO5.out.ownB
      have HL8 := Lib.hid ((HL5.out.below (show Below w5.heap.size w5 (w5.alloc (.cells #[.int .i64 g] 3)) by exact belA)).fr fr8 (fun k hk => HFF.out k (hown k (by simpa using hk))))
      have HFF8 := Lib.hid (show ∀ j, j ∈ F8 → C < j from fun j hj => by
        rcases HF8.out j hj with h | h
        · exact HFF.out j h
        · rw [h]; first | omega | (simp; omega))
      have n82 := HL8.out.cd.cells.2.2.1
      have z82 := blk_frozen HL8.out.cd 2
      refine hK.out _ _ n82 (fun hR7 => ?_)
      clear hK K hown fr8 HF8
      try simp only [Act.put, List.getElem_toArray, List.getElem_cons_zero, List.getElem_cons_succ, List.setIfInBounds_toArray, List.set_cons_zero, List.set_cons_succ]
      refine takeH 6 ?_
      refine wpAnyH_done (by kernel_rfl) ?_ _
      refine lastQ_op rfl (fun K hK => ?_)
      rw [if_pos (by rfl)]
      go_simp
      refine hK _ _ ?_
      clear hK K
      refine NoPanic.normal ?_
      obtain ⟨w9, hw9⟩ : ∃ w9, w9 = w8.setCell ⟨C, 2, none⟩ (.slice A8 n8 c8) := ⟨_, rfl⟩
      have HL9 := Lib.hid (show LSt w w9 R B C 85 s x5 ok5 n0 n1 (.slice A8 n8 c8) (.slice none 0 0) (.slice none 0 0) from by rw [hw9]; exact HL8.out.put2 _)
      have HO9 := Lib.hid (show OwnSl intR w9 3 F8 (.slice A8 n8 c8) (l ++ [g]) from by rw [hw9]; exact HO8.out.fr (Fr.setCell (p := ⟨C, 2, none⟩) (Fr.refl [C] _) (by simp) _) (fun k hk hk2 => by have := HFF8.out k hk; simp at hk2; omega))
      rw [← hw9]
      clear hw9 HL8 HO8 n82 z82 hR0 hR5 hR6 hR7 HO5 HL5
      go_wp2_with fail
      go_roundw
      case rel => exact ⟨cnt - 1, x5, ok5, A8, n8, c8, l ++ [g], F8, rfl, hx5, ⟨by omega, by omega⟩, by simp only [List.length_append, List.length_singleton]; omega, HO9, HFF8, HF5, HL9⟩
      case measure => simp [intOf]; omega
    have hc : ¬ (0 < cnt) ∨ (0 < cnt ∧ ok = false) := by
      by_cases h1 : 0 < cnt
      · cases ok
        · exact Or.inr ⟨h1, rfl⟩
        · exact absurd ⟨h1, rfl⟩ hgo
      · exact Or.inl h1
    have HE := Lib.hid (HF.out.sitesEnd (fun h1 => by
      rcases hc with h2 | ⟨_, h2⟩
      · omega
      · rw [h2] at h1; cases h1))
    clear hgo HF
    have hCB : B < C := hBC
    rcases hc with h1 | ⟨h1, rfl⟩
    all_goals
      go_wp2_with fail
      refine (implNumber wr B s x _ hs hxx HL.out.rd).mono ?_
      rintro e w4 ⟨m4, x4, ok4, rfl, ⟨b30, b31⟩, hx4, HN4, HR4, hf4⟩
      have HE4 := Lib.hid (HE.out.manyI HN4.out (by omega))
      have HL4 := Lib.hid (HL.out.num hf4 HR4.out)
      have HO4 := Lib.hid (HO.out.fr hf4 (fun k hk hk2 => by have := HFF.out k hk; simp at hk2; omega))
      have hlF := Lib.hid HO4.out.lt
      have hC4 : C < w4.heap.size := blk_size HL4.out.cd
      clear HE HL HO HN4 HR4 hf4 r0 r1 r2 q0 q1 q2 q3 q4 h1
      obtain ⟨wo, hwo⟩ : ∃ wo, wo = wr := ⟨_, rfl⟩
      clear hwo
      go_wp2_with fail
      go_loopw [11] (fun iv wr => ∃ (cnt x : Int) (ok : Bool) (A3 : Option Addr) (n3 c3 : Nat) (li : List Ins) (F3 : List Nat), iv = .int .i64 cnt ∧ I64 x ∧ 0 ≤ cnt ∧ (li.length : Int) + cnt = m4 ∧ Hid (OwnSl intR wr 3 F (.slice A n c) l) ∧ Hid (OwnSl InsR wr 67 F3 (.slice A3 n3 c3) li) ∧ Hid (∀ j, j ∈ F3 → w4.heap.size ≤ j) ∧ Hid (Fol s x0 x ok (MI n0 n1 l li cnt) (fun c => cp6 c li.length)) ∧ Hid (LSt w wr R B C 85 s x ok n0 n1 (.slice A n c) (.slice A3 n3 c3) (.slice none 0 0)) ∧ Hid (w4.heap.size ≤ wr.heap.size)) (fun iv _ => (intOf iv).toNat)
      case atStart => exact ⟨m4, x4, ok4, none, 0, 0, [], [], rfl, hx4, b30, by simp, HO4, Lib.hid (OwnSl.nil_ ..), Lib.hid (by simp), HE4, HL4, Lib.hid (Nat.le_refl _)⟩
      case round =>
        clear HE4 HL4 HO4
        obtain ⟨cnt2, x5, ok5, A3, n3, c3, li, F3, rfl, hx5, hd0, hd1, HO, HO3, HF3, HF, HL, HZ5⟩ := hrel
        have hzw := HZ5.out
        have hC5 : C < wr.heap.size := blk_size HL.out.cd
        have hCb : C < w4.heap.size := hC4
        obtain ⟨r0, r1, r2⟩ := HL.out.rd.cells
        by_cases hgo : 0 < cnt2 ∧ ok5 = true
        · obtain ⟨hcp, rfl⟩ := hgo
          go_wp2_with fail
          refine (implNumber wr B s x5 true hs hx5 HL.out.rd).mono ?_
          rintro e w6 ⟨g, x6, ok6, rfl, ⟨hg0, hg1⟩, hx6, HN6, HR6, hf6⟩
          have HF6 := Lib.hid (HF.out.op hcp HN6.out (by omega))
          have HL6 := Lib.hid (HL.out.num hf6 HR6.out)
          have HO6 := Lib.hid (HO.out.fr hf6 (fun k hk hk2 => by have := HFF.out k hk; simp at hk2; omega))
          have HO36 := Lib.hid (HO3.out.fr hf6 (fun k hk hk2 => by have := HF3.out k hk; simp at hk2; omega))
          have hz6 := hf6.size
          clear HF HN6 HR6 HO HO3 HL hf6 r0 r1 r2
          go_upto_region 12 with fail
          obtain ⟨W, hW⟩ : ∃ W, W = w6.alloc (.cells #[.int .i64 g, .int .i64 0] 67) := ⟨_, rfl⟩
          obtain ⟨r, hr⟩ : ∃ r, w6.heap.size = r := ⟨_, rfl⟩
          have hbW : Below w6.heap.size w6 W := by rw [hW]; exact belA
          have HB0 := Lib.hid (show W.heap[r]? = some (.cells #[.int .i64 g, .int .i64 0] 67) from by rw [hW]; exact alloc_new' hr)
          have HLW := Lib.hid (HL6.out.below hbW)
          have HOW := Lib.hid (HO6.out.below hbW)
          have HO3W := Lib.hid (HO36.out.below hbW)
          have hlr := Lib.hid (show (∀ j, j ∈ F → j < r) ∧ ∀ j, j ∈ F3 → j < r from ⟨fun j hj => by have := HO6.out.lt j hj; omega, fun j hj => by have := HO36.out.lt j hj; omega⟩)
          have hrC : C < r := by omega
          have hr4 : w4.heap.size ≤ r := by omega
          have hrW : r < W.heap.size := blk_size HB0.out
          have hg64 : I64 g := by unfold I64; omega
          have hzW : r ≤ W.heap.size := by omega
          rw [← hW, hr]
          clear hW hr HL6 HO6 HO36 hbW
          obtain ⟨k0, k1⟩ := two_cells HB0.out
          obtain ⟨hn, hhn⟩ : ∃ b, hasNB g = b := ⟨_, rfl⟩
          have HHN := Lib.hid hhn
          clear hhn
          cases hn
          rotate_left 1
          focus
            go_wp2_with (go_at_call 61; ((with_reducible refine (implHasN _ _).mono ?_); rintro e w7 ⟨rfl, b7⟩; rw [HHN.out]))
            have b7' : Below W.heap.size W w7 := by exact beloA
            refine (implSigned w7 B s x6 ok6 hs hx6 (HLW.out.rd.below b7')).mono ?_
            rintro e w8 ⟨z, xz, okz, rfl, iz, hxz, HN8, HR8, hf8⟩
            have t8 : Fr [B] W w8 := Fr.trans (Fr.of_below b7') hf8
            have HB8 := Lib.hid (fr_at t8 (show r ∉ [B] by simp; omega) HB0.out)
            have c81 := (two_cells HB8.out).2
            have z81 := blk_frozen HB8.out 1
            have y8 := t8.size
            have hr8 : r < w8.heap.size := by omega
            go_upto_region 14 with fail
            obtain ⟨Y, hY⟩ : ∃ Y, Y = w8.setCell ⟨r, 1, none⟩ (.int .i64 z) := ⟨_, rfl⟩
            have HBY := Lib.hid (show Y.heap[r]? = some (.cells #[.int .i64 g, .int .i64 z] 67) from by rw [hY]; exact put2_1 HB8.out)
            have hXY : Fr [B, r] W Y := by rw [hY]; exact Fr.setCell (p := ⟨r, 1, none⟩) (t8.more (by simp)) (by simp) _
            have HLY := Lib.hid (show LSt w Y R B C 85 s xz okz n0 n1 (.slice A n c) (.slice A3 n3 c3) (.slice none 0 0) from by rw [hY]; exact (HLW.out.num t8 HR8.out).fr (Fr.setCell (p := ⟨r, 1, none⟩) (Fr.refl [r] _) (by simp) _) (fun k hk => by simp at hk; omega))
            have HFN := Lib.hid (show Fol s x0 xz okz (MI n0 n1 l (li ++ [(g, z)]) (cnt2 - 1)) (fun c => cp6 c (li ++ [(g, z)]).length) from HF6.out.insN hcp HHN.out HN8.out)
            rw [← hY]
            clear hY HB8 HR8 hf8 t8 HN8 c81 z81 b7 b7' y8 hr8
          rotate_left 1
          focus
            go_wp2_with fail
            with_reducible refine (implHasN W g).mono ?_
            rintro e w7 ⟨rfl, b7⟩
            rw [HHN.out]
            obtain ⟨z, hz⟩ : ∃ z : Int, 0 = z := ⟨_, rfl⟩
            obtain ⟨xz, hxz'⟩ : ∃ z, x6 = z := ⟨_, rfl⟩
            obtain ⟨okz, hokz⟩ : ∃ z, ok6 = z := ⟨_, rfl⟩
            have hxz := hx6
            have iz : I64 z := by rw [← hz]; unfold I64; omega
            obtain ⟨Y, hY⟩ : ∃ Y, w7 = Y := ⟨_, rfl⟩
            have b3 : Below W.heap.size W Y := by rw [← hY]; exact beloA
            have HBY := Lib.hid (show Y.heap[r]? = some (.cells #[.int .i64 g, .int .i64 z] 67) from by rw [← hz]; exact below_at b3 hrW HB0.out)
            have HLY := Lib.hid (show LSt w Y R B C 85 s xz okz n0 n1 (.slice A n c) (.slice A3 n3 c3) (.slice none 0 0) from by rw [← hxz', ← hokz]; exact HLW.out.below b3)
            have hXY : Fr [B, r] W Y := Fr.of_below b3
            have HFN := Lib.hid (show Fol s x0 xz okz (MI n0 n1 l (li ++ [(g, z)]) (cnt2 - 1)) (fun c => cp6 c (li ++ [(g, z)]).length) from by rw [← hz, ← hxz', ← hokz]; exact HF6.out.insO hcp (fun _ => HHN.out))
            rw [hxz'] at hxz
            rw [hY]
            clear hY hz hxz' hokz b3 b7
          all_goals
            have HOY := Lib.hid (HOW.out.fr hXY (fun k hk hk2 => by have := HFF.out k hk; have := hlr.out.1 k hk; simp at hk2; omega))
            have HO3Y := Lib.hid (HO3W.out.fr hXY (fun k hk hk2 => by have := HF3.out k hk; have := hlr.out.2 k hk; simp at hk2; omega))
            have hWY := hXY.size
            have hrY : r < Y.heap.size := by omega
            have hCY : C < Y.heap.size := by omega
            clear k0 k1
            obtain ⟨c0, c1⟩ := two_cells HBY.out
            obtain ⟨q0, q1, q2, q3, q4⟩ := HLY.out.cd.cells
            have lt2 := Lib.hid HOY.out.lt
            clear HB0 HOW HO3W HLW hXY HF6
            go_upto_region 10 with (first
              | (at_builtin; refine wpl_own1 _ rfl _ _ 36 rfl InsR 67 inf (.agg #[.int .i64 0, .int .i64 0]) 2 16 Tryz.underlying36 HIF.out IZ0.out IZ1.out IZ2.out rfl rfl (by decide) (.slice A3 n3 c3) li.length li F3 rfl rfl (HO3Y.out.below (show Below Y.heap.size Y _ by exact belA)) ⟨Y.heap.size, 0, none⟩ 1 [.int .i64 g, .int .i64 z] (g, z) [] rfl (cells_new _ _ _ (by simp)) (Ins_own _ g z hg64 iz) insR_one (fun j hj => by cases hj) (by omega) (by decide) ?_))
            intro v' w9 F' ho' hgr hF'
            obtain ⟨A', n', c', rfl, hnn⟩ := ho'.form
            clear hnn
            have hbA : Below Y.heap.size Y (Y.alloc (.cells #[.int .i64 g, .int .i64 z] 67)) := by exact belA
            have hown := HO3Y.out.ownB
            have fr9 : Fr (Value.slice A3 n3 c3).ownBlock.toList Y w9 := Fr.trans (Fr.of_below hbA) (grown_fr hgr)
            have HL9 := Lib.hid (HLY.out.fr fr9 (fun k hk => by have := HF3.out k (hown k (by simpa using hk)); omega))
            have HO9 := Lib.hid (HOY.out.fr fr9 (fun k hk hk2 => by have := hlF.out k hk; have := HF3.out k (hown k (by simpa using hk2)); omega))
            have HO3' := Lib.hid ho'
            have HFF' := Lib.hid (show ∀ j, j ∈ F' → w4.heap.size ≤ j from fun j hj => by
              rcases hF' j hj with h | h
              · exact HF3.out j h
              · rw [h]; first | omega | (simp; omega))
            have y9 := fr9.size
            obtain ⟨p0, p1, p2, p3, p4⟩ := HL9.out.cd.cells
            have z93 := blk_frozen HL9.out.cd 3
            have hC9 : C < w9.heap.size := by omega
            clear ho' hgr hF' hown hbA fr9 c0 c1 q0 q1 q2 q3 q4 HBY HOY HLY HO3Y
            go_wp2_with fail
            obtain ⟨wa, hwa⟩ : ∃ wa, wa = w9.setCell ⟨C, 3, none⟩ (.slice A' n' c') := ⟨_, rfl⟩
            have hfa : Fr [C] w9 wa := by rw [hwa]; exact Fr.setCell (p := ⟨C, 3, none⟩) (Fr.refl [C] _) (by simp) _
            have HLa := Lib.hid (show LSt w wa R B C 85 s xz okz n0 n1 (.slice A n c) (.slice A' n' c') (.slice none 0 0) from by rw [hwa]; exact HL9.out.put3 _)
            have HOa := Lib.hid (HO9.out.fr hfa (fun k hk hk2 => by have := HFF.out k hk; simp at hk2; omega))
            have HO3a := Lib.hid (HO3'.out.fr hfa (fun k hk hk2 => by have := HFF'.out k hk; simp at hk2; omega))
            have ya := hfa.size
            rw [← hwa]
            clear hwa HL9 HO9 HO3' hfa p0 p1 p2 p3 p4 z93
            go_roundw
            case rel => exact ⟨cnt2 - 1, xz, okz, A', n', c', li ++ [(g, z)], F', rfl, hxz, by omega, by simp only [List.length_append, List.length_singleton]; omega, HOa, HO3a, HFF', HFN, HLa, Lib.hid (by omega)⟩
            case measure => simp [intOf]; omega
        have hc : (ok5 = false ∧ ¬ (0 < cnt2)) ∨ (ok5 = false ∧ 0 < cnt2) ∨ (ok5 = true ∧ ¬ (0 < cnt2)) := by
          by_cases h1 : 0 < cnt2
          · cases ok5
            · exact Or.inr (Or.inl ⟨rfl, h1⟩)
            · exact absurd ⟨h1, rfl⟩ hgo
          · cases ok5
            · exact Or.inl ⟨rfl, h1⟩
            · exact Or.inr (Or.inr ⟨rfl, h1⟩)
        obtain ⟨z0, z1, z2, z3, z4⟩ := HL.out.rz.cells
        have zf := blk_frozen HL.out.rz
        have hRr : R < wr.heap.size := blk_size HL.out.rz
        have hblr := HL.out.bl
        clear hgo
        rcases hc with ⟨rfl, h1⟩ | ⟨rfl, h1⟩ | ⟨rfl, h1⟩
        rotate_left 2
        · have hcz : cnt2 = 0 := by omega
          have HLEN := Lib.hid (show m4 = (li.length : Int) by omega)
          have HE5 := Lib.hid (HF.out.inssEnd (fun _ => by omega))
          obtain ⟨mn, rfl⟩ := Int.eq_ofNat_of_zero_le b30
          obtain ⟨y1, y2, y3, y4⟩ := HE5.out.1 rfl
          clear HF h1
          go_wp2_with fail
          refine (implReadRows wr s x5 mn hs hx5 (by omega)).mono ?_
          rintro e w6 ⟨A4, n4, c4, lr, x7, code, F4, rfl, hx7, HO46, HF4, hlr, HRW, hb6⟩
          have HE7 := Lib.hid (HE5.out.rows HRW.out (fun _ => HLEN.out))
          have HL6 := Lib.hid (HL.out.below hb6)
          have HO6 := Lib.hid (HO.out.below hb6)
          have HO36 := Lib.hid (HO3.out.below hb6)
          have hl3 := Lib.hid HO3.out.lt
          have hz6 := hb6.size
          clear HE5 HRW HO HO3 hcz z0 z1 z2 z3 z4 zf hRr hblr
          obtain ⟨z0, z1, z2, z3, z4⟩ := HL6.out.rz.cells
          have zf := blk_frozen HL6.out.rz
          have hRr : R < w6.heap.size := blk_size HL6.out.rz
          have hblr := HL6.out.bl
          by_cases hcode : code = 0
          rotate_left
          · have hcb : (code != 0) = true := bne_iff_ne.2 hcode
            have hno := Lib.hid (show rcR s x0 = ((0, 0, [], [], []), 0, false) from by
              have h9 := HE7.out
              rw [show (code == 0) = false by simpa using hcode] at h9
              exact h9.dead)
            clear HE7
            go_wp2_with fail
            obtain ⟨f0, f1, f2, f3, f4⟩ := (HL6.out.rz.all (n0 := 0) (n1 := 0) (v2 := .slice none 0 0) (v3 := .slice none 0 0) (v4 := .slice none 0 0)).cells
            refine bodyPost_ret (v := .tuple #[.agg #[.int .i64 0, .int .i64 0, .slice none 0 0, .slice none 0 0, .slice none 0 0], .int .i64 0, .bool false]) (by simp [results, Tryz.results27, go_sem, f0, f1, f2, f3, f4]) rfl ?_
            exact RetRC.no hno.out (by exact beloA)
          subst hcode
          replace HE7 : Hid (Fol s x0 x7 true (fun c => (n0, n1, l, li, lr) = c) (fun _ => [])) := HE7
          obtain ⟨q0, q1, q2, q3, q4⟩ := HL6.out.cd.cells
          have n64 := blk_frozen HL6.out.cd 4
          have hC6 : C < w6.heap.size := blk_size HL6.out.cd
          go_upto_region 21 with fail
          obtain ⟨w8, hw8⟩ : ∃ w8, w8 = w6.setCell ⟨C, 4, none⟩ (.slice A4 n4 c4) := ⟨_, rfl⟩
          have hf78 : Fr [C] w6 w8 := by rw [hw8]; exact Fr.setCell (p := ⟨C, 4, none⟩) (Fr.refl [C] _) (by simp) _
          have HL8 := Lib.hid (show LSt w w8 R B C 85 s x5 true n0 n1 (.slice A n c) (.slice A3 n3 c3) (.slice A4 n4 c4) from by rw [hw8]; exact HL6.out.put4 _)
          have HO2 := Lib.hid (HO6.out.fr hf78 (fun k hk hk2 => by have := HFF.out k hk; simp at hk2; omega))
          have HO3 := Lib.hid (HO36.out.fr hf78 (fun k hk hk2 => by have := HF3.out k hk; simp at hk2; omega))
          have HO4 := Lib.hid (HO46.out.fr hf78 (fun k hk hk2 => by have := HF4.out k hk; simp at hk2; omega))
          have HND := Lib.hid (show (F ++ (F3 ++ F4)).Nodup ∧ (∀ k, k ∈ F ++ (F3 ++ F4) → C < k) from by
            refine ⟨nodup3 (a := w4.heap.size) (b := wr.heap.size) (ownF_nd HO2.out) (ownF_nd HO3.out) (ownF_nd HO4.out) (fun k hk => hlF.out k hk) (fun k hk => ⟨HF3.out k hk, hl3.out k hk⟩) (fun k hk => HF4.out k hk) (by omega), fun k hk => ?_⟩
            simp only [List.mem_append] at hk
            rcases hk with hk | hk | hk
            · exact HFF.out k hk
            · have := HF3.out k hk; omega
            · have := HF4.out k hk; omega)
          have hz8 := hf78.size
          rw [← hw8]
          clear hw8 HL6 HO6 HO36 HO46 n64 hf78 z0 z1 z2 z3 z4 zf hRr hblr q0 q1 q2 q3 q4 r0 r1 r2
          have hbl8 := HL8.out.bl
          obtain ⟨_, _, _, he2, hn2⟩ := HO2.out.form
          obtain ⟨_, _, _, he3, hn3⟩ := HO3.out.form
          obtain ⟨_, _, _, he4, hn4⟩ := HO4.out.form
          simp only [Value.slice.injEq] at he2 he3 he4
          have hn3b : n3 ≤ 1048576 := by have := HLEN.out; omega
          clear he2 he3 he4 hn2 hn3 hn4
          obtain ⟨q0, q1, q2, q3, q4⟩ := HL8.out.cd.cells
          go_wp2_with fail
          refine (implCodeBytes w8 0 w8.heap.size n0 n1 A A3 A4 n c n3 c3 n4 c4 l li lr HO2.out.sl HO3.out.sl HO4.out.sl (Nat.le_refl _) hn3b).mono ?_
          rintro e wb ⟨rfl, bb⟩
          obtain ⟨gb, hgb⟩ : ∃ g, (cbR (n0, n1, l, li, lr)).2 = g := ⟨_, rfl⟩
          obtain ⟨o, ho⟩ : ∃ o : ByteArray, (⟨(cbR (n0, n1, l, li, lr)).1.toArray⟩ : ByteArray) = o := ⟨_, rfl⟩
          have HGB := Lib.hid hgb
          have HOL := Lib.hid (show o.data.toList = (cbR (n0, n1, l, li, lr)).1 by rw [← ho])
          rw [ho, hgb]
          have HLb := Lib.hid (HL8.out.below bb)
          have RZ := Lib.hid HLb.out.rz
          obtain ⟨z0, z1, z2, z3, z4⟩ := RZ.out.cells
          have zf := blk_frozen RZ.out
          have hRb : R < wb.heap.size := blk_size RZ.out
          have hblb := HLb.out.bl
          clear ho hgb q0 q1 q2 q3 q4
          cases gb
          · have hno := Lib.hid (HE7.out.wrong (fun hc a ha h => cbR_false HGB.out hc (by
              rw [← h, List.length_take]
              have h4 : s.data.size = s.size := rfl
              rw [List.length_drop, Array.length_toList]
              omega)))
            go_wp2_with fail
            obtain ⟨f0, f1, f2, f3, f4⟩ := (RZ.out.all (n0 := 0) (n1 := 0) (v2 := .slice none 0 0) (v3 := .slice none 0 0) (v4 := .slice none 0 0)).cells
            refine bodyPost_ret (v := .tuple #[.agg #[.int .i64 0, .int .i64 0, .slice none 0 0, .slice none 0 0, .slice none 0 0], .int .i64 0, .bool false]) (by simp [results, Tryz.results27, go_sem, f0, f1, f2, f3, f4]) rfl ?_
            exact RetRC.no hno.out (by exact beloA)
          obtain ⟨hcb, hol⟩ := cbR_true HGB.out
          have HC := Lib.hid hcb
          have HO5 := Lib.hid (HOL.out.trans hol)
          obtain ⟨w1', w2', w3', w4'⟩ := HE7.out.1 rfl
          obtain ⟨a0, rfl⟩ := Int.eq_ofNat_of_zero_le w1'
          obtain ⟨a7, rfl⟩ := Int.eq_ofNat_of_zero_le (show 0 ≤ x7 by omega)
          obtain ⟨t, ht⟩ : ∃ t, s.extract a0 a7 = t := ⟨_, rfl⟩
          have hslc : ∀ V, (Instr.slice 9 (.string s) (some (.int .i64 (a0 : Int))) (some (.int .i64 (a7 : Int))) none).run Tryz.prog V = .ok (.string t) V := fun V => by
            rw [run_slice_string V 9 s .i64 .i64 (a0 : Int) (a7 : Int) Tryz.underlying9 (by omega) (by omega) w3', ← ht]
            simp only [Int.toNat_natCast]
          have HTT := Lib.hid (show t.data.toList = (s.data.toList.drop a0).take (a7 - a0) by rw [← ht, ByteArray.data_extract, Array.toList_extract])
          clear ht hcb hol
          by_cases E : o = t
          rotate_left
          · have hne := bytes_ne E
            have hno := Lib.hid (HE7.out.wrong (fun hc a ha h => E (by
              obtain rfl : a0 = a := by omega
              rw [Int.toNat_natCast] at h
              have h2 : t.data.toList = o.data.toList := by rw [HTT.out, HO5.out]; exact h
              cases o; cases t; simp only at h2; congr 1; exact (Array.toList_inj.1 h2).symm)))
            go_wp2_with fail
            obtain ⟨f0, f1, f2, f3, f4⟩ := (RZ.out.all (n0 := 0) (n1 := 0) (v2 := .slice none 0 0) (v3 := .slice none 0 0) (v4 := .slice none 0 0)).cells
            refine bodyPost_ret (v := .tuple #[.agg #[.int .i64 0, .int .i64 0, .slice none 0 0, .slice none 0 0, .slice none 0 0], .int .i64 0, .bool false]) (by simp [results, Tryz.results27, go_sem, f0, f1, f2, f3, f4]) rfl ?_
            exact RetRC.no hno.out (by exact beloA)
          subst E
          have hres := Lib.hid (HE7.out.right HC.out w4' rfl rfl (by omega) (by omega) (by rw [← HTT.out, HO5.out]))
          obtain ⟨k0, k1, k2, k3, k4⟩ := HLb.out.cd.cells
          have hRC : R ≠ C := by have := HLb.out.at_; omega
          go_wp2_with fail
          obtain ⟨f0, f1, f2, f3, f4⟩ := (RZ.out.all (n0 := n0) (n1 := n1) (v2 := .slice A n c) (v3 := .slice A3 n3 c3) (v4 := .slice A4 n4 c4)).cells
          have hfr : Fr [R] wb (((((wb.setCell ⟨R, 0, none⟩ (.int .i64 n0)).setCell ⟨R, 1, none⟩ (.int .i64 n1)).setCell ⟨R, 2, none⟩ (.slice A n c)).setCell ⟨R, 3, none⟩ (.slice A3 n3 c3)).setCell ⟨R, 4, none⟩ (.slice A4 n4 c4)) := by exact frcA
          have tf : Fr [R] w8 _ := Fr.trans (Fr.of_below bb) hfr
          refine bodyPost_ret (v := .tuple #[.agg #[.int .i64 n0, .int .i64 n1, .slice A n c, .slice A3 n3 c3, .slice A4 n4 c4], .int .i64 (a7 : Int), .bool true]) (by simp [results, Tryz.results27, go_sem, f0, f1, f2, f3, f4]) rfl ?_
          have hap : ∀ k, k ∈ F ++ (F3 ++ F4) → k ∉ [R] := fun k hk h => by have := HND.out.2 k hk; simp at h; omega
          exact RetRC.yes hres.out (HO2.out.fr tf (fun k hk => hap k (List.mem_append_left _ hk))) (HO3.out.fr tf (fun k hk => hap k (List.mem_append_right _ (List.mem_append_left _ hk)))) (HO4.out.fr tf (fun k hk => hap k (List.mem_append_right _ (List.mem_append_right _ hk)))) HND.out.1 (fun k hk => by have := HND.out.2 k hk; omega) (below_fr hblb hfr (fun k hk => by simp at hk; omega))
        all_goals
          have hno := Lib.hid (HF.out.dead)
          go_wp2_with fail
          obtain ⟨f0, f1, f2, f3, f4⟩ := (HL.out.rz.all (n0 := 0) (n1 := 0) (v2 := .slice none 0 0) (v3 := .slice none 0 0) (v4 := .slice none 0 0)).cells
          refine bodyPost_ret (v := .tuple #[.agg #[.int .i64 0, .int .i64 0, .slice none 0 0, .slice none 0 0, .slice none 0 0], .int .i64 0, .bool false]) (by simp [results, Tryz.results27, go_sem, f0, f1, f2, f3, f4]) rfl ?_
          exact RetRC.no hno.out (by exact beloA)
end Go.Proofs.YtgoinmdnpaknpaaGreat
