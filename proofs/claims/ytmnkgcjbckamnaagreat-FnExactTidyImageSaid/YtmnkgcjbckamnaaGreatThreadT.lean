/- Letting what leads to a jump lead where that leads: the reference's walk of the loop. -/
import Derived.Test.YtmnkgcjbckamnaaGreatThreadS
set_option linter.unusedVariables false
set_option linter.unusedSimpArgs false
set_option maxRecDepth 100000
namespace Go.Proofs.YtmnkgcjbckamnaaGreat
open Go.RowKit
theorem insRow_patch {w : World} {base g n c : Nat} {l : List Ins} (h : InsRow w base (.slice (some ⟨g, 0, none⟩) n c) l) {i : Nat} (hi : i < l.length) (b : Int) :
    InsRow (w.setCell ⟨g, i * 2 + 1, none⟩ (.int .i64 b)) base (.slice (some ⟨g, 0, none⟩) n c) (l.set i ((l[i]).1, b)) := by
  obtain ⟨A', m', c', e, rfl⟩ := h.form
  injection e with e1 e2 e3
  subst e2
  unfold InsRow at h ⊢
  rw [List.length_set]
  exact ins_patch h hi b
theorem CdRows.patch {w : World} {B g n c : Nat} {v2 v4 : Value} {s2 : List Int} {s3 : List Ins} {s4 : List Row} (h : CdRows w B v2 (.slice (some ⟨g, 0, none⟩) n c) v4 s2 s3 s4) {i : Nat} (hi : i < s3.length) (m : Int) {s3' : List Ins} (e : s3.set i ((s3[i]).1, m) = s3') :
    CdRows (w.setCell ⟨g, i * 2 + 1, none⟩ (.int .i64 m)) B v2 (.slice (some ⟨g, 0, none⟩) n c) v4 s2 s3' s4 := by
  subst e
  exact h.put (insRow_patch h.r3 hi m) (Fr.setCell (Fr.refl _ _) (by simp [Value.ownBlock]) _)
set_option maxHeartbeats 8000000 in
theorem specL13Thread (w : World) (lo hi : Nat) (x0 x1 : Int) (A2 A3 A4 : Option Addr) (n2 c2 n3 c3 n4 c4 : Nat) (s2 : List Int) (s3 : List Ins) (s4 : List Row) (h2 : Sl intR w lo hi A2 n2 c2 s2) (h3 : Sl InsR w lo hi A3 n3 c3 s3) (h4 : Sl RowR w lo hi A4 n4 c4 s4) (hh : hi ≤ w.heap.size) (hg : thrB (x0, x1, s2, s3, s4) = true) :
    Calls Tryz.prog 57 #[.agg #[.int .i64 x0, .int .i64 x1, .slice A2 n2 c2, .slice A3 n3 c3, .slice A4 n4 c4]] w (RetCd x0 x1 s2 (s3.map (thrI s3)) s4 w) := by
  unfold thrB at hg
  rw [Bool.and_eq_true] at hg
  have hsz := codeSz_len hg.1
  simp only at hsz hg
  obtain ⟨z2, z3, z4, zi⟩ := hsz
  have hgo := hg.2
  clear hg
  have l2 := h2.lenEq
  have l3 := h3.lenEq
  have l4 := h4.lenEq
  have hn2 : n2 ≤ 4 := by omega
  have hn3 : n3 ≤ 300 := by omega
  have hp3 : 0 < n3 := by omega
  have hn4 : n4 ≤ 300 := by omega
  have HL := Lib.hid l3
  have HGO := Lib.hid hgo
  clear hgo zi z2 z3 z4 l2 l3 l4
  go_enter Tryz.func57, Tryz.ntmps57
  go_wp2_with fail
  refine (specL13Own _ lo hi x0 x1 A2 A3 A4 n2 c2 n3 c3 n4 c4 s2 s3 s4 (h2.below (show Below w.heap.size w _ by (repeat (first | with_reducible exact Below.refl _ _ | with_reducible assumption | with_reducible refine below_alloc ?_ _ | ((with_reducible refine Below.setCell ?_ ?_ _); rotate_left; (· first | exact Nat.le_refl _ | (simp; done) | (simp; omega))) | with_reducible refine below_drewN ?_ _ | with_reducible refine Below.drew ?_ | with_reducible refine below_then ?_ (by with_reducible assumption)))) hh) (h3.below (show Below w.heap.size w _ by (repeat (first | with_reducible exact Below.refl _ _ | with_reducible assumption | with_reducible refine below_alloc ?_ _ | ((with_reducible refine Below.setCell ?_ ?_ _); rotate_left; (· first | exact Nat.le_refl _ | (simp; done) | (simp; omega))) | with_reducible refine below_drewN ?_ _ | with_reducible refine Below.drew ?_ | with_reducible refine below_then ?_ (by with_reducible assumption)))) hh) (h4.below (show Below w.heap.size w _ by (repeat (first | with_reducible exact Below.refl _ _ | with_reducible assumption | with_reducible refine below_alloc ?_ _ | ((with_reducible refine Below.setCell ?_ ?_ _); rotate_left; (· first | exact Nat.le_refl _ | (simp; done) | (simp; omega))) | with_reducible refine below_drewN ?_ _ | with_reducible refine Below.drew ?_ | with_reducible refine below_then ?_ (by with_reducible assumption)))) hh) (by first | omega | (simp; done) | (simp; omega)) (by omega) (by omega) (by omega)).mono ?_
  rintro e w2 ⟨B2, p2, q2, B3, p3, q3, B4, p4, q4, rfl, hc, hb2⟩
  obtain ⟨hcE, hfE⟩ := bcell hb2
  have r3 : w2.cell? ⟨w.heap.size, 3, none⟩ = some (.slice A3 n3 c3) := by simp [hcE, go_sem]
  have t0 : w2.cell? ⟨w.heap.size + 1, 0, none⟩ = some (.int .i64 0) := by simp [hcE, go_sem]
  have t1 : w2.cell? ⟨w.heap.size + 1, 1, none⟩ = some (.int .i64 0) := by simp [hcE, go_sem]
  have t2 : w2.cell? ⟨w.heap.size + 1, 2, none⟩ = some (.slice none 0 0) := by simp [hcE, go_sem]
  have t3 : w2.cell? ⟨w.heap.size + 1, 3, none⟩ = some (.slice none 0 0) := by simp [hcE, go_sem]
  have t4 : w2.cell? ⟨w.heap.size + 1, 4, none⟩ = some (.slice none 0 0) := by simp [hcE, go_sem]
  have tf : ∀ j, w2.frozen? ⟨w.heap.size + 1, j, none⟩ = false := fun j => by simp [hfE, go_sem]
  have hR2 : w.heap.size + 1 < w2.heap.size := World.block_lt_of_cell? w2 _ t0
  have hx2 : Below w.heap.size w w2 := by (repeat (first | with_reducible exact Below.refl _ _ | with_reducible assumption | with_reducible refine below_alloc ?_ _ | ((with_reducible refine Below.setCell ?_ ?_ _); rotate_left; (· first | exact Nat.le_refl _ | (simp; done) | (simp; omega))) | with_reducible refine below_drewN ?_ _ | with_reducible refine Below.drew ?_ | with_reducible refine below_then ?_ (by with_reducible assumption)))
  have h3' := h3.below hx2 hh
  replace hc := hc.mono (B' := w.heap.size + 2) (by simp)
  clear hcE hfE hb2 h2 h3 h4
  obtain ⟨g, cap, hv⟩ := insRow_some hc.r3 (by have := HL.out; omega)
  injection hv with hv1 hv2 hv3
  subst hv1
  obtain rfl : p3 = n3 := by have := HL.out; omega
  clear hv2 hv3
  have hgB := (World.ownsRow.lt hc.r3 g rfl)
  have hgw : w.heap.size + 2 ≤ g ∧ g < w2.heap.size := by omega
  clear hgB
  go_wp2_with fail
  obtain ⟨w3, hw3⟩ : ∃ w3, w3 = w2.alloc (.cells #[.int .i64 x0, .int .i64 x1, .slice B2 p2 q2, .slice (some ⟨g, 0, none⟩) p3 q3, .slice B4 p4 q4] 30) := ⟨_, rfl⟩
  have a3 : w3.cell? ⟨w2.heap.size, 3, none⟩ = some (.slice (some ⟨g, 0, none⟩) p3 q3) := by rw [hw3]; simp [go_sem]
  have a0 : w3.cell? ⟨w2.heap.size, 0, none⟩ = some (.int .i64 x0) := by rw [hw3]; simp [go_sem]
  have a1 : w3.cell? ⟨w2.heap.size, 1, none⟩ = some (.int .i64 x1) := by rw [hw3]; simp [go_sem]
  have a2 : w3.cell? ⟨w2.heap.size, 2, none⟩ = some (.slice B2 p2 q2) := by rw [hw3]; simp [go_sem]
  have a4 : w3.cell? ⟨w2.heap.size, 4, none⟩ = some (.slice B4 p4 q4) := by rw [hw3]; simp [go_sem]
  have hx23 : Below w2.heap.size w2 w3 := by rw [hw3]; exact Below.alloc (Below.refl _ _) (Nat.le_refl _) _
  have hX3 : w2.heap.size < w3.heap.size := World.block_lt_of_cell? w3 _ a0
  replace r3 := below_cell hx23 r3
  replace t0 := below_cell hx23 t0
  replace t1 := below_cell hx23 t1
  replace t2 := below_cell hx23 t2
  replace t3 := below_cell hx23 t3
  replace t4 := below_cell hx23 t4
  replace tf : ∀ j, w3.frozen? ⟨w.heap.size + 1, j, none⟩ = false := fun j => below_frozen hx23 hR2 (tf j)
  replace hc := hc.below hx23
  replace h3' := h3'.below hx23 (by omega)
  have hx3 := below_then hx2 hx23
  obtain ⟨X, hX⟩ : ∃ X, X = w2.heap.size := ⟨_, rfl⟩
  rw [← hX] at a0 a1 a2 a3 a4 hX3 hR2 hgw ⊢
  rw [← hw3]
  clear hw3 hx23 hx2 hX
  go_loopw [12] (fun i wr => ∃ (k : Nat), k ≤ p3 ∧ i = .int .i64 k ∧ CdRows wr (w.heap.size + 2) (.slice B2 p2 q2) (.slice (some ⟨g, 0, none⟩) p3 q3) (.slice B4 p4 q4) s2 (thrK s3 k) s4 ∧ Fr [g] w3 wr) (fun i _ => p3 - (intOf i).toNat)
  case atStart => exact ⟨0, Nat.zero_le _, rfl, by rw [thrK_0]; exact hc, Fr.refl _ _⟩
  case round =>
    clear hc
    obtain ⟨k, hk, rfl, hc, hf⟩ := hrel
    have ka3 := cell_fr hf (by simp; omega) a3
    by_cases hlt : k < p3
    · have hks : k < s3.length := by have := HL.out; omega
      have hkl : k < (thrK s3 k).length := by rw [thrK_len k (by omega)]; exact hks
      obtain ⟨e0, e1⟩ := insRow_at hc.r3 hkl
      rw [thrK_at hks] at e0 e1
      obtain ⟨⟨y0, y1⟩, hy⟩ : ∃ y, s3[k] = y := ⟨_, rfl⟩
      rw [hy] at e0 e1
      simp only at e0 e1
      have HY := Lib.hid hy
      clear hy
      by_cases hj : isJ y0 = true
      · have hin := jump_in HGO.out hks (by rw [HY.out]; exact hj)
        rw [HY.out, HL.out] at hin
        simp only at hin
        obtain ⟨q0, rfl⟩ : ∃ q : Nat, y1 = (q : Int) := ⟨y1.toNat, by omega⟩
        have hq0 : q0 < p3 := by omega
        have HS := Lib.hid (fun (m : Int) (hm : thrN s3 300 (q0 : Int) = m) => thrK_set hks (i := (y0, m)) (by rw [HY.out]; unfold thrI; rw [if_pos hj, ← hm]))
        have HJ := Lib.hid hj
        have hj2 : ((y0 != 10) = false) ∨ ((y0 != 10) = true ∧ (y0 != 11) = false) := by
          by_cases h : y0 = 10
          · exact Or.inl (by simp [h])
          · refine Or.inr ⟨by simpa using h, ?_⟩
            unfold isJ at hj; simp [h] at hj; simp [hj]
        have hcs : CdRows wr (w.heap.size + 2) (.slice B2 p2 q2) (.slice (some ⟨g, 0, none⟩) p3 q3) (.slice B4 p4 q4) s2 ((thrK s3 k).set k (y0, (q0 : Int))) s4 := by
          have e := List.set_getElem_self hkl
          rw [thrK_at hks, HY.out] at e
          rw [e]; exact hc
        have HKL := Lib.hid hkl
        clear hin hj hc hkl
        rcases hj2 with hj2 | ⟨hj2, hj3⟩
        all_goals
          go_wp2_with fail
          obtain ⟨wY, hwY⟩ : ∃ wY, wY = wr.alloc (.cells #[.int .i64 y0, .int .i64 (q0 : Int)] 119) := ⟨_, rfl⟩
          have hxY : Below wr.heap.size wr wY := by rw [hwY]; exact Below.alloc (Below.refl _ _) (Nat.le_refl _) _
          have hfY : Fr [g] w3 wY := hf.trans (Fr.of_below hxY)
          have hcY := hcs.below hxY
          rw [← hwY]
          clear hwY hxY e0 e1 ka3 hf hcs
          go_loopw [6] (fun i wr => ∃ (t q : Nat), t ≤ 300 ∧ i = .int .i64 t ∧ q < p3 ∧ thrN s3 (300 - t) (q : Int) = thrN s3 300 (q0 : Int) ∧ CdRows wr (w.heap.size + 2) (.slice B2 p2 q2) (.slice (some ⟨g, 0, none⟩) p3 q3) (.slice B4 p4 q4) s2 ((thrK s3 k).set k (y0, (q : Int))) s4 ∧ Fr [g] w3 wr) (fun i _ => 300 - (intOf i).toNat)
          case atStart => exact ⟨0, q0, Nat.zero_le _, rfl, hq0, rfl, hcY, hfY⟩
          case round =>
            clear hcY hfY
            obtain ⟨t, q, ht, rfl, hq, hN0, hcq, hf3⟩ := hrel
            have hN := Lib.hid hN0
            clear hN0
            have kr3 := cell_fr hf3 (by simp; omega) r3
            have ka3 := cell_fr hf3 (by simp; omega) a3
            have HLL := Lib.hid (show k < ((thrK s3 k).set k (y0, (q : Int))).length by rw [List.length_set]; exact HKL.out)
            obtain ⟨e0, e1⟩ := insRow_at hcq.r3 HLL.out
            simp only [List.getElem_set_self] at e0 e1
            have hz1 := insRow_fz hcq.r3 (k * 2 + 1)
            obtain ⟨b, o, u0, u1, rfl, _, _, hl0, i0, i1, d0, d1⟩ := Ins_at ((h3'.fr hf3 (by omega) (by simp; omega))) hq
            have HU := Lib.hid (show insAt s3 (q : Int) = (u0, u1) by rw [insAt_eq (show q < s3.length by have := HL.out; omega)]; exact hl0)
            have hun := Lib.hid (fun (hu : u0 = 10) => jump_in HGO.out (show q < s3.length by have := HL.out; omega) (by rw [hl0]; subst hu; rfl))
            rw [hl0, HL.out] at hun
            clear hl0
            by_cases hlast : t < 300 ∧ u0 = 10
            · obtain ⟨ht3, rfl⟩ := hlast
              have hun2 := hun.out rfl
              simp only at hun2
              obtain ⟨q2', rfl⟩ : ∃ q : Nat, u1 = (q : Int) := ⟨u1.toNat, by omega⟩
              have hq2 : q2' < p3 := by omega
              have HN2 := Lib.hid (show thrN s3 (300 - (t + 1)) (q2' : Int) = thrN s3 300 (q0 : Int) by
                rw [← hN.out, show 300 - t = (300 - (t + 1)) + 1 by omega, thrN_step (by rw [HU.out]), HU.out])
              have HE := Lib.hid (show ((thrK s3 k).set k (y0, (q : Int))).set k ((((thrK s3 k).set k (y0, (q : Int)))[k]'HLL.out).1, (q2' : Int)) = (thrK s3 k).set k (y0, (q2' : Int)) by simp only [List.getElem_set_self, List.set_set])
              clear hun2 hun
              have ht4 : decide ((t : Int) < 300) = true := by simp; omega
              go_wp2_with fail
              go_region
              all_goals
                go_wp2_with fail
                go_region
                all_goals
                  go_wp2_with fail
                  go_roundw
                  case rel => exact ⟨t + 1, q2', by omega, by go_num, hq2, HN2.out, (hcq.patch HLL.out _ HE.out).below (by (repeat (first | with_reducible exact Below.refl _ _ | with_reducible assumption | with_reducible refine below_alloc ?_ _ | ((with_reducible refine Below.setCell ?_ ?_ _); rotate_left; (· first | exact Nat.le_refl _ | (simp; done) | (simp; omega))) | with_reducible refine below_drewN ?_ _ | with_reducible refine Below.drew ?_ | with_reducible refine below_then ?_ (by with_reducible assumption)))), by (repeat (first | with_reducible exact Fr.refl _ _ | with_reducible assumption | ((with_reducible refine Fr.setCell ?_ ?_ _); rotate_left; (· first | (simp; done) | assumption | (simp; assumption))) | with_reducible refine Fr.drewN ?_ _ | with_reducible refine Fr.drew ?_ | with_reducible refine Fr.alloc ?_ _ | with_reducible refine Fr.trans ?_ (Fr.of_below (by with_reducible assumption))))⟩
                  case measure => simp [intOf]; omega
            · have HD := Lib.hid (show thrN s3 300 (q0 : Int) = (q : Int) by
                rw [← hN.out]
                by_cases ht3 : t < 300
                · exact thrN_stop (by rw [HU.out]; simp only; omega)
                · rw [show 300 - t = 0 by omega]; rfl)
              have HF := Lib.hid (HS.out _ HD.out)
              clear hun
              by_cases ht3 : t < 300
              · have hu : (u0 == 10) = false := by simp; omega
                have ht4 : decide ((t : Int) < 300) = true := by simp; omega
                clear hlast
                go_wp2_with fail
                go_region
                all_goals
                  go_wp2_with fail
                  go_roundw
                  case rel => exact ⟨k + 1, by omega, by go_num, by rw [← HF.out]; exact hcq.below (by (repeat (first | with_reducible exact Below.refl _ _ | with_reducible assumption | with_reducible refine below_alloc ?_ _ | ((with_reducible refine Below.setCell ?_ ?_ _); rotate_left; (· first | exact Nat.le_refl _ | (simp; done) | (simp; omega))) | with_reducible refine below_drewN ?_ _ | with_reducible refine Below.drew ?_ | with_reducible refine below_then ?_ (by with_reducible assumption)))), by (repeat (first | with_reducible exact Fr.refl _ _ | with_reducible assumption | ((with_reducible refine Fr.setCell ?_ ?_ _); rotate_left; (· first | (simp; done) | assumption | (simp; assumption))) | with_reducible refine Fr.drewN ?_ _ | with_reducible refine Fr.drew ?_ | with_reducible refine Fr.alloc ?_ _ | with_reducible refine Fr.trans ?_ (Fr.of_below (by with_reducible assumption))))⟩
                  case measure => simp [intOf]; omega
              · have ht4 : decide ((t : Int) < 300) = false := by simp; omega
                clear hlast
                go_wp2_with fail
                go_region
                all_goals
                  go_wp2_with fail
                  go_roundw
                  case rel => exact ⟨k + 1, by omega, by go_num, by rw [← HF.out]; exact hcq.below (by (repeat (first | with_reducible exact Below.refl _ _ | with_reducible assumption | with_reducible refine below_alloc ?_ _ | ((with_reducible refine Below.setCell ?_ ?_ _); rotate_left; (· first | exact Nat.le_refl _ | (simp; done) | (simp; omega))) | with_reducible refine below_drewN ?_ _ | with_reducible refine Below.drew ?_ | with_reducible refine below_then ?_ (by with_reducible assumption)))), by (repeat (first | with_reducible exact Fr.refl _ _ | with_reducible assumption | ((with_reducible refine Fr.setCell ?_ ?_ _); rotate_left; (· first | (simp; done) | assumption | (simp; assumption))) | with_reducible refine Fr.drewN ?_ _ | with_reducible refine Fr.drew ?_ | with_reducible refine Fr.alloc ?_ _ | with_reducible refine Fr.trans ?_ (Fr.of_below (by with_reducible assumption))))⟩
                  case measure => simp [intOf]; omega
      · have hj : isJ y0 = false := by simpa using hj
        have HS := Lib.hid (thrK_skip hks (by rw [HY.out]; exact hj))
        have hj2 : (y0 != 10) = true := by unfold isJ at hj; simp at hj; simp; omega
        have hj3 : (y0 != 11) = true := by unfold isJ at hj; simp at hj; simp; omega
        clear hj
        go_wp2_with fail
        go_roundw
        case rel => exact ⟨k + 1, by omega, by go_num, by rw [HS.out]; exact hc.below (by (repeat (first | with_reducible exact Below.refl _ _ | with_reducible assumption | with_reducible refine below_alloc ?_ _ | ((with_reducible refine Below.setCell ?_ ?_ _); rotate_left; (· first | exact Nat.le_refl _ | (simp; done) | (simp; omega))) | with_reducible refine below_drewN ?_ _ | with_reducible refine Below.drew ?_ | with_reducible refine below_then ?_ (by with_reducible assumption)))), by (repeat (first | with_reducible exact Fr.refl _ _ | with_reducible assumption | ((with_reducible refine Fr.setCell ?_ ?_ _); rotate_left; (· first | (simp; done) | assumption | (simp; assumption))) | with_reducible refine Fr.drewN ?_ _ | with_reducible refine Fr.drew ?_ | with_reducible refine Fr.alloc ?_ _ | with_reducible refine Fr.trans ?_ (Fr.of_below (by with_reducible assumption))))⟩
        case measure => simp [intOf]; omega
    · have hf0 := cell_fr hf (by simp; omega) a0
      have hf1 := cell_fr hf (by simp; omega) a1
      have hf2 := cell_fr hf (by simp; omega) a2
      have hf4 := cell_fr hf (by simp; omega) a4
      have ht0 := cell_fr hf (by simp; omega) t0
      have ht1 := cell_fr hf (by simp; omega) t1
      have ht2 := cell_fr hf (by simp; omega) t2
      have ht3 := cell_fr hf (by simp; omega) t3
      have ht4 := cell_fr hf (by simp; omega) t4
      have htf : ∀ j, wr.frozen? ⟨w.heap.size + 1, j, none⟩ = false := fun j => frozen_fr hf (by simp; omega) (by omega) (tf j)
      have hfin : CdRows wr (w.heap.size + 2) (.slice B2 p2 q2) (.slice (some ⟨g, 0, none⟩) p3 q3) (.slice B4 p4 q4) s2 (s3.map (thrI s3)) s4 := by
        rw [show k = s3.length by have := HL.out; omega, thrK_all] at hc; exact hc
      have hbw : Below w.heap.size w wr := below_fr hx3 hf (by simp; omega)
      clear hc hf a0 a1 a2 a3 a4 t0 t1 t2 t3 t4 tf
      go_wp2_with fail
      refine bodyPost_ret (v := .agg #[.int .i64 x0, .int .i64 x1, .slice B2 p2 q2, .slice (some ⟨g, 0, none⟩) p3 q3, .slice B4 p4 q4]) (by simp [results, Tryz.results57, go_sem, ht0, ht1, ht2, ht3, ht4, htf]) rfl ?_
      exact ⟨_, _, _, _, _, _, _, _, _, rfl, (hfin.fr (G := [w.heap.size + 1]) (by (repeat (first | with_reducible exact Fr.refl _ _ | with_reducible assumption | ((with_reducible refine Fr.setCell ?_ ?_ _); rotate_left; (· first | (simp; done) | assumption | (simp; assumption))) | with_reducible refine Fr.drewN ?_ _ | with_reducible refine Fr.drew ?_ | with_reducible refine Fr.alloc ?_ _ | with_reducible refine Fr.trans ?_ (Fr.of_below (by with_reducible assumption))))) (by first | omega | (simp; done) | (simp; omega))).mono (by omega), by (repeat (first | with_reducible exact Below.refl _ _ | with_reducible assumption | with_reducible refine below_alloc ?_ _ | ((with_reducible refine Below.setCell ?_ ?_ _); rotate_left; (· first | exact Nat.le_refl _ | (simp; done) | (simp; omega))) | with_reducible refine below_drewN ?_ _ | with_reducible refine Below.drew ?_ | with_reducible refine below_then ?_ (by with_reducible assumption)))⟩
end Go.Proofs.YtmnkgcjbckamnaaGreat
