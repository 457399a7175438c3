/- Letting what leads to a jump lead where that leads: the program's walk. -/
import Derived.Test.YtmnkgcjbckamnaaGreatThread
import Derived.Test.YtmnkgcjbckamnaaGreatThreadP
set_option linter.unusedVariables false
set_option linter.unusedSimpArgs false
set_option maxRecDepth 100000
namespace Go.Proofs.YtmnkgcjbckamnaaGreat
open Go.RowKit
theorem frozen_fr {F : List Nat} {w w' : World} {b o : Nat} (hf : Fr F w w') (hn : ¬ b ∈ F) (hb : b < w.heap.size) (h : w.frozen? ⟨b, o, none⟩ = false) : w'.frozen? ⟨b, o, none⟩ = false := (World.frozen?_of_block (w := w) (a := ⟨b, o, none⟩) (hf.block b hb hn)).trans h
theorem insRow_fz {w : World} {b g m c : Nat} {l : List Ins} (h : InsRow w b (.slice (some ⟨g, 0, none⟩) m c) l) (j : Nat) : w.frozen? ⟨g, j, none⟩ = false := by
  obtain ⟨A', m', c', e, rfl⟩ := h.form
  injection e with e1 e2 e3
  subst e2
  exact World.ownsRow.frozenAt h j
/-- What has turned beyond what was there does not count. -/
theorem fr_new {F G : List Nat} {a b c : World} (h : Fr F a b) (k : Fr G b c) (hG : ∀ i, i ∈ G → a.heap.size ≤ i) : Fr F a c := ⟨k.os.trans h.os, k.tape.trans h.tape, k.output.trans h.output, Nat.le_trans h.size k.size, fun i hi hn => (k.block i (Nat.lt_of_lt_of_le hi h.size) (fun hm => by have := hG i hm; omega)).trans (h.block i hi hn)⟩
theorem implJumps (w : World) (op : Int) : Calls Tryz.prog 96 #[.int .i64 op] w (fun e w' => e = .returned (.bool (isJ op)) ∧ w' = w) := by
  unfold isJ
  go_enter Tryz.func96, Tryz.ntmps96
  by_cases h1 : op = 10
  · subst h1
    go_wp2_with fail
    go_ret
    exact ⟨rfl, rfl⟩
  · have h1' : (op == 10) = false := by simpa using h1
    go_wp2_with fail
    go_ret
    exact ⟨by rw [h1']; rfl, rfl⟩
set_option maxHeartbeats 8000000 in
theorem implThreaded (w : World) (lo hi : Nat) (x0 x1 : Int) (A2 A3 A4 : Option Addr) (n2 c2 n3 c3 n4 c4 : Nat) (s2 : List Int) (s3 : List Ins) (s4 : List Row) (h2 : Sl intR w lo hi A2 n2 c2 s2) (h3 : Sl InsR w lo hi A3 n3 c3 s3) (h4 : Sl RowR w lo hi A4 n4 c4 s4) (hh : hi ≤ w.heap.size) (hg : thrB (x0, x1, s2, s3, s4) = true) :
    Calls Tryz.prog 101 #[.agg #[.int .i64 x0, .int .i64 x1, .slice A2 n2 c2, .slice A3 n3 c3, .slice A4 n4 c4]] w (RetCd x0 x1 s2 (s3.map (thrI s3)) s4 w) := by
  unfold thrB at hg
  rw [Bool.and_eq_true] at hg
  have hsz := codeSz_len hg.1
  simp only at hsz hg
  obtain ⟨z2, z3, z4, zi⟩ := hsz
  have hgo := hg.2
  clear hg
  have l2 := h2.lenEq
  have l3 := h3.lenEq
  have l4 := h4.lenEq
  have hn2 : n2 ≤ 4 := by omega
  have hn3 : n3 ≤ 300 := by omega
  have hp3 : 0 < n3 := by omega
  have hn4 : n4 ≤ 300 := by omega
  have HL := Lib.hid l3
  have HGO := Lib.hid hgo
  clear hgo zi z2 z3 z4 l2 l3 l4
  go_enter Tryz.func101, Tryz.ntmps101
  go_wp2_with fail
  refine (implCloneCode _ lo hi x0 x1 A2 A3 A4 n2 c2 n3 c3 n4 c4 s2 s3 s4 (h2.below (show Below w.heap.size w _ by (repeat (first | with_reducible exact Below.refl _ _ | with_reducible assumption | with_reducible refine below_alloc ?_ _ | ((with_reducible refine Below.setCell ?_ ?_ _); rotate_left; (· first | exact Nat.le_refl _ | (simp; done) | (simp; omega))) | with_reducible refine below_drewN ?_ _ | with_reducible refine Below.drew ?_ | with_reducible refine below_then ?_ (by with_reducible assumption)))) hh) (h3.below (show Below w.heap.size w _ by (repeat (first | with_reducible exact Below.refl _ _ | with_reducible assumption | with_reducible refine below_alloc ?_ _ | ((with_reducible refine Below.setCell ?_ ?_ _); rotate_left; (· first | exact Nat.le_refl _ | (simp; done) | (simp; omega))) | with_reducible refine below_drewN ?_ _ | with_reducible refine Below.drew ?_ | with_reducible refine below_then ?_ (by with_reducible assumption)))) hh) (h4.below (show Below w.heap.size w _ by (repeat (first | with_reducible exact Below.refl _ _ | with_reducible assumption | with_reducible refine below_alloc ?_ _ | ((with_reducible refine Below.setCell ?_ ?_ _); rotate_left; (· first | exact Nat.le_refl _ | (simp; done) | (simp; omega))) | with_reducible refine below_drewN ?_ _ | with_reducible refine Below.drew ?_ | with_reducible refine below_then ?_ (by with_reducible assumption)))) hh) (by first | omega | (simp; done) | (simp; omega)) (by omega) (by omega) (by omega)).mono ?_
  rintro e w2 ⟨B2, p2, q2, B3, p3, q3, B4, p4, q4, rfl, hc, hb2⟩
  obtain ⟨hcE, hfE⟩ := bcell hb2
  have r3 : w2.cell? ⟨w.heap.size, 3, none⟩ = some (.slice A3 n3 c3) := by simp [hcE, go_sem]
  have t0 : w2.cell? ⟨w.heap.size + 1, 0, none⟩ = some (.int .i64 0) := by simp [hcE, go_sem]
  have t1 : w2.cell? ⟨w.heap.size + 1, 1, none⟩ = some (.int .i64 0) := by simp [hcE, go_sem]
  have t2 : w2.cell? ⟨w.heap.size + 1, 2, none⟩ = some (.slice none 0 0) := by simp [hcE, go_sem]
  have t3 : w2.cell? ⟨w.heap.size + 1, 3, none⟩ = some (.slice none 0 0) := by simp [hcE, go_sem]
  have t4 : w2.cell? ⟨w.heap.size + 1, 4, none⟩ = some (.slice none 0 0) := by simp [hcE, go_sem]
  have tf : ∀ j, w2.frozen? ⟨w.heap.size + 1, j, none⟩ = false := fun j => by simp [hfE, go_sem]
  have hR2 : w.heap.size + 1 < w2.heap.size := World.block_lt_of_cell? w2 _ t0
  have hx2 : Below w.heap.size w w2 := by (repeat (first | with_reducible exact Below.refl _ _ | with_reducible assumption | with_reducible refine below_alloc ?_ _ | ((with_reducible refine Below.setCell ?_ ?_ _); rotate_left; (· first | exact Nat.le_refl _ | (simp; done) | (simp; omega))) | with_reducible refine below_drewN ?_ _ | with_reducible refine Below.drew ?_ | with_reducible refine below_then ?_ (by with_reducible assumption)))
  have h3' := h3.below hx2 hh
  replace hc := hc.mono (B' := w.heap.size + 2) (by simp)
  clear hcE hfE hb2 h2 h3 h4
  obtain ⟨g, cap, hv⟩ := insRow_some hc.r3 (by have := HL.out; omega)
  injection hv with hv1 hv2 hv3
  subst hv1
  obtain rfl : p3 = n3 := by have := HL.out; omega
  clear hv2 hv3
  have hgB := (World.ownsRow.lt hc.r3 g rfl)
  have hgw : w.heap.size + 2 ≤ g ∧ g < w2.heap.size := by omega
  clear hgB
  go_wp2_with fail
  obtain ⟨w3, hw3⟩ : ∃ w3, w3 = w2.alloc (.cells #[.int .i64 x0, .int .i64 x1, .slice B2 p2 q2, .slice (some ⟨g, 0, none⟩) p3 q3, .slice B4 p4 q4] 30) := ⟨_, rfl⟩
  have a3 : w3.cell? ⟨w2.heap.size, 3, none⟩ = some (.slice (some ⟨g, 0, none⟩) p3 q3) := by rw [hw3]; simp [go_sem]
  have a0 : w3.cell? ⟨w2.heap.size, 0, none⟩ = some (.int .i64 x0) := by rw [hw3]; simp [go_sem]
  have a1 : w3.cell? ⟨w2.heap.size, 1, none⟩ = some (.int .i64 x1) := by rw [hw3]; simp [go_sem]
  have a2 : w3.cell? ⟨w2.heap.size, 2, none⟩ = some (.slice B2 p2 q2) := by rw [hw3]; simp [go_sem]
  have a4 : w3.cell? ⟨w2.heap.size, 4, none⟩ = some (.slice B4 p4 q4) := by rw [hw3]; simp [go_sem]
  have hx23 : Below w2.heap.size w2 w3 := by rw [hw3]; exact Below.alloc (Below.refl _ _) (Nat.le_refl _) _
  have hX3 : w2.heap.size < w3.heap.size := World.block_lt_of_cell? w3 _ a0
  replace r3 := below_cell hx23 r3
  replace t0 := below_cell hx23 t0
  replace t1 := below_cell hx23 t1
  replace t2 := below_cell hx23 t2
  replace t3 := below_cell hx23 t3
  replace t4 := below_cell hx23 t4
  replace tf : ∀ j, w3.frozen? ⟨w.heap.size + 1, j, none⟩ = false := fun j => below_frozen hx23 hR2 (tf j)
  replace hc := hc.below hx23
  replace h3' := h3'.below hx23 (by omega)
  have hx3 := below_then hx2 hx23
  obtain ⟨X, hX⟩ : ∃ X, X = w2.heap.size := ⟨_, rfl⟩
  rw [← hX] at a0 a1 a2 a3 a4 hX3 hR2 hgw ⊢
  rw [← hw3]
  clear hw3 hx23 hx2 hX
  go_loopw [12] (fun i wr => ∃ (k : Nat), k ≤ p3 ∧ i = .int .i64 k ∧ CdRows wr (w.heap.size + 2) (.slice B2 p2 q2) (.slice (some ⟨g, 0, none⟩) p3 q3) (.slice B4 p4 q4) s2 (thrK s3 k) s4 ∧ Fr [g] w3 wr) (fun i _ => p3 - (intOf i).toNat)
  case atStart => exact ⟨0, Nat.zero_le _, rfl, by rw [thrK_0]; exact hc, Fr.refl _ _⟩
  case round =>
    clear hc
    obtain ⟨k, hk, rfl, hc, hf⟩ := hrel
    have ka3 := cell_fr hf (by simp; omega) a3
    by_cases hlt : k < p3
    · have hks : k < s3.length := by have := HL.out; omega
      obtain ⟨e0, e1⟩ := insRow_at hc.r3 (show k < (thrK s3 k).length by rw [thrK_len k (by omega)]; exact hks)
      rw [thrK_at hks] at e0 e1
      obtain ⟨⟨y0, y1⟩, hy⟩ : ∃ y, s3[k] = y := ⟨_, rfl⟩
      rw [hy] at e0 e1
      simp only at e0 e1
      have HY := Lib.hid hy
      clear hy
      by_cases hj : isJ y0 = true
      · have hin := jump_in HGO.out hks (by rw [HY.out]; exact hj)
        rw [HY.out, HL.out] at hin
        simp only at hin
        obtain ⟨q0, rfl⟩ : ∃ q : Nat, y1 = (q : Int) := ⟨y1.toNat, by omega⟩
        have hq0 : q0 < p3 := by omega
        have HS := Lib.hid (fun (m : Int) (hm : thrN s3 300 (q0 : Int) = m) => thrK_set hks (i := (y0, m)) (by rw [HY.out]; unfold thrI; rw [if_pos hj, ← hm]))
        clear hin
        go_wp2_with fail
        refine (implJumps _ _).mono ?_
        rintro e w5 ⟨rfl, rfl⟩
        rw [hj]
        go_wp2_with fail
        obtain ⟨wY, hwY⟩ : ∃ wY, wY = wr.alloc (.cells #[.int .i64 y0, .int .i64 (q0 : Int)] 119) := ⟨_, rfl⟩
        have f0 : wY.cell? ⟨wr.heap.size, 0, none⟩ = some (.int .i64 y0) := by rw [hwY]; simp [go_sem]
        have f1 : wY.cell? ⟨wr.heap.size, 1, none⟩ = some (.int .i64 (q0 : Int)) := by rw [hwY]; simp [go_sem]
        have ff : wY.frozen? ⟨wr.heap.size, 1, none⟩ = false := by rw [hwY]; simp [go_sem]
        have hxY : Below wr.heap.size wr wY := by rw [hwY]; exact Below.alloc (Below.refl _ _) (Nat.le_refl _) _
        have hYs : wr.heap.size < wY.heap.size := World.block_lt_of_cell? wY _ f0
        have hfY : Fr [g] w3 wY := hf.trans (Fr.of_below hxY)
        have hf3 := hf.size
        obtain ⟨Y, hY⟩ : ∃ Y, wr.heap.size = Y := ⟨_, rfl⟩
        have hY0 : Fr [Y] wr wY := Fr.of_below hxY
        rw [hY] at f0 f1 ff hYs ⊢
        rw [← hwY]
        have hY3 : w3.heap.size ≤ Y := by omega
        clear hwY hxY hf3 e0 e1 ka3 hf
        go_loopw [6] (fun i wq => ∃ (t q : Nat), t ≤ 300 ∧ i = .int .i64 t ∧ q < p3 ∧ thrN s3 (300 - t) (q : Int) = thrN s3 300 (q0 : Int) ∧ wq.cell? ⟨Y, 0, none⟩ = some (.int .i64 y0) ∧ wq.cell? ⟨Y, 1, none⟩ = some (.int .i64 (q : Int)) ∧ wq.frozen? ⟨Y, 1, none⟩ = false ∧ Fr [Y] wY wq) (fun i _ => 300 - (intOf i).toNat)
        case atStart => exact ⟨0, q0, Nat.zero_le _, rfl, hq0, rfl, f0, f1, ff, Fr.refl _ _⟩
        case round =>
          clear f0 f1 ff
          obtain ⟨t, q, ht, rfl, hq, hN0, f0, f1, ff, hfq⟩ := hrel
          have hN := Lib.hid hN0
          clear hN0
          have hcq := hc.fr (hY0.trans hfq) (by first | omega | (simp; done) | (simp; omega))
          have hf3 : Fr [g, Y] w3 wr := (hfY.more (by simp) : Fr [g, Y] w3 wY).trans (hfq.more (by simp))
          have kr3 := cell_fr hf3 (by simp; omega) r3
          have ka3 := cell_fr hf3 (by simp; omega) a3
          obtain ⟨b, o, u0, u1, rfl, _, _, hl0, i0, i1, d0, d1⟩ := Ins_at ((h3'.fr hf3 (by omega) (by simp; omega))) hq
          have HU := Lib.hid (show insAt s3 (q : Int) = (u0, u1) by rw [insAt_eq (show q < s3.length by have := HL.out; omega)]; exact hl0)
          have hun := Lib.hid (fun (hu : u0 = 10) => jump_in HGO.out (show q < s3.length by have := HL.out; omega) (by rw [hl0]; subst hu; rfl))
          rw [hl0, HL.out] at hun
          clear hl0
          by_cases hlast : t < 300 ∧ u0 = 10
          · obtain ⟨ht3, rfl⟩ := hlast
            have hun2 := hun.out rfl
            simp only at hun2
            obtain ⟨q2', rfl⟩ : ∃ q : Nat, u1 = (q : Int) := ⟨u1.toNat, by omega⟩
            have hq2 : q2' < p3 := by omega
            have HN2 := Lib.hid (show thrN s3 (300 - (t + 1)) (q2' : Int) = thrN s3 300 (q0 : Int) by
              rw [← hN.out, show 300 - t = (300 - (t + 1)) + 1 by omega, thrN_step (by rw [HU.out]), HU.out])
            clear hun2 hun
            go_wp2_with fail
            go_roundw
            case rel => exact ⟨t + 1, q2', by omega, by go_num, hq2, HN2.out, by simp [go_sem, f0], by simp [go_sem, f1], by simp [go_sem, ff], by (repeat (first | with_reducible exact Fr.refl _ _ | with_reducible assumption | ((with_reducible refine Fr.setCell ?_ ?_ _); rotate_left; (· first | (simp; done) | assumption | (simp; assumption))) | with_reducible refine Fr.drewN ?_ _ | with_reducible refine Fr.drew ?_ | with_reducible refine Fr.alloc ?_ _ | with_reducible refine Fr.trans ?_ (Fr.of_below (by with_reducible assumption))))⟩
            case measure => simp [intOf]; omega
          · have HD := Lib.hid (show thrN s3 300 (q0 : Int) = (q : Int) by
              rw [← hN.out]
              by_cases ht3 : t < 300
              · exact thrN_stop (by rw [HU.out]; simp only; omega)
              · rw [show 300 - t = 0 by omega]; rfl)
            have hnew := ins_put hcq.r3 (show k < (thrK s3 k).length by rw [thrK_len k (by omega)]; exact hks) y0 (q : Int)
            obtain ⟨e0, e1⟩ := insRow_at hcq.r3 (show k < (thrK s3 k).length by rw [thrK_len k (by omega)]; exact hks)
            have hz0 := insRow_fz hcq.r3 (k * 2)
            have hz1 := insRow_fz hcq.r3 (k * 2 + 1)
            rw [HS.out _ HD.out] at hnew
            have hgY : ¬ g = Y := by omega
            have hc2 := hcq.put hnew (Fr.setCell (Fr.setCell (Fr.refl _ _) (by simp [Value.ownBlock]) _) (by simp [Value.ownBlock]) _)
            have hfin : Fr [g] w3 ((wr.setCell ⟨g, k * 2, none⟩ (.int .i64 y0)).setCell ⟨g, k * 2 + 1, none⟩ (.int .i64 (q : Int))) := Fr.setCell (Fr.setCell (fr_new hfY hfq (by first | omega | (simp; done) | (simp; omega))) (by simp) _) (by simp) _
            clear hnew hcq hun
            by_cases ht3 : t < 300
            · have hu : (u0 == 10) = false := by simp; omega
              have ht4 : decide ((t : Int) < 300) = true := by simp; omega
              clear hlast
              go_wp2_with fail
              go_roundw
              case rel => exact ⟨k + 1, by omega, by go_num, hc2, hfin⟩
              case measure => simp [intOf]; omega
            · have ht4 : decide ((t : Int) < 300) = false := by simp; omega
              clear hlast
              go_wp2_with fail
              go_roundw
              case rel => exact ⟨k + 1, by omega, by go_num, hc2, hfin⟩
              case measure => simp [intOf]; omega
      · have hj : isJ y0 = false := by simpa using hj
        have HS := Lib.hid (thrK_skip hks (by rw [HY.out]; exact hj))
        go_wp2_with fail
        refine (implJumps _ _).mono ?_
        rintro e w5 ⟨rfl, rfl⟩
        rw [hj]
        go_wp2_with fail
        go_roundw
        case rel => exact ⟨k + 1, by omega, by go_num, by rw [HS.out]; exact hc.below (by (repeat (first | with_reducible exact Below.refl _ _ | with_reducible assumption | with_reducible refine below_alloc ?_ _ | ((with_reducible refine Below.setCell ?_ ?_ _); rotate_left; (· first | exact Nat.le_refl _ | (simp; done) | (simp; omega))) | with_reducible refine below_drewN ?_ _ | with_reducible refine Below.drew ?_ | with_reducible refine below_then ?_ (by with_reducible assumption)))), by (repeat (first | with_reducible exact Fr.refl _ _ | with_reducible assumption | ((with_reducible refine Fr.setCell ?_ ?_ _); rotate_left; (· first | (simp; done) | assumption | (simp; assumption))) | with_reducible refine Fr.drewN ?_ _ | with_reducible refine Fr.drew ?_ | with_reducible refine Fr.alloc ?_ _ | with_reducible refine Fr.trans ?_ (Fr.of_below (by with_reducible assumption))))⟩
        case measure => simp [intOf]; omega
    · have hf0 := cell_fr hf (by simp; omega) a0
      have hf1 := cell_fr hf (by simp; omega) a1
      have hf2 := cell_fr hf (by simp; omega) a2
      have hf4 := cell_fr hf (by simp; omega) a4
      have ht0 := cell_fr hf (by simp; omega) t0
      have ht1 := cell_fr hf (by simp; omega) t1
      have ht2 := cell_fr hf (by simp; omega) t2
      have ht3 := cell_fr hf (by simp; omega) t3
      have ht4 := cell_fr hf (by simp; omega) t4
      have htf : ∀ j, wr.frozen? ⟨w.heap.size + 1, j, none⟩ = false := fun j => frozen_fr hf (by simp; omega) (by omega) (tf j)
      have hfin : CdRows wr (w.heap.size + 2) (.slice B2 p2 q2) (.slice (some ⟨g, 0, none⟩) p3 q3) (.slice B4 p4 q4) s2 (s3.map (thrI s3)) s4 := by
        rw [show k = s3.length by have := HL.out; omega, thrK_all] at hc; exact hc
      have hbw : Below w.heap.size w wr := below_fr hx3 hf (by simp; omega)
      clear hc hf a0 a1 a2 a3 a4 t0 t1 t2 t3 t4 tf
      go_wp2_with fail
      refine bodyPost_ret (v := .agg #[.int .i64 x0, .int .i64 x1, .slice B2 p2 q2, .slice (some ⟨g, 0, none⟩) p3 q3, .slice B4 p4 q4]) (by simp [results, Tryz.results101, go_sem, ht0, ht1, ht2, ht3, ht4, htf]) rfl ?_
      exact ⟨_, _, _, _, _, _, _, _, _, rfl, (hfin.fr (G := [w.heap.size + 1]) (by (repeat (first | with_reducible exact Fr.refl _ _ | with_reducible assumption | ((with_reducible refine Fr.setCell ?_ ?_ _); rotate_left; (· first | (simp; done) | assumption | (simp; assumption))) | with_reducible refine Fr.drewN ?_ _ | with_reducible refine Fr.drew ?_ | with_reducible refine Fr.alloc ?_ _ | with_reducible refine Fr.trans ?_ (Fr.of_below (by with_reducible assumption))))) (by first | omega | (simp; done) | (simp; omega))).mono (by omega), by (repeat (first | with_reducible exact Below.refl _ _ | with_reducible assumption | with_reducible refine below_alloc ?_ _ | ((with_reducible refine Below.setCell ?_ ?_ _); rotate_left; (· first | exact Nat.le_refl _ | (simp; done) | (simp; omega))) | with_reducible refine below_drewN ?_ _ | with_reducible refine Below.drew ?_ | with_reducible refine below_then ?_ (by with_reducible assumption)))⟩
end Go.Proofs.YtmnkgcjbckamnaaGreat
