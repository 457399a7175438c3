/- A new frame: the program's walk. -/
import Derived.Test.YtgdeclmciflmpaaGreatNewF
import Derived.Deep.RegionHeld3
import Derived.Laws.IdiomCopy
set_option linter.unusedVariables false
set_option linter.unusedSimpArgs false
set_option maxRecDepth 100000
namespace Go.Proofs.YtgdeclmciflmpaaGreat
open Go.RowKit
theorem ele_cells {w : World} {b : Nat} {v0 v1 v2 v3 v4 v5 v6 v7 v8 v9 v10 : Value} {t : TypeId} (h : w.heap[b]? = some (.cells #[v0, v1, v2, v3, v4, v5, v6, v7, v8, v9, v10] t)) : w.cell? ⟨b, 0, none⟩ = some v0 ∧ w.cell? ⟨b, 1, none⟩ = some v1 ∧ w.cell? ⟨b, 2, none⟩ = some v2 ∧ w.cell? ⟨b, 3, none⟩ = some v3 ∧ w.cell? ⟨b, 4, none⟩ = some v4 ∧ w.cell? ⟨b, 5, none⟩ = some v5 ∧ w.cell? ⟨b, 6, none⟩ = some v6 ∧ w.cell? ⟨b, 7, none⟩ = some v7 ∧ w.cell? ⟨b, 8, none⟩ = some v8 ∧ w.cell? ⟨b, 9, none⟩ = some v9 ∧ w.cell? ⟨b, 10, none⟩ = some v10 := by
  refine ⟨?_, ?_, ?_, ?_, ?_, ?_, ?_, ?_, ?_, ?_, ?_⟩ <;> (rw [cell_of_row _ _ _ _ _ _ h]; rfl)
theorem FrRows.fr2 {w w' : World} {G : List Nat} {b : Nat} {v4 v5 : Value} {l4 : List Int} {l5 : List Bool} (h : FrRows w b v4 v5 l4 l5) (hf : Fr G w w') (hG : ∀ g, g ∈ G → g < b ∨ (¬ v4.ownBlock = some g ∧ ¬ v5.ownBlock = some g)) : FrRows w' b v4 v5 l4 l5 :=
  ⟨h.1.keepR fun k h1 h2 h3 => hf.block k h2 (fun hk => by rcases hG k hk with h | ⟨h, _⟩ <;> first | omega | exact h h3), h.2.1.keepR fun k h1 h2 h3 => hf.block k h2 (fun hk => by rcases hG k hk with h | ⟨_, h⟩ <;> first | omega | exact h h3), h.2.2⟩
theorem frozen_row {w : World} {b : Nat} {cs : Array Value} {t : TypeId} (h : w.heap[b]? = some (.cells cs t)) (j : Nat) : w.frozen? ⟨b, j, none⟩ = false := by simp [World.frozen?, h]
theorem blk_lt {w : World} {b : Nat} {o : Obj} (h : w.heap[b]? = some o) : b < w.heap.size := (Array.getElem?_eq_some_iff.1 h).1
set_option maxHeartbeats 16000000 in
theorem implNewFrame0 (w : World) (lo hi : Nat) (A : Option Addr) (n c : Nat) (x : List Code) (k : Int) (j : Nat) (b : Bool) (h : Sl CodeR w lo hi A n c x) (hh : hi ≤ w.heap.size) (hj : j < n) (hz : codeSz (x[j]'(by have := h.lenEq; omega)) = true) :
    Calls Tryz.prog 49 #[.agg #[.slice A n c], .int .i64 k, .int .i64 j, .slice none 0 0, .bool b] w (RetFr k j 0 (x[j]'(by have := h.lenEq; omega)).2.1.toNat (x[j]'(by have := h.lenEq; omega)).2.2.1.length b w) := by
  have hjx : j < x.length := by have := h.lenEq; omega
  obtain ⟨b0, o0, x0, x1, A2, n2, c2, s2, A3, n3, c3, s3, A4, n4, c4, s4, rfl, _, hbb, hl, i0, i1, h2, h3, h4, d0, d1, d2, d3, d4⟩ := Code_at h hj
  rw [hl] at hz ⊢
  have hzz := codeSz_all hz
  simp only at hzz ⊢
  rw [h2.lenEq] at hzz ⊢
  obtain ⟨⟨z1, z2⟩, ⟨z3, z4⟩, z5, _⟩ := hzz
  obtain ⟨m, rfl⟩ := Int.eq_ofNat_of_zero_le (show 0 ≤ x1 by omega)
  rw [show ((m : Int)).toNat = m from rfl]
  have hm : m ≤ 6 := by omega
  clear hl hz h3 h4 z1 z2 z3 z4 h2
  have hbw : b0 < w.heap.size := by omega
  have HSZ := Lib.hid (show (Tryz.prog.info? 3).map (·.size) = some 1 by obtain ⟨i0, hi0, _, hz1, _⟩ := info_parts Tryz.infoInt; rw [hi0]; simp [hz1])
  go_enter Tryz.func49, Tryz.ntmps49
  go_wp2_with fail
  obtain ⟨W, hW⟩ : ∃ W, W = ((w.alloc (.cells #[.slice (some ⟨b0, o0, none⟩) n c] 35)).alloc (.cells #[.int .i64 0, .int .i64 0, .int .i64 0, .slice none 0 0, .slice none 0 0, .slice none 0 0, .int .i64 0, .int .i64 0, .int .i64 0, .int .i64 0, .bool false] 74)).alloc (.cells #[.int .i64 x0, .int .i64 m, .slice A2 n2 c2, .slice A3 n3 c3, .slice A4 n4 c4] 78) := ⟨_, rfl⟩
  have hbW : Below w.heap.size w W := by rw [hW]; exact belA
  have hzW0 : W.heap.size = w.heap.size + 3 := by rw [hW]; simp
  have hS := Lib.hid (show ∀ V, Below W.heap.size W V → V.cell? ⟨w.heap.size + 2, 1, none⟩ = some (.int .i64 m) ∧ V.cell? ⟨w.heap.size + 2, 2, none⟩ = some (.slice A2 n2 c2) from fun V hV => by
    refine ⟨below_cell hV ?_, below_cell hV ?_⟩ <;> (rw [hW]; simp [go_sem]))
  have hT := Lib.hid (show ∀ V, Below W.heap.size W V → V.cell? ⟨w.heap.size + 1, 0, none⟩ = some (.int .i64 0) ∧ V.cell? ⟨w.heap.size + 1, 1, none⟩ = some (.int .i64 0) ∧ V.cell? ⟨w.heap.size + 1, 2, none⟩ = some (.int .i64 0) ∧ V.cell? ⟨w.heap.size + 1, 3, none⟩ = some (.slice none 0 0) ∧ V.cell? ⟨w.heap.size + 1, 4, none⟩ = some (.slice none 0 0) ∧ V.cell? ⟨w.heap.size + 1, 5, none⟩ = some (.slice none 0 0) ∧ V.cell? ⟨w.heap.size + 1, 6, none⟩ = some (.int .i64 0) ∧ V.cell? ⟨w.heap.size + 1, 7, none⟩ = some (.int .i64 0) ∧ V.cell? ⟨w.heap.size + 1, 8, none⟩ = some (.int .i64 0) ∧ V.cell? ⟨w.heap.size + 1, 9, none⟩ = some (.int .i64 0) ∧ V.cell? ⟨w.heap.size + 1, 10, none⟩ = some (.bool false) from fun V hV => by
    refine ⟨below_cell hV ?_, below_cell hV ?_, below_cell hV ?_, below_cell hV ?_, below_cell hV ?_, below_cell hV ?_, below_cell hV ?_, below_cell hV ?_, below_cell hV ?_, below_cell hV ?_, below_cell hV ?_⟩ <;> (rw [hW]; simp [go_sem]))
  have xf := Lib.hid (show ∀ V, Below W.heap.size W V → ∀ j, V.frozen? ⟨w.heap.size + 1, j, none⟩ = false from fun V hV j => below_frozen hV (show w.heap.size + 1 < W.heap.size by omega) (by rw [hW]; simp [go_sem]))
  rw [← hW]
  clear hW
  have hzW : w.heap.size + 3 ≤ W.heap.size := by omega
  clear hzW0
  go_region_held3 (fun V => V.cell? ⟨w.heap.size + 2, 1, none⟩ = some (.int .i64 m) ∧ V.cell? ⟨w.heap.size + 2, 2, none⟩ = some (.slice A2 n2 c2)) (first | (refine ⟨?_, ?_⟩ <;> simp [go_sem, q0, q1]) | exact hS.out _ (show Below W.heap.size W _ by exact beloA))
    (first
      | (refine upon_makeInts W (by exact belA) m (by omega) ?_; intro w4 g4 e4 r4 k4 b4 z4; have s4 := b4.size; obtain ⟨q0, q1⟩ := hS.out w4 b4; obtain ⟨t0, t1, t2, t3, t4, t5, t6, t7, t8, t9, t10⟩ := hT.out w4 b4; have xg := xf.out w4 b4; (first | (have xa := (k4.out _ (by simp)).trans (alloc_new' rfl)) | (have xa := (k4.out _ (by first | omega | exact blk_lt xa)).trans xa) | skip); (try (obtain ⟨u0, u1, u2, u3, u4, u5, u6, u7, u8, u9, u10⟩ := ele_cells xa; have xu := frozen_row xa)))
      | (refine upon_makeBools W (by exact belA) n2 (by omega) ?_; intro w5 g5 e5 r5 k5 b5 z5; have s5 := b5.size; obtain ⟨q0, q1⟩ := hS.out w5 b5; obtain ⟨t0, t1, t2, t3, t4, t5, t6, t7, t8, t9, t10⟩ := hT.out w5 b5; have xg := xf.out w5 b5; (first | (have xa := (k5.out _ (by simp)).trans (alloc_new' rfl)) | (have xa := (k5.out _ (by first | omega | exact blk_lt xa)).trans xa) | skip); (try (obtain ⟨u0, u1, u2, u3, u4, u5, u6, u7, u8, u9, u10⟩ := ele_cells xa; have xu := frozen_row xa))))
  -- LEAVES
  · have y4 := (World.ownsRow.lt r4 g4 rfl).2
    have y5 := (World.ownsRow.lt r5 g5 rfl).2
    have y4' := (World.ownsRow.lt r4 g4 rfl).1
    have y5' := (World.ownsRow.lt r5 g5 rfl).1
    have e4 := e4.out
    have e5 := e5.out
    (try simp only [heap_drew, size_alloc] at e4 e5 z4 z5)
    have hne : ¬ g4 = g5 := by omega
    have hB1 : ¬ g4 = w5.heap.size := by omega
    have hB2 : ¬ g5 = w5.heap.size := by omega
    have hB3 : w.heap.size + 1 < w5.heap.size := by omega
    have hB4 : w5.heap.size ≤ w5.heap.size := by omega
    have hc : FrRows w5 W.heap.size (.slice (some ⟨g4, 0, none⟩) m m) (.slice (some ⟨g5, 0, none⟩) n2 n2) (List.replicate m 0) (List.replicate n2 false) := ⟨r4.keepR fun k h1 h2 _ => (k5.out k (by (try simp only [heap_drew, size_alloc]); omega)).trans (by first | rfl | exact alloc_lt (by omega)), r5, fun g h1 h2 => by simp [Value.ownBlock] at h1 h2; omega⟩
    have hb4 : Below w.heap.size w w5 := hbW.trans (b5.mono (by omega))
    have hq1 : w.heap.size + 1 < w5.heap.size := by omega
    have hcp := fun w : World => run_copy_none (P := Tryz.prog) w 25 25 3 3 (some ⟨g4, 0, none⟩) none m m 0 0 Tryz.underlying25 HSZ.out (by simp)
    clear r4 r5 e4 e5 k4 k5 hS hT xf
    go_wp2_with fail
    refine bodyPost_ret (v := .agg #[.int .i64 k, .int .i64 j, .int .i64 0, .slice none 0 0, .slice (some ⟨g4, 0, none⟩) m m, .slice (some ⟨g5, 0, none⟩) n2 n2, .int .i64 0, .int .i64 0, .int .i64 0, .int .i64 1, .bool b]) (by simp [results, Tryz.results49, go_sem, t0, t1, t2, t3, t4, t5, t6, t7, t8, t9, t10, xg, hq1]) rfl ?_
    refine ⟨_, _, _, _, _, _, rfl, (hc.fr2 (G := [w.heap.size + 1, w5.heap.size]) (by exact frcA) (by intro g hg; simp only [List.mem_cons, List.mem_nil_iff, or_false] at hg; simp [Value.ownBlock]; omega)).mono (by omega), ?_⟩
    exact beloA
  · have y4 := (World.ownsRow.lt r4 g4 rfl).2
    have y5 := (World.ownsRow.lt r5 g5 rfl).2
    have y4' := (World.ownsRow.lt r4 g4 rfl).1
    have y5' := (World.ownsRow.lt r5 g5 rfl).1
    have e4 := e4.out
    have e5 := e5.out
    (try simp only [heap_drew, size_alloc] at e4 e5 z4 z5)
    have hne : ¬ g4 = g5 := by omega
    have hB1 : ¬ g4 = w4.heap.size := by omega
    have hB2 : ¬ g5 = w4.heap.size := by omega
    have hB3 : w.heap.size + 1 < w4.heap.size := by omega
    have hB4 : w4.heap.size ≤ w5.heap.size := by omega
    have hc : FrRows w5 W.heap.size (.slice (some ⟨g4, 0, none⟩) m m) (.slice (some ⟨g5, 0, none⟩) n2 n2) (List.replicate m 0) (List.replicate n2 false) := ⟨r4.keepR fun k h1 h2 _ => (k5.out k (by (try simp only [heap_drew, size_alloc]); omega)).trans (by first | rfl | exact alloc_lt (by omega)), r5, fun g h1 h2 => by simp [Value.ownBlock] at h1 h2; omega⟩
    have hb4 : Below w.heap.size w w5 := hbW.trans (b5.mono (by omega))
    have hq1 : w.heap.size + 1 < w5.heap.size := by omega
    have hcp := fun w : World => run_copy_none (P := Tryz.prog) w 25 25 3 3 (some ⟨g4, 0, none⟩) none m m 0 0 Tryz.underlying25 HSZ.out (by simp)
    clear r4 r5 e4 e5 k4 k5 hS hT xf
    go_wp2_with fail
    refine bodyPost_ret (v := .agg #[.int .i64 k, .int .i64 j, .int .i64 0, .slice none 0 0, .slice (some ⟨g4, 0, none⟩) m m, .slice (some ⟨g5, 0, none⟩) n2 n2, .int .i64 0, .int .i64 0, .int .i64 0, .int .i64 1, .bool b]) (by simp [results, Tryz.results49, go_sem, t0, t1, t2, t3, t4, t5, t6, t7, t8, t9, t10, xg, hq1]) rfl ?_
    refine ⟨_, _, _, _, _, _, rfl, (hc.fr2 (G := [w.heap.size + 1, w4.heap.size]) (by exact frcA) (by intro g hg; simp only [List.mem_cons, List.mem_nil_iff, or_false] at hg; simp [Value.ownBlock]; omega)).mono (by omega), ?_⟩
    exact beloA
  · have y4 := (World.ownsRow.lt r4 g4 rfl).2
    have y5 := (World.ownsRow.lt r5 g5 rfl).2
    have y4' := (World.ownsRow.lt r4 g4 rfl).1
    have y5' := (World.ownsRow.lt r5 g5 rfl).1
    have e4 := e4.out
    have e5 := e5.out
    (try simp only [heap_drew, size_alloc] at e4 e5 z4 z5)
    have hne : ¬ g4 = g5 := by omega
    have hB1 : ¬ g4 = w4.heap.size := by omega
    have hB2 : ¬ g5 = w4.heap.size := by omega
    have hB3 : w.heap.size + 1 < w4.heap.size := by omega
    have hB4 : w4.heap.size ≤ w4.heap.size := by omega
    have hc : FrRows w4 W.heap.size (.slice (some ⟨g4, 0, none⟩) m m) (.slice (some ⟨g5, 0, none⟩) n2 n2) (List.replicate m 0) (List.replicate n2 false) := ⟨r4, r5.keepR fun k h1 h2 _ => (k4.out k (by (try simp only [heap_drew, size_alloc]); omega)).trans (by first | rfl | exact alloc_lt (by omega)), fun g h1 h2 => by simp [Value.ownBlock] at h1 h2; omega⟩
    have hb4 : Below w.heap.size w w4 := hbW.trans (b4.mono (by omega))
    have hq1 : w.heap.size + 1 < w4.heap.size := by omega
    have hcp := fun w : World => run_copy_none (P := Tryz.prog) w 25 25 3 3 (some ⟨g4, 0, none⟩) none m m 0 0 Tryz.underlying25 HSZ.out (by simp)
    clear r4 r5 e4 e5 k4 k5 hS hT xf
    go_wp2_with fail
    refine bodyPost_ret (v := .agg #[.int .i64 k, .int .i64 j, .int .i64 0, .slice none 0 0, .slice (some ⟨g4, 0, none⟩) m m, .slice (some ⟨g5, 0, none⟩) n2 n2, .int .i64 0, .int .i64 0, .int .i64 0, .int .i64 1, .bool b]) (by simp [results, Tryz.results49, go_sem, t0, t1, t2, t3, t4, t5, t6, t7, t8, t9, t10, xg, hq1]) rfl ?_
    refine ⟨_, _, _, _, _, _, rfl, (hc.fr2 (G := [w.heap.size + 1, w4.heap.size]) (by exact frcA) (by intro g hg; simp only [List.mem_cons, List.mem_nil_iff, or_false] at hg; simp [Value.ownBlock]; omega)).mono (by omega), ?_⟩
    exact beloA
  · have y4 := (World.ownsRow.lt r4 g4 rfl).2
    have y5 := (World.ownsRow.lt r5 g5 rfl).2
    have y4' := (World.ownsRow.lt r4 g4 rfl).1
    have y5' := (World.ownsRow.lt r5 g5 rfl).1
    have e4 := e4.out
    have e5 := e5.out
    (try simp only [heap_drew, size_alloc] at e4 e5 z4 z5)
    have hne : ¬ g4 = g5 := by omega
    have hB1 : ¬ g4 = w5.heap.size := by omega
    have hB2 : ¬ g5 = w5.heap.size := by omega
    have hB3 : w.heap.size + 1 < w5.heap.size := by omega
    have hB4 : w5.heap.size ≤ w4.heap.size := by omega
    have hc : FrRows w4 W.heap.size (.slice (some ⟨g4, 0, none⟩) m m) (.slice (some ⟨g5, 0, none⟩) n2 n2) (List.replicate m 0) (List.replicate n2 false) := ⟨r4, r5.keepR fun k h1 h2 _ => (k4.out k (by (try simp only [heap_drew, size_alloc]); omega)).trans (by first | rfl | exact alloc_lt (by omega)), fun g h1 h2 => by simp [Value.ownBlock] at h1 h2; omega⟩
    have hb4 : Below w.heap.size w w4 := hbW.trans (b4.mono (by omega))
    have hq1 : w.heap.size + 1 < w4.heap.size := by omega
    have hcp := fun w : World => run_copy_none (P := Tryz.prog) w 25 25 3 3 (some ⟨g4, 0, none⟩) none m m 0 0 Tryz.underlying25 HSZ.out (by simp)
    clear r4 r5 e4 e5 k4 k5 hS hT xf
    go_wp2_with fail
    refine bodyPost_ret (v := .agg #[.int .i64 k, .int .i64 j, .int .i64 0, .slice none 0 0, .slice (some ⟨g4, 0, none⟩) m m, .slice (some ⟨g5, 0, none⟩) n2 n2, .int .i64 0, .int .i64 0, .int .i64 0, .int .i64 1, .bool b]) (by simp [results, Tryz.results49, go_sem, t0, t1, t2, t3, t4, t5, t6, t7, t8, t9, t10, xg, hq1]) rfl ?_
    refine ⟨_, _, _, _, _, _, rfl, (hc.fr2 (G := [w.heap.size + 1, w5.heap.size]) (by exact frcA) (by intro g hg; simp only [List.mem_cons, List.mem_nil_iff, or_false] at hg; simp [Value.ownBlock]; omega)).mono (by omega), ?_⟩
    exact beloA
  · have y4 := (World.ownsRow.lt r4 g4 rfl).2
    have y5 := (World.ownsRow.lt r5 g5 rfl).2
    have y4' := (World.ownsRow.lt r4 g4 rfl).1
    have y5' := (World.ownsRow.lt r5 g5 rfl).1
    have e4 := e4.out
    have e5 := e5.out
    (try simp only [heap_drew, size_alloc] at e4 e5 z4 z5)
    have hne : ¬ g4 = g5 := by omega
    have hB1 : ¬ g4 = W.heap.size := by omega
    have hB2 : ¬ g5 = W.heap.size := by omega
    have hB3 : w.heap.size + 1 < W.heap.size := by omega
    have hB4 : W.heap.size ≤ w5.heap.size := by omega
    have hc : FrRows w5 W.heap.size (.slice (some ⟨g4, 0, none⟩) m m) (.slice (some ⟨g5, 0, none⟩) n2 n2) (List.replicate m 0) (List.replicate n2 false) := ⟨r4.keepR fun k h1 h2 _ => (k5.out k (by (try simp only [heap_drew, size_alloc]); omega)).trans (by first | rfl | exact alloc_lt (by omega)), r5, fun g h1 h2 => by simp [Value.ownBlock] at h1 h2; omega⟩
    have hb4 : Below w.heap.size w w5 := hbW.trans (b5.mono (by omega))
    have hq1 : w.heap.size + 1 < w5.heap.size := by omega
    have hcp := fun w : World => run_copy_none (P := Tryz.prog) w 25 25 3 3 (some ⟨g4, 0, none⟩) none m m 0 0 Tryz.underlying25 HSZ.out (by simp)
    clear r4 r5 e4 e5 k4 k5 hS hT xf
    go_wp2_with fail
    refine bodyPost_ret (v := .agg #[.int .i64 k, .int .i64 j, .int .i64 0, .slice none 0 0, .slice (some ⟨g4, 0, none⟩) m m, .slice (some ⟨g5, 0, none⟩) n2 n2, .int .i64 0, .int .i64 0, .int .i64 0, .int .i64 1, .bool b]) (by simp [results, Tryz.results49, go_sem, t0, t1, t2, t3, t4, t5, t6, t7, t8, t9, t10, xg, hq1]) rfl ?_
    refine ⟨_, _, _, _, _, _, rfl, (hc.fr2 (G := [w.heap.size + 1, W.heap.size]) (by exact frcA) (by intro g hg; simp only [List.mem_cons, List.mem_nil_iff, or_false] at hg; simp [Value.ownBlock]; omega)).mono (by omega), ?_⟩
    exact beloA
  · have y4 := (World.ownsRow.lt r4 g4 rfl).2
    have y5 := (World.ownsRow.lt r5 g5 rfl).2
    have y4' := (World.ownsRow.lt r4 g4 rfl).1
    have y5' := (World.ownsRow.lt r5 g5 rfl).1
    have e4 := e4.out
    have e5 := e5.out
    (try simp only [heap_drew, size_alloc] at e4 e5 z4 z5)
    have hne : ¬ g4 = g5 := by omega
    have hB1 : ¬ g4 = W.heap.size := by omega
    have hB2 : ¬ g5 = W.heap.size := by omega
    have hB3 : w.heap.size + 1 < W.heap.size := by omega
    have hB4 : W.heap.size ≤ w4.heap.size := by omega
    have hc : FrRows w4 W.heap.size (.slice (some ⟨g4, 0, none⟩) m m) (.slice (some ⟨g5, 0, none⟩) n2 n2) (List.replicate m 0) (List.replicate n2 false) := ⟨r4, r5.keepR fun k h1 h2 _ => (k4.out k (by (try simp only [heap_drew, size_alloc]); omega)).trans (by first | rfl | exact alloc_lt (by omega)), fun g h1 h2 => by simp [Value.ownBlock] at h1 h2; omega⟩
    have hb4 : Below w.heap.size w w4 := hbW.trans (b4.mono (by omega))
    have hq1 : w.heap.size + 1 < w4.heap.size := by omega
    have hcp := fun w : World => run_copy_none (P := Tryz.prog) w 25 25 3 3 (some ⟨g4, 0, none⟩) none m m 0 0 Tryz.underlying25 HSZ.out (by simp)
    clear r4 r5 e4 e5 k4 k5 hS hT xf
    go_wp2_with fail
    refine bodyPost_ret (v := .agg #[.int .i64 k, .int .i64 j, .int .i64 0, .slice none 0 0, .slice (some ⟨g4, 0, none⟩) m m, .slice (some ⟨g5, 0, none⟩) n2 n2, .int .i64 0, .int .i64 0, .int .i64 0, .int .i64 1, .bool b]) (by simp [results, Tryz.results49, go_sem, t0, t1, t2, t3, t4, t5, t6, t7, t8, t9, t10, xg, hq1]) rfl ?_
    refine ⟨_, _, _, _, _, _, rfl, (hc.fr2 (G := [w.heap.size + 1, W.heap.size]) (by exact frcA) (by intro g hg; simp only [List.mem_cons, List.mem_nil_iff, or_false] at hg; simp [Value.ownBlock]; omega)).mono (by omega), ?_⟩
    exact beloA
  -- END
end Go.Proofs.YtgdeclmciflmpaaGreat
