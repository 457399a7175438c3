/- A new frame with given numbers: the program's walk. Printed by newfggen.py out of NewFI. -/
import Derived.Test.YtgdeclmciflmpaaGreatNewFI
set_option linter.unusedVariables false
set_option linter.unusedSimpArgs false
set_option maxRecDepth 100000
namespace Go.Proofs.YtgdeclmciflmpaaGreat
open Go.RowKit
/-- A new frame with given numbers. -/
def RetFrG (x0 x1 : Int) (gl : List Int) (n m : Nat) (b : Bool) (w : World) (e : Ending) (w' : World) : Prop :=
  ∃ A4 n4 c4 A5 n5 c5, e = .returned (.agg #[.int .i64 x0, .int .i64 x1, .int .i64 0, .slice none 0 0, .slice A4 n4 c4, .slice A5 n5 c5, .int .i64 0, .int .i64 0, .int .i64 0, .int .i64 1, .bool b]) ∧ FrRows w' w.heap.size (.slice A4 n4 c4) (.slice A5 n5 c5) (gl ++ List.replicate (n - gl.length) 0) (List.replicate m false) ∧ Below w.heap.size w w'
theorem Fr.of6 {g4 : Nat} {w V wf : World} (h : Fr [g4] V wf) (hb : Below w.heap.size w V) (hg : w.heap.size ≤ g4) : Below w.heap.size w wf :=
  ⟨h.os.trans hb.os, h.tape.trans hb.tape, h.output.trans hb.output, Nat.le_trans hb.size h.size, fun k hk => (h.block k (Nat.lt_of_lt_of_le hk hb.size) (fun hm => by have := List.mem_singleton.1 hm; omega)).trans (hb.block k hk)⟩
def setL {α : Type} : List α → Nat → List α → List α
  | xs, _, [] => xs
  | xs, o, v :: r => setL (xs.set o v) (o + 1) r
theorem setL_app {α : Type} : ∀ (cs p q : List α), cs.length ≤ q.length → setL (p ++ q) p.length cs = p ++ cs ++ q.drop cs.length
  | [], p, q, _ => by simp [setL]
  | v :: r, p, [], h => by simp at h
  | v :: r, p, y :: q, h => by
    unfold setL
    have e : (p ++ y :: q).set p.length v = (p ++ [v]) ++ q := by simp
    rw [e, show p.length + 1 = (p ++ [v]).length by simp, setL_app r (p ++ [v]) q (by simpa using h)]
    simp
theorem row_setCells {base g n cap : Nat} {e : TypeId} : ∀ (cs : List Value) (o : Nat) (w : World) (xs : List Value), w.ownsRow base e 1 (.slice (some ⟨g, 0, none⟩) n cap) n xs → (w.setCells g o cs).ownsRow base e 1 (.slice (some ⟨g, 0, none⟩) n cap) n (setL xs o cs)
  | [], _, _, _, h => h
  | v :: r, o, w, xs, h => row_setCells r (o + 1) _ _ (h.stored o v).1
theorem upon_copyG {o : Oper} {a : Act} {K : Act → World → Prop} {Q : Exit → Act → World → Prop} (V : World) (glo ghi : Nat) (Ag : Option Addr) (kg cg : Nat) (gl : List Int) (hsl : Sl intR V glo ghi Ag kg cg gl)
    (g4 m : Nat) {B n2 : Nat} {g5 : Nat} (hr : FrRows V B (.slice (some ⟨g4, 0, none⟩) m m) (.slice (some ⟨g5, 0, none⟩) n2 n2) (List.replicate m 0) (List.replicate n2 false)) (hkm : kg ≤ m)
    (h : ∀ wf, Fr [g4] V wf → FrRows wf B (.slice (some ⟨g4, 0, none⟩) m m) (.slice (some ⟨g5, 0, none⟩) n2 n2) (gl ++ List.replicate (m - gl.length) 0) (List.replicate n2 false) → K (a.put o.dst (goInt kg)) wf) :
    Oper.upon Tryz.prog o a K Q ((Sem.run Tryz.prog (Builtin.copy_ #[25, 25] 3 #[.slice (some ⟨g4, 0, none⟩) m m, .slice Ag kg cg]) V).andThen fun a w' => Result.ok (Next.value a) w') := by
  have hl := hsl.lenEq
  have hz : (Tryz.prog.info? 3).map (·.size) = some 1 := by obtain ⟨i0, hi0, _, hz1, _⟩ := info_parts Tryz.infoInt; rw [hi0]; simp [hz1]
  have hr4 := hr.1
  unfold IntRow at hr4
  rw [List.length_replicate] at hr4
  have hrun : (Builtin.copy_ #[25, 25] 3 #[.slice (some ⟨g4, 0, none⟩) m m, .slice Ag kg cg]).run Tryz.prog V = .ok (goInt kg) (V.setCells g4 0 (gl.map (Value.int .i64))) := by
    rcases Nat.eq_zero_or_pos kg with h0 | h0
    · subst h0
      have : gl = [] := List.length_eq_zero_iff.1 hl
      subst this
      exact run_copy_none (P := Tryz.prog) V _ _ _ 3 _ _ m m 0 cg Tryz.underlying25 hz (by simp)
    · obtain ⟨b, off, rfl, _, _, _, _⟩ := hsl.int_at h0
      have := run_copy_cells (P := Tryz.prog) V 25 25 3 3 g4 0 m m ⟨b, off, none⟩ kg cg (gl.map (Value.int .i64)) Tryz.underlying25 hz (by rw [List.length_map, hl]; exact (Nat.min_eq_left hkm).symm) (fun j v hv => by
        obtain ⟨hj, e⟩ := List.getElem?_eq_some_iff.1 hv
        rw [List.length_map] at hj
        obtain ⟨b', off', e2, _, _, hc, _⟩ := hsl.int_at (k := j) (by omega)
        simp only [Option.some.injEq, Addr.mk.injEq, and_true] at e2
        obtain ⟨rfl, rfl⟩ := e2
        rw [List.getElem_map] at e
        rw [← e]
        rw [show (⟨b, off, none⟩ : Addr).add j = ⟨b, off + j, none⟩ by unfold Addr.add; split <;> simp_all]
        exact hc) (fun j hj => by
          rw [List.length_map] at hj
          rw [hr4.cellAt (0 + j) (by omega)]
          simp; omega) (fun j _ => hr4.frozenAt _) (by intro v hv; obtain ⟨x, _, rfl⟩ := List.mem_map.1 hv; rfl)
      rw [List.length_map, hl] at this
      exact this
  rw [hrun]
  have hfr : Fr [g4] V (V.setCells g4 0 (gl.map (Value.int .i64))) := Fr.setCells g4 (List.mem_singleton.2 rfl) _ 0 V (Fr.refl _ _)
  refine h _ hfr ⟨?_, ?_, hr.2.2⟩
  · have := row_setCells (gl.map (Value.int .i64)) 0 V _ hr4
    have e := setL_app (gl.map (Value.int .i64)) [] ((List.replicate m (0 : Int)).map (Value.int .i64)) (by first | (simp; done) | (simp; omega) | omega)
    simp only [List.nil_append, List.length_nil] at e
    rw [e] at this
    unfold IntRow
    rw [show (gl ++ List.replicate (m - gl.length) (0 : Int)).length = m by simp; omega, show (gl ++ List.replicate (m - gl.length) (0 : Int)).map (Value.int .i64) = gl.map (Value.int .i64) ++ ((List.replicate m (0 : Int)).map (Value.int .i64)).drop (gl.map (Value.int .i64)).length by simp]
    exact this
  · exact hr.2.1.keepR fun k h1 h2 h3 => hfr.block k h2 (fun hm => hr.2.2 g4 rfl (by rw [← List.mem_singleton.1 hm]; exact h3))
set_option maxHeartbeats 16000000 in
theorem implNewFrame (w : World) (lo hi glo ghi : Nat) (Ag : Option Addr) (kg cg : Nat) (gl : List Int) (hgv : Sl intR w glo ghi Ag kg cg gl) (hgh : ghi ≤ w.heap.size) (A : Option Addr) (n c : Nat) (x : List Code) (k : Int) (j : Nat) (b : Bool) (h : Sl CodeR w lo hi A n c x) (hh : hi ≤ w.heap.size) (hj : j < n) (hz : codeSz (x[j]'(by have := h.lenEq; omega)) = true) (hkm : kg ≤ (x[j]'(by have := h.lenEq; omega)).2.1.toNat) :
    Calls Tryz.prog 49 #[.agg #[.slice A n c], .int .i64 k, .int .i64 j, .slice Ag kg cg, .bool b] w (RetFrG k j gl (x[j]'(by have := h.lenEq; omega)).2.1.toNat (x[j]'(by have := h.lenEq; omega)).2.2.1.length b w) := by
  have hjx : j < x.length := by have := h.lenEq; omega
  obtain ⟨b0, o0, x0, x1, A2, n2, c2, s2, A3, n3, c3, s3, A4, n4, c4, s4, rfl, _, hbb, hl, i0, i1, h2, h3, h4, d0, d1, d2, d3, d4⟩ := Code_at h hj
  rw [hl] at hz hkm ⊢
  have hzz := codeSz_all hz
  simp only at hzz hkm ⊢
  rw [h2.lenEq] at hzz ⊢
  obtain ⟨⟨z1, z2⟩, ⟨z3, z4⟩, z5, _⟩ := hzz
  obtain ⟨m, rfl⟩ := Int.eq_ofNat_of_zero_le (show 0 ≤ x1 by omega)
  rw [show ((m : Int)).toNat = m from rfl] at hkm ⊢
  have lg := hgv.lenEq
  have hm : m ≤ 6 := by omega
  clear hl hz h3 h4 z1 z2 z3 z4 h2
  have hbw : b0 < w.heap.size := by omega
  have HSZ := Lib.hid (show (Tryz.prog.info? 3).map (·.size) = some 1 by obtain ⟨i0, hi0, _, hz1, _⟩ := info_parts Tryz.infoInt; rw [hi0]; simp [hz1])
  go_enter Tryz.func49, Tryz.ntmps49
  go_wp2_with fail
  obtain ⟨W, hW⟩ : ∃ W, W = ((w.alloc (.cells #[.slice (some ⟨b0, o0, none⟩) n c] 35)).alloc (.cells #[.int .i64 0, .int .i64 0, .int .i64 0, .slice none 0 0, .slice none 0 0, .slice none 0 0, .int .i64 0, .int .i64 0, .int .i64 0, .int .i64 0, .bool false] 74)).alloc (.cells #[.int .i64 x0, .int .i64 m, .slice A2 n2 c2, .slice A3 n3 c3, .slice A4 n4 c4] 78) := ⟨_, rfl⟩
  have hbW : Below w.heap.size w W := by rw [hW]; exact belA
  have hzW0 : W.heap.size = w.heap.size + 3 := by rw [hW]; simp
  have hS := Lib.hid (show ∀ V, Below W.heap.size W V → V.cell? ⟨w.heap.size + 2, 1, none⟩ = some (.int .i64 m) ∧ V.cell? ⟨w.heap.size + 2, 2, none⟩ = some (.slice A2 n2 c2) from fun V hV => by
    refine ⟨below_cell hV ?_, below_cell hV ?_⟩ <;> (rw [hW]; simp [go_sem]))
  have hT := Lib.hid (show ∀ V, Below W.heap.size W V → V.cell? ⟨w.heap.size + 1, 0, none⟩ = some (.int .i64 0) ∧ V.cell? ⟨w.heap.size + 1, 1, none⟩ = some (.int .i64 0) ∧ V.cell? ⟨w.heap.size + 1, 2, none⟩ = some (.int .i64 0) ∧ V.cell? ⟨w.heap.size + 1, 3, none⟩ = some (.slice none 0 0) ∧ V.cell? ⟨w.heap.size + 1, 4, none⟩ = some (.slice none 0 0) ∧ V.cell? ⟨w.heap.size + 1, 5, none⟩ = some (.slice none 0 0) ∧ V.cell? ⟨w.heap.size + 1, 6, none⟩ = some (.int .i64 0) ∧ V.cell? ⟨w.heap.size + 1, 7, none⟩ = some (.int .i64 0) ∧ V.cell? ⟨w.heap.size + 1, 8, none⟩ = some (.int .i64 0) ∧ V.cell? ⟨w.heap.size + 1, 9, none⟩ = some (.int .i64 0) ∧ V.cell? ⟨w.heap.size + 1, 10, none⟩ = some (.bool false) from fun V hV => by
    refine ⟨below_cell hV ?_, below_cell hV ?_, below_cell hV ?_, below_cell hV ?_, below_cell hV ?_, below_cell hV ?_, below_cell hV ?_, below_cell hV ?_, below_cell hV ?_, below_cell hV ?_, below_cell hV ?_⟩ <;> (rw [hW]; simp [go_sem]))
  have xf := Lib.hid (show ∀ V, Below W.heap.size W V → ∀ j, V.frozen? ⟨w.heap.size + 1, j, none⟩ = false from fun V hV j => below_frozen hV (show w.heap.size + 1 < W.heap.size by omega) (by rw [hW]; simp [go_sem]))
  rw [← hW]
  clear hW
  have hzW : w.heap.size + 3 ≤ W.heap.size := by omega
  clear hzW0
  go_region_held3 (fun V => V.cell? ⟨w.heap.size + 2, 1, none⟩ = some (.int .i64 m) ∧ V.cell? ⟨w.heap.size + 2, 2, none⟩ = some (.slice A2 n2 c2)) (first | (refine ⟨?_, ?_⟩ <;> simp [go_sem, q0, q1]) | exact hS.out _ (show Below W.heap.size W _ by exact beloA))
    (first
      | (refine upon_makeInts W (by exact belA) m (by omega) ?_; intro w4 g4 e4 r4 k4 b4 z4; have s4 := b4.size; obtain ⟨q0, q1⟩ := hS.out w4 b4; obtain ⟨t0, t1, t2, t3, t4, t5, t6, t7, t8, t9, t10⟩ := hT.out w4 b4; have xg := xf.out w4 b4; (first | (have xa := (k4.out _ (by simp)).trans (alloc_new' rfl)) | (have xa := (k4.out _ (by first | omega | exact blk_lt xa)).trans xa) | skip); (try (obtain ⟨u0, u1, u2, u3, u4, u5, u6, u7, u8, u9, u10⟩ := ele_cells xa; have xu := frozen_row xa)))
      | (refine upon_makeBools W (by exact belA) n2 (by omega) ?_; intro w5 g5 e5 r5 k5 b5 z5; have s5 := b5.size; obtain ⟨q0, q1⟩ := hS.out w5 b5; obtain ⟨t0, t1, t2, t3, t4, t5, t6, t7, t8, t9, t10⟩ := hT.out w5 b5; have xg := xf.out w5 b5; (first | (have xa := (k5.out _ (by simp)).trans (alloc_new' rfl)) | (have xa := (k5.out _ (by first | omega | exact blk_lt xa)).trans xa) | skip); (try (obtain ⟨u0, u1, u2, u3, u4, u5, u6, u7, u8, u9, u10⟩ := ele_cells xa; have xu := frozen_row xa))))
  -- LEAVES
  · have y4 := (World.ownsRow.lt r4 g4 rfl).2
    have y5 := (World.ownsRow.lt r5 g5 rfl).2
    have y4' := (World.ownsRow.lt r4 g4 rfl).1
    have y5' := (World.ownsRow.lt r5 g5 rfl).1
    have e4 := e4.out
    have e5 := e5.out
    (try simp only [heap_drew, size_alloc] at e4 e5 z4 z5)
    have hne : ¬ g4 = g5 := by omega
    have hB1 : ¬ g4 = w5.heap.size := by omega
    have hB2 : ¬ g5 = w5.heap.size := by omega
    have hB3 : w.heap.size + 1 < w5.heap.size := by omega
    have hB4 : w5.heap.size ≤ w5.heap.size := by omega
    have hc : FrRows w5 W.heap.size (.slice (some ⟨g4, 0, none⟩) m m) (.slice (some ⟨g5, 0, none⟩) n2 n2) (List.replicate m 0) (List.replicate n2 false) := ⟨r4.keepR fun k h1 h2 _ => (k5.out k (by (try simp only [heap_drew, size_alloc]); omega)).trans (by first | rfl | exact alloc_lt (by omega)), r5, fun g h1 h2 => by simp [Value.ownBlock] at h1 h2; omega⟩
    have hb4 : Below w.heap.size w w5 := hbW.trans (b5.mono (by omega))
    have hq1 : w.heap.size + 1 < w5.heap.size := by omega
    clear r4 r5 e4 e5 k4 k5 hS hT xf lg
    go_wp2_with fail
    refine upon_copyG _ glo ghi Ag kg cg gl (hgv.keep (Nat.le_refl _) (Nat.le_refl _) ?_) g4 m (hc.fr2 (G := [w.heap.size + 1, w5.heap.size]) ?_ (by intro g hg; simp only [List.mem_cons, List.mem_nil_iff, or_false] at hg; simp [Value.ownBlock]; omega)) hkm ?_
    · exact fun q _ hq => (show Below w.heap.size w _ by exact beloA).block q (by omega)
    · exact frcA
    · intro wf hfr hcf
      have cb := fun o => World.cell?_of_block (a := ⟨w5.heap.size, o, none⟩) (hfr.block (w5.heap.size) (by first | (simp; done) | (simp; omega) | omega) (by first | (simp; done) | (simp; omega) | omega))
      have cr := fun o => World.cell?_of_block (a := ⟨w.heap.size + 1, o, none⟩) (hfr.block (w.heap.size + 1) (by first | (simp; done) | (simp; omega) | omega) (by first | (simp; done) | (simp; omega) | omega))
      have fr := fun o => World.frozen?_of_block (a := ⟨w.heap.size + 1, o, none⟩) (hfr.block (w.heap.size + 1) (by first | (simp; done) | (simp; omega) | omega) (by first | (simp; done) | (simp; omega) | omega))
      have b6 := hfr.of6 (show Below w.heap.size w _ by exact beloA) (by omega)
      have hz6 : w.heap.size + 1 < wf.heap.size := Nat.lt_of_lt_of_le (show w.heap.size + 1 < Array.size _ by first | (simp; done) | (simp; omega) | omega) hfr.size
      have hcW := Lib.hid hcf
      have hB6 := Lib.hid b6
      clear hcf b6 hfr
      go_wp2_with fail
      refine bodyPost_ret (v := .agg #[.int .i64 k, .int .i64 j, .int .i64 0, .slice none 0 0, .slice (some ⟨g4, 0, none⟩) m m, .slice (some ⟨g5, 0, none⟩) n2 n2, .int .i64 0, .int .i64 0, .int .i64 0, .int .i64 1, .bool b]) (by simp [results, Tryz.results49, go_sem, t0, t1, t2, t3, t4, t5, t6, t7, t8, t9, t10, xg, hq1, cr, fr, hz6]) rfl ?_
      have b6 := hB6.out
      refine ⟨_, _, _, _, _, _, rfl, (hcW.out.fr2 (G := [w.heap.size + 1]) (by exact frcA) (by intro g hg; simp only [List.mem_cons, List.mem_nil_iff, or_false] at hg; simp [Value.ownBlock]; omega)).mono (by omega), ?_⟩
      exact beloA
  · have y4 := (World.ownsRow.lt r4 g4 rfl).2
    have y5 := (World.ownsRow.lt r5 g5 rfl).2
    have y4' := (World.ownsRow.lt r4 g4 rfl).1
    have y5' := (World.ownsRow.lt r5 g5 rfl).1
    have e4 := e4.out
    have e5 := e5.out
    (try simp only [heap_drew, size_alloc] at e4 e5 z4 z5)
    have hne : ¬ g4 = g5 := by omega
    have hB1 : ¬ g4 = w4.heap.size := by omega
    have hB2 : ¬ g5 = w4.heap.size := by omega
    have hB3 : w.heap.size + 1 < w4.heap.size := by omega
    have hB4 : w4.heap.size ≤ w5.heap.size := by omega
    have hc : FrRows w5 W.heap.size (.slice (some ⟨g4, 0, none⟩) m m) (.slice (some ⟨g5, 0, none⟩) n2 n2) (List.replicate m 0) (List.replicate n2 false) := ⟨r4.keepR fun k h1 h2 _ => (k5.out k (by (try simp only [heap_drew, size_alloc]); omega)).trans (by first | rfl | exact alloc_lt (by omega)), r5, fun g h1 h2 => by simp [Value.ownBlock] at h1 h2; omega⟩
    have hb4 : Below w.heap.size w w5 := hbW.trans (b5.mono (by omega))
    have hq1 : w.heap.size + 1 < w5.heap.size := by omega
    clear r4 r5 e4 e5 k4 k5 hS hT xf lg
    go_wp2_with fail
    refine upon_copyG _ glo ghi Ag kg cg gl (hgv.keep (Nat.le_refl _) (Nat.le_refl _) ?_) g4 m (hc.fr2 (G := [w.heap.size + 1, w4.heap.size]) ?_ (by intro g hg; simp only [List.mem_cons, List.mem_nil_iff, or_false] at hg; simp [Value.ownBlock]; omega)) hkm ?_
    · exact fun q _ hq => (show Below w.heap.size w _ by exact beloA).block q (by omega)
    · exact frcA
    · intro wf hfr hcf
      have cb := fun o => World.cell?_of_block (a := ⟨w4.heap.size, o, none⟩) (hfr.block (w4.heap.size) (by first | (simp; done) | (simp; omega) | omega) (by first | (simp; done) | (simp; omega) | omega))
      have cr := fun o => World.cell?_of_block (a := ⟨w.heap.size + 1, o, none⟩) (hfr.block (w.heap.size + 1) (by first | (simp; done) | (simp; omega) | omega) (by first | (simp; done) | (simp; omega) | omega))
      have fr := fun o => World.frozen?_of_block (a := ⟨w.heap.size + 1, o, none⟩) (hfr.block (w.heap.size + 1) (by first | (simp; done) | (simp; omega) | omega) (by first | (simp; done) | (simp; omega) | omega))
      have b6 := hfr.of6 (show Below w.heap.size w _ by exact beloA) (by omega)
      have hz6 : w.heap.size + 1 < wf.heap.size := Nat.lt_of_lt_of_le (show w.heap.size + 1 < Array.size _ by first | (simp; done) | (simp; omega) | omega) hfr.size
      have hcW := Lib.hid hcf
      have hB6 := Lib.hid b6
      clear hcf b6 hfr
      go_wp2_with fail
      refine bodyPost_ret (v := .agg #[.int .i64 k, .int .i64 j, .int .i64 0, .slice none 0 0, .slice (some ⟨g4, 0, none⟩) m m, .slice (some ⟨g5, 0, none⟩) n2 n2, .int .i64 0, .int .i64 0, .int .i64 0, .int .i64 1, .bool b]) (by simp [results, Tryz.results49, go_sem, t0, t1, t2, t3, t4, t5, t6, t7, t8, t9, t10, xg, hq1, cr, fr, hz6]) rfl ?_
      have b6 := hB6.out
      refine ⟨_, _, _, _, _, _, rfl, (hcW.out.fr2 (G := [w.heap.size + 1]) (by exact frcA) (by intro g hg; simp only [List.mem_cons, List.mem_nil_iff, or_false] at hg; simp [Value.ownBlock]; omega)).mono (by omega), ?_⟩
      exact beloA
  · have y4 := (World.ownsRow.lt r4 g4 rfl).2
    have y5 := (World.ownsRow.lt r5 g5 rfl).2
    have y4' := (World.ownsRow.lt r4 g4 rfl).1
    have y5' := (World.ownsRow.lt r5 g5 rfl).1
    have e4 := e4.out
    have e5 := e5.out
    (try simp only [heap_drew, size_alloc] at e4 e5 z4 z5)
    have hne : ¬ g4 = g5 := by omega
    have hB1 : ¬ g4 = w4.heap.size := by omega
    have hB2 : ¬ g5 = w4.heap.size := by omega
    have hB3 : w.heap.size + 1 < w4.heap.size := by omega
    have hB4 : w4.heap.size ≤ w4.heap.size := by omega
    have hc : FrRows w4 W.heap.size (.slice (some ⟨g4, 0, none⟩) m m) (.slice (some ⟨g5, 0, none⟩) n2 n2) (List.replicate m 0) (List.replicate n2 false) := ⟨r4, r5.keepR fun k h1 h2 _ => (k4.out k (by (try simp only [heap_drew, size_alloc]); omega)).trans (by first | rfl | exact alloc_lt (by omega)), fun g h1 h2 => by simp [Value.ownBlock] at h1 h2; omega⟩
    have hb4 : Below w.heap.size w w4 := hbW.trans (b4.mono (by omega))
    have hq1 : w.heap.size + 1 < w4.heap.size := by omega
    clear r4 r5 e4 e5 k4 k5 hS hT xf lg
    go_wp2_with fail
    refine upon_copyG _ glo ghi Ag kg cg gl (hgv.keep (Nat.le_refl _) (Nat.le_refl _) ?_) g4 m (hc.fr2 (G := [w.heap.size + 1, w4.heap.size]) ?_ (by intro g hg; simp only [List.mem_cons, List.mem_nil_iff, or_false] at hg; simp [Value.ownBlock]; omega)) hkm ?_
    · exact fun q _ hq => (show Below w.heap.size w _ by exact beloA).block q (by omega)
    · exact frcA
    · intro wf hfr hcf
      have cb := fun o => World.cell?_of_block (a := ⟨w4.heap.size, o, none⟩) (hfr.block (w4.heap.size) (by first | (simp; done) | (simp; omega) | omega) (by first | (simp; done) | (simp; omega) | omega))
      have cr := fun o => World.cell?_of_block (a := ⟨w.heap.size + 1, o, none⟩) (hfr.block (w.heap.size + 1) (by first | (simp; done) | (simp; omega) | omega) (by first | (simp; done) | (simp; omega) | omega))
      have fr := fun o => World.frozen?_of_block (a := ⟨w.heap.size + 1, o, none⟩) (hfr.block (w.heap.size + 1) (by first | (simp; done) | (simp; omega) | omega) (by first | (simp; done) | (simp; omega) | omega))
      have b6 := hfr.of6 (show Below w.heap.size w _ by exact beloA) (by omega)
      have hz6 : w.heap.size + 1 < wf.heap.size := Nat.lt_of_lt_of_le (show w.heap.size + 1 < Array.size _ by first | (simp; done) | (simp; omega) | omega) hfr.size
      have hcW := Lib.hid hcf
      have hB6 := Lib.hid b6
      clear hcf b6 hfr
      go_wp2_with fail
      refine bodyPost_ret (v := .agg #[.int .i64 k, .int .i64 j, .int .i64 0, .slice none 0 0, .slice (some ⟨g4, 0, none⟩) m m, .slice (some ⟨g5, 0, none⟩) n2 n2, .int .i64 0, .int .i64 0, .int .i64 0, .int .i64 1, .bool b]) (by simp [results, Tryz.results49, go_sem, t0, t1, t2, t3, t4, t5, t6, t7, t8, t9, t10, xg, hq1, cr, fr, hz6]) rfl ?_
      have b6 := hB6.out
      refine ⟨_, _, _, _, _, _, rfl, (hcW.out.fr2 (G := [w.heap.size + 1]) (by exact frcA) (by intro g hg; simp only [List.mem_cons, List.mem_nil_iff, or_false] at hg; simp [Value.ownBlock]; omega)).mono (by omega), ?_⟩
      exact beloA
  · have y4 := (World.ownsRow.lt r4 g4 rfl).2
    have y5 := (World.ownsRow.lt r5 g5 rfl).2
    have y4' := (World.ownsRow.lt r4 g4 rfl).1
    have y5' := (World.ownsRow.lt r5 g5 rfl).1
    have e4 := e4.out
    have e5 := e5.out
    (try simp only [heap_drew, size_alloc] at e4 e5 z4 z5)
    have hne : ¬ g4 = g5 := by omega
    have hB1 : ¬ g4 = w5.heap.size := by omega
    have hB2 : ¬ g5 = w5.heap.size := by omega
    have hB3 : w.heap.size + 1 < w5.heap.size := by omega
    have hB4 : w5.heap.size ≤ w4.heap.size := by omega
    have hc : FrRows w4 W.heap.size (.slice (some ⟨g4, 0, none⟩) m m) (.slice (some ⟨g5, 0, none⟩) n2 n2) (List.replicate m 0) (List.replicate n2 false) := ⟨r4, r5.keepR fun k h1 h2 _ => (k4.out k (by (try simp only [heap_drew, size_alloc]); omega)).trans (by first | rfl | exact alloc_lt (by omega)), fun g h1 h2 => by simp [Value.ownBlock] at h1 h2; omega⟩
    have hb4 : Below w.heap.size w w4 := hbW.trans (b4.mono (by omega))
    have hq1 : w.heap.size + 1 < w4.heap.size := by omega
    clear r4 r5 e4 e5 k4 k5 hS hT xf lg
    go_wp2_with fail
    refine upon_copyG _ glo ghi Ag kg cg gl (hgv.keep (Nat.le_refl _) (Nat.le_refl _) ?_) g4 m (hc.fr2 (G := [w.heap.size + 1, w5.heap.size]) ?_ (by intro g hg; simp only [List.mem_cons, List.mem_nil_iff, or_false] at hg; simp [Value.ownBlock]; omega)) hkm ?_
    · exact fun q _ hq => (show Below w.heap.size w _ by exact beloA).block q (by omega)
    · exact frcA
    · intro wf hfr hcf
      have cb := fun o => World.cell?_of_block (a := ⟨w5.heap.size, o, none⟩) (hfr.block (w5.heap.size) (by first | (simp; done) | (simp; omega) | omega) (by first | (simp; done) | (simp; omega) | omega))
      have cr := fun o => World.cell?_of_block (a := ⟨w.heap.size + 1, o, none⟩) (hfr.block (w.heap.size + 1) (by first | (simp; done) | (simp; omega) | omega) (by first | (simp; done) | (simp; omega) | omega))
      have fr := fun o => World.frozen?_of_block (a := ⟨w.heap.size + 1, o, none⟩) (hfr.block (w.heap.size + 1) (by first | (simp; done) | (simp; omega) | omega) (by first | (simp; done) | (simp; omega) | omega))
      have b6 := hfr.of6 (show Below w.heap.size w _ by exact beloA) (by omega)
      have hz6 : w.heap.size + 1 < wf.heap.size := Nat.lt_of_lt_of_le (show w.heap.size + 1 < Array.size _ by first | (simp; done) | (simp; omega) | omega) hfr.size
      have hcW := Lib.hid hcf
      have hB6 := Lib.hid b6
      clear hcf b6 hfr
      go_wp2_with fail
      refine bodyPost_ret (v := .agg #[.int .i64 k, .int .i64 j, .int .i64 0, .slice none 0 0, .slice (some ⟨g4, 0, none⟩) m m, .slice (some ⟨g5, 0, none⟩) n2 n2, .int .i64 0, .int .i64 0, .int .i64 0, .int .i64 1, .bool b]) (by simp [results, Tryz.results49, go_sem, t0, t1, t2, t3, t4, t5, t6, t7, t8, t9, t10, xg, hq1, cr, fr, hz6]) rfl ?_
      have b6 := hB6.out
      refine ⟨_, _, _, _, _, _, rfl, (hcW.out.fr2 (G := [w.heap.size + 1]) (by exact frcA) (by intro g hg; simp only [List.mem_cons, List.mem_nil_iff, or_false] at hg; simp [Value.ownBlock]; omega)).mono (by omega), ?_⟩
      exact beloA
  · have y4 := (World.ownsRow.lt r4 g4 rfl).2
    have y5 := (World.ownsRow.lt r5 g5 rfl).2
    have y4' := (World.ownsRow.lt r4 g4 rfl).1
    have y5' := (World.ownsRow.lt r5 g5 rfl).1
    have e4 := e4.out
    have e5 := e5.out
    (try simp only [heap_drew, size_alloc] at e4 e5 z4 z5)
    have hne : ¬ g4 = g5 := by omega
    have hB1 : ¬ g4 = W.heap.size := by omega
    have hB2 : ¬ g5 = W.heap.size := by omega
    have hB3 : w.heap.size + 1 < W.heap.size := by omega
    have hB4 : W.heap.size ≤ w5.heap.size := by omega
    have hc : FrRows w5 W.heap.size (.slice (some ⟨g4, 0, none⟩) m m) (.slice (some ⟨g5, 0, none⟩) n2 n2) (List.replicate m 0) (List.replicate n2 false) := ⟨r4.keepR fun k h1 h2 _ => (k5.out k (by (try simp only [heap_drew, size_alloc]); omega)).trans (by first | rfl | exact alloc_lt (by omega)), r5, fun g h1 h2 => by simp [Value.ownBlock] at h1 h2; omega⟩
    have hb4 : Below w.heap.size w w5 := hbW.trans (b5.mono (by omega))
    have hq1 : w.heap.size + 1 < w5.heap.size := by omega
    clear r4 r5 e4 e5 k4 k5 hS hT xf lg
    go_wp2_with fail
    refine upon_copyG _ glo ghi Ag kg cg gl (hgv.keep (Nat.le_refl _) (Nat.le_refl _) ?_) g4 m (hc.fr2 (G := [w.heap.size + 1, W.heap.size]) ?_ (by intro g hg; simp only [List.mem_cons, List.mem_nil_iff, or_false] at hg; simp [Value.ownBlock]; omega)) hkm ?_
    · exact fun q _ hq => (show Below w.heap.size w _ by exact beloA).block q (by omega)
    · exact frcA
    · intro wf hfr hcf
      have cb := fun o => World.cell?_of_block (a := ⟨W.heap.size, o, none⟩) (hfr.block (W.heap.size) (by first | (simp; done) | (simp; omega) | omega) (by first | (simp; done) | (simp; omega) | omega))
      have cr := fun o => World.cell?_of_block (a := ⟨w.heap.size + 1, o, none⟩) (hfr.block (w.heap.size + 1) (by first | (simp; done) | (simp; omega) | omega) (by first | (simp; done) | (simp; omega) | omega))
      have fr := fun o => World.frozen?_of_block (a := ⟨w.heap.size + 1, o, none⟩) (hfr.block (w.heap.size + 1) (by first | (simp; done) | (simp; omega) | omega) (by first | (simp; done) | (simp; omega) | omega))
      have b6 := hfr.of6 (show Below w.heap.size w _ by exact beloA) (by omega)
      have hz6 : w.heap.size + 1 < wf.heap.size := Nat.lt_of_lt_of_le (show w.heap.size + 1 < Array.size _ by first | (simp; done) | (simp; omega) | omega) hfr.size
      have hcW := Lib.hid hcf
      have hB6 := Lib.hid b6
      clear hcf b6 hfr
      go_wp2_with fail
      refine bodyPost_ret (v := .agg #[.int .i64 k, .int .i64 j, .int .i64 0, .slice none 0 0, .slice (some ⟨g4, 0, none⟩) m m, .slice (some ⟨g5, 0, none⟩) n2 n2, .int .i64 0, .int .i64 0, .int .i64 0, .int .i64 1, .bool b]) (by simp [results, Tryz.results49, go_sem, t0, t1, t2, t3, t4, t5, t6, t7, t8, t9, t10, xg, hq1, cr, fr, hz6]) rfl ?_
      have b6 := hB6.out
      refine ⟨_, _, _, _, _, _, rfl, (hcW.out.fr2 (G := [w.heap.size + 1]) (by exact frcA) (by intro g hg; simp only [List.mem_cons, List.mem_nil_iff, or_false] at hg; simp [Value.ownBlock]; omega)).mono (by omega), ?_⟩
      exact beloA
  · have y4 := (World.ownsRow.lt r4 g4 rfl).2
    have y5 := (World.ownsRow.lt r5 g5 rfl).2
    have y4' := (World.ownsRow.lt r4 g4 rfl).1
    have y5' := (World.ownsRow.lt r5 g5 rfl).1
    have e4 := e4.out
    have e5 := e5.out
    (try simp only [heap_drew, size_alloc] at e4 e5 z4 z5)
    have hne : ¬ g4 = g5 := by omega
    have hB1 : ¬ g4 = W.heap.size := by omega
    have hB2 : ¬ g5 = W.heap.size := by omega
    have hB3 : w.heap.size + 1 < W.heap.size := by omega
    have hB4 : W.heap.size ≤ w4.heap.size := by omega
    have hc : FrRows w4 W.heap.size (.slice (some ⟨g4, 0, none⟩) m m) (.slice (some ⟨g5, 0, none⟩) n2 n2) (List.replicate m 0) (List.replicate n2 false) := ⟨r4, r5.keepR fun k h1 h2 _ => (k4.out k (by (try simp only [heap_drew, size_alloc]); omega)).trans (by first | rfl | exact alloc_lt (by omega)), fun g h1 h2 => by simp [Value.ownBlock] at h1 h2; omega⟩
    have hb4 : Below w.heap.size w w4 := hbW.trans (b4.mono (by omega))
    have hq1 : w.heap.size + 1 < w4.heap.size := by omega
    clear r4 r5 e4 e5 k4 k5 hS hT xf lg
    go_wp2_with fail
    refine upon_copyG _ glo ghi Ag kg cg gl (hgv.keep (Nat.le_refl _) (Nat.le_refl _) ?_) g4 m (hc.fr2 (G := [w.heap.size + 1, W.heap.size]) ?_ (by intro g hg; simp only [List.mem_cons, List.mem_nil_iff, or_false] at hg; simp [Value.ownBlock]; omega)) hkm ?_
    · exact fun q _ hq => (show Below w.heap.size w _ by exact beloA).block q (by omega)
    · exact frcA
    · intro wf hfr hcf
      have cb := fun o => World.cell?_of_block (a := ⟨W.heap.size, o, none⟩) (hfr.block (W.heap.size) (by first | (simp; done) | (simp; omega) | omega) (by first | (simp; done) | (simp; omega) | omega))
      have cr := fun o => World.cell?_of_block (a := ⟨w.heap.size + 1, o, none⟩) (hfr.block (w.heap.size + 1) (by first | (simp; done) | (simp; omega) | omega) (by first | (simp; done) | (simp; omega) | omega))
      have fr := fun o => World.frozen?_of_block (a := ⟨w.heap.size + 1, o, none⟩) (hfr.block (w.heap.size + 1) (by first | (simp; done) | (simp; omega) | omega) (by first | (simp; done) | (simp; omega) | omega))
      have b6 := hfr.of6 (show Below w.heap.size w _ by exact beloA) (by omega)
      have hz6 : w.heap.size + 1 < wf.heap.size := Nat.lt_of_lt_of_le (show w.heap.size + 1 < Array.size _ by first | (simp; done) | (simp; omega) | omega) hfr.size
      have hcW := Lib.hid hcf
      have hB6 := Lib.hid b6
      clear hcf b6 hfr
      go_wp2_with fail
      refine bodyPost_ret (v := .agg #[.int .i64 k, .int .i64 j, .int .i64 0, .slice none 0 0, .slice (some ⟨g4, 0, none⟩) m m, .slice (some ⟨g5, 0, none⟩) n2 n2, .int .i64 0, .int .i64 0, .int .i64 0, .int .i64 1, .bool b]) (by simp [results, Tryz.results49, go_sem, t0, t1, t2, t3, t4, t5, t6, t7, t8, t9, t10, xg, hq1, cr, fr, hz6]) rfl ?_
      have b6 := hB6.out
      refine ⟨_, _, _, _, _, _, rfl, (hcW.out.fr2 (G := [w.heap.size + 1]) (by exact frcA) (by intro g hg; simp only [List.mem_cons, List.mem_nil_iff, or_false] at hg; simp [Value.ownBlock]; omega)).mono (by omega), ?_⟩
      exact beloA
  -- END
end Go.Proofs.YtgdeclmciflmpaaGreat
