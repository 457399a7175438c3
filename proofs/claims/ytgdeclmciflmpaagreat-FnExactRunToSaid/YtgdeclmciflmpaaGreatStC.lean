/- Several texts in one: StepI4, StepI6, StepI7. -/
import Derived.Test.YtgdeclmciflmpaaGreatStA
import Derived.Test.YtgdeclmciflmpaaGreatRegCut
import Derived.Deep.RegionHeld3
import Derived.Deep.QuietTactic
import Derived.BigQuiet
import Derived.Test.YtgdeclmciflmpaaGreatStB

/- The program's plain instructions: walks. Printed by stepi4gen.py. -/
set_option linter.unusedVariables false
set_option linter.unusedSimpArgs false
set_option maxRecDepth 100000
namespace Go.Proofs.YtgdeclmciflmpaaGreat
open Go.RowKit
attribute [local irreducible] wpList
section
variable {C : Cfg} {w : World} {s : MS} {j g n c k : Nat} {f : Frame}
theorem MM.varAt (h : MM C w (.slice (some ⟨g, 0, none⟩) n c) s) (hj : s.fs.reverse[j]? = some f) (hk : k < f.2.2.2.2.1.length) : ∃ g4 n4 c4, w.cell? ⟨g, j * 11 + 4, none⟩ = some (.slice (some ⟨g4, 0, none⟩) n4 c4) ∧ n4 = f.2.2.2.2.1.length ∧ w.cell? ⟨g4, k, none⟩ = some (.int .i64 (f.2.2.2.2.1[k]'hk)) ∧ w.frozen? ⟨g4, k, none⟩ = false ∧ g4 < w.heap.size ∧ g4 ≠ g ∧ g4 ≠ C.M ∧ I64 (f.2.2.2.2.1[k]'hk) := by
  obtain ⟨v3, v4, v5, F3, F4, F5, pre, post, ho⟩ := h.opg hj
  obtain ⟨A4, n4, c4, rfl, hl⟩ := ho.o4.form
  obtain ⟨b4, o4, rfl, _, q2, hc1, hi1⟩ := ho.o4.sl.int_at (k := k) (by omega)
  obtain ⟨_, hx, hb, _⟩ := ho.o4.row'
  obtain ⟨_, ⟨h0', _⟩ | ⟨g3, e3, q3, q4⟩⟩ := ownsRow_cases hx
  · cases h0'
  simp only [Option.some.injEq, Addr.mk.injEq, and_true] at e3
  obtain ⟨rfl, rfl⟩ := e3
  have hm : b4 ∈ F4 := hb b4 rfl
  have h1 := ho.low b4 (List.mem_cons_of_mem _ (List.mem_append_right _ (List.mem_append_left _ hm)))
  rw [Nat.zero_add] at hc1
  exact ⟨b4, n4, c4, ho.fv.c4, hl, hc1, hx.frozenAt k, h1.2.1, fun e => ho.ng (by rw [← e]; exact List.mem_append_right _ (List.mem_append_left _ hm)), h1.2.2, hi1⟩
theorem MM.flagAt (h : MM C w (.slice (some ⟨g, 0, none⟩) n c) s) (hj : s.fs.reverse[j]? = some f) (hk : k < f.2.2.2.2.2.1.length) : ∃ g5 n5 c5, w.cell? ⟨g, j * 11 + 5, none⟩ = some (.slice (some ⟨g5, 0, none⟩) n5 c5) ∧ n5 = f.2.2.2.2.2.1.length ∧ w.cell? ⟨g5, k, none⟩ = some (.bool (f.2.2.2.2.2.1[k]'hk)) ∧ w.frozen? ⟨g5, k, none⟩ = false ∧ g5 < w.heap.size ∧ g5 ≠ g ∧ g5 ≠ C.M := by
  obtain ⟨v3, v4, v5, F3, F4, F5, pre, post, ho⟩ := h.opg hj
  obtain ⟨A5, n5, c5, rfl, hl⟩ := ho.o5.form
  obtain ⟨b5, o5, rfl, _, q2, hc1, _⟩ := ho.o5.sl.bool_at (k := k) (by omega)
  obtain ⟨_, hx, hb, _⟩ := ho.o5.row'
  obtain ⟨_, ⟨h0', _⟩ | ⟨g3, e3, q3, q4⟩⟩ := ownsRow_cases hx
  · cases h0'
  simp only [Option.some.injEq, Addr.mk.injEq, and_true] at e3
  obtain ⟨rfl, rfl⟩ := e3
  have hm : b5 ∈ F5 := hb b5 rfl
  have h1 := ho.low b5 (List.mem_cons_of_mem _ (List.mem_append_right _ (List.mem_append_right _ hm)))
  rw [Nat.zero_add] at hc1
  exact ⟨b5, n5, c5, ho.fv.c5, hl, hc1, hx.frozenAt k, h1.2.1, fun e => ho.ng (by rw [← e]; exact List.mem_append_right _ (List.mem_append_right _ hm)), h1.2.2⟩
theorem MM.pVar (h : MM C w (.slice (some ⟨g, 0, none⟩) n c) s) (hj : s.fs.reverse[j]? = some f) {g4 n4 c4 i : Nat} (h4 : w.cell? ⟨g, j * 11 + 4, none⟩ = some (.slice (some ⟨g4, 0, none⟩) n4 c4)) {a : Int} (ha : I64 a) (hi : i < f.2.2.2.2.1.length) : MM C (w.setCell ⟨g4, i, none⟩ (.int .i64 a)) (.slice (some ⟨g, 0, none⟩) n c) (s.put j (fVars f (f.2.2.2.2.1.set i a))) := h.setVar hj h4 ha hi (s.put_rev j _)
theorem MM.pFlag (h : MM C w (.slice (some ⟨g, 0, none⟩) n c) s) (hj : s.fs.reverse[j]? = some f) {g5 n5 c5 i : Nat} (h5 : w.cell? ⟨g, j * 11 + 5, none⟩ = some (.slice (some ⟨g5, 0, none⟩) n5 c5)) {a : Bool} (hi : i < f.2.2.2.2.2.1.length) : MM C (w.setCell ⟨g5, i, none⟩ (.bool a)) (.slice (some ⟨g, 0, none⟩) n c) (s.put j (fFlags f (f.2.2.2.2.2.1.set i a))) := h.setFlag hj h5 hi (s.put_rev j _)
end
/-- A number more on a row: a step of a drawn region. -/
theorem step_int1 {ops : Array Oper} {o : Oper} {a : Act} {w : World} {K : Act → World → Prop} {Q : Exit → Act → World → Prop} {E : Prop} (hgd : o.guard = none) (s x : Operand)
    (ho : o.op = .call { callee := .builtin .append, args := #[s, x], argTypes := #[25, 25] })
    (vf : Value) (n : Nat) (xs : List Value) (hs : a.eval s = vf) (hown : w.ownsRow 0 3 1 vf n xs) (X : Nat) (b : Int) (t : TypeId) (hx : a.eval x = .slice (some ⟨X, 0, none⟩) 1 1) (hX : w.heap[X]? = some (.cells #[.int .i64 b] t)) (hn : n ≤ 4000000)
    (h : ∀ Av nv cv wk, Hid (wk.ownsRow 0 3 1 (.slice Av nv cv) (n + 1) (xs ++ [.int .i64 b])) → Hid (w.grownBy wk vf.ownBlock) → Hid ((Value.slice Av nv cv).ownBlock = vf.ownBlock ∨ (Value.slice Av nv cv).ownBlock = some w.heap.size) → K (a.put o.dst (.slice Av nv cv)) wk) :
    if Region.wanted o (yielded ops a.tmps) = true then Oper.wp Tryz.prog o a w K Q else E := by
  obtain ⟨inf, hif, hz0, hz1, hz2⟩ := info_parts Tryz.infoInt
  refine step_append_src w hgd s x _ ho 0 3 inf _ 1 8 Tryz.underlying25 hif hz0 hz1 hz2 rfl (by decide) vf n xs hs hown (some ⟨X, 0, none⟩) 1 1 [.int .i64 b] hx ⟨rfl, (fun h => by cases h), fun ad e j u hu => ?_⟩ (by intro u hu; simp at hu; subst hu; rfl) (by unfold maxLen; omega) (by omega) (Nat.zero_le _) ?_
  · injection e with e
    subst e
    exact World.news_of_block (fr := (0, 0)) hX j u (by simpa using hu)
  · intro v' w' h2 h3 h4
    obtain ⟨A, m, c, rfl⟩ := slice_form h2
    exact h A m c w' (Lib.hid h2) (Lib.hid h3) (Lib.hid h4)
theorem implPlain1 (C : Cfg) (w : World) (g n c : Nat) (s : MS) (f : Frame) (h : MM C w (.slice (some ⟨g, 0, none⟩) n c) s) (hj : s.fs.reverse[n - 1]? = some f) (v : Int) (hv : I64 v) (hp : (fPile f).length ≤ 1000000) :
    Calls Tryz.prog 59 #[.pointer (some ⟨C.M, 0, none⟩), .pointer (some ⟨g, (n - 1) * 11, none⟩), .agg #[.int .i64 1, .int .i64 v]] w (RetPut C g n c (s.put (n - 1) (fGo f f.2.2.1 (fPile f ++ [v]))) w) := by
  have HH := Lib.hid h
  clear h
  go_enter Tryz.func59, Tryz.ntmps59
  go_wp2_with fail
  refine (implPush C _ g n c s (n - 1) f v hv (HH.out.keep (by exact beloA)) hj hp).mono ?_
  rintro e w1 ⟨rfl, h1⟩
  go_wp2_with fail
  go_end0
  exact ⟨rfl, h1⟩
theorem implPlain2 (C : Cfg) (w : World) (g n c : Nat) (s : MS) (f : Frame) (h : MM C w (.slice (some ⟨g, 0, none⟩) n c) s) (hj : s.fs.reverse[n - 1]? = some f) (k : Nat) (hk : k < f.2.2.2.2.1.length) (hp : (fPile f).length ≤ 1000000) :
    Calls Tryz.prog 59 #[.pointer (some ⟨C.M, 0, none⟩), .pointer (some ⟨g, (n - 1) * 11, none⟩), .agg #[.int .i64 2, .int .i64 k]] w (RetPut C g n c (s.put (n - 1) (fGo f f.2.2.1 (fPile f ++ [f.2.2.2.2.1.getD k 0]))) w) := by
  have HH := Lib.hid h
  obtain ⟨v3, v4, v5, F3, F4, F5, pre, post, ho⟩ := h.opg hj
  obtain ⟨A4, n4, c4, rfl, hl⟩ := ho.o4.form
  have hkn : k < n4 := by omega
  have hkI : (k : Int) < (n4 : Int) := by omega
  obtain ⟨b4, o4, rfl, _, q2, hc1, hi1⟩ := ho.o4.sl.int_at (k := k) hkn
  have r4 := ho.fv.c4
  have HJ := Lib.hid hj
  obtain ⟨y, hy⟩ : ∃ y, y = f.2.2.2.2.1[k]'hk := ⟨_, rfl⟩
  have HG := Lib.hid (show f.2.2.2.2.1.getD k 0 = y by rw [hy]; simp [List.getD, hk])
  rw [← hy] at hc1 hi1
  clear h hl ho hj hy
  go_enter Tryz.func59, Tryz.ntmps59
  go_upto_region 5 with fail
  obtain ⟨W, hW⟩ : ∃ W, W = w.alloc (.cells #[.int .i64 2, .int .i64 k] 84) := ⟨_, rfl⟩
  have hbW : Below w.heap.size w W := by rw [hW]; exact belA
  have hS := Lib.hid (show ∀ V', Below W.heap.size W V' → V'.cell? ⟨g, (n - 1) * 11 + 4, none⟩ = some (.slice (some ⟨b4, o4, none⟩) n4 c4) ∧ V'.cell? ⟨w.heap.size, 1, none⟩ = some (.int .i64 k) ∧ V'.cell? ⟨b4, o4 + k, none⟩ = some (.int .i64 y) from fun V' hV => ⟨below_cell hV (below_cell hbW r4), below_cell hV (by rw [hW]; simp [go_sem]), below_cell hV (below_cell hbW hc1)⟩)
  have H1 := Lib.hid (HH.out.keep hbW)
  rw [← hW]
  clear hW r4 hc1
  refine wp_region_noPanic ?_
  refine wp_region_cut (S := (fun V' => V'.cell? ⟨g, (n - 1) * 11 + 4, none⟩ = some (.slice (some ⟨b4, o4, none⟩) n4 c4) ∧ V'.cell? ⟨w.heap.size, 1, none⟩ = some (.int .i64 k) ∧ V'.cell? ⟨b4, o4 + k, none⟩ = some (.int .i64 y))) 9 (by kernel_rfl) (by kernel_rfl) (hS.out _ (show Below W.heap.size W _ by exact beloA)) (fun hR0 => ?_)
  simp only [headOps, List.take_succ_cons, List.take_zero]
  refine takeH 0 ?_
  refine takeH 1 ?_
  refine takeH 2 ?_
  refine takeH 3 ?_
  refine takeH 4 ?_
  refine takeH 5 ?_
  refine takeH 6 ?_
  refine takeH 7 ?_
  refine takeH 8 ?_
  refine wpAnyH_done (by kernel_rfl) ?_ _
  refine lastQ_op rfl (fun K hK => ?_)
  rw [if_pos (by rfl)]
  go_simp
  refine (implPush C _ g n c s (n - 1) f _ hi1 (H1.out.keep (show Below W.heap.size W _ by exact beloA)) HJ.out hp).mono ?_
  rintro e w1 ⟨rfl, h1⟩
  refine hK _ _ ?_
  clear hK K
  refine NoPanic.normal ?_
  go_wp2_with fail
  go_end0
  rw [HG.out]
  exact ⟨rfl, h1⟩
theorem implPlain9 (C : Cfg) (w : World) (g n c : Nat) (s : MS) (f : Frame) (h : MM C w (.slice (some ⟨g, 0, none⟩) n c) s) (hj : s.fs.reverse[n - 1]? = some f) (v : Int) (h0 : 0 < (fPile f).length) (hp : (fPile f).length ≤ 1000000) :
    Calls Tryz.prog 59 #[.pointer (some ⟨C.M, 0, none⟩), .pointer (some ⟨g, (n - 1) * 11, none⟩), .agg #[.int .i64 9, .int .i64 v]] w (RetPut C g n c (s.put (n - 1) (fGo f f.2.2.1 (fPile f).dropLast)) w) := by
  have HH := Lib.hid h
  clear h
  go_enter Tryz.func59, Tryz.ntmps59
  go_wp2_with fail
  refine (implPop C _ g n c s (n - 1) f (HH.out.keep (by exact beloA)) hj h0 hp).mono ?_
  rintro e w1 ⟨rfl, k1, v3, rfl, h1⟩
  have H1 := Lib.hid h1
  clear h1
  go_wp2_with fail
  go_end0
  exact ⟨rfl, H1.out⟩
theorem implPlain15 (C : Cfg) (w : World) (g n c : Nat) (s : MS) (f : Frame) (h : MM C w (.slice (some ⟨g, 0, none⟩) n c) s) (hj : s.fs.reverse[n - 1]? = some f) (v : Int) (hl : I64 (lastN (fPile f))) (h0 : 0 < (fPile f).length) (hp : (fPile f).length ≤ 1000000) :
    Calls Tryz.prog 59 #[.pointer (some ⟨C.M, 0, none⟩), .pointer (some ⟨g, (n - 1) * 11, none⟩), .agg #[.int .i64 15, .int .i64 v]] w (RetPut C g n c (s.put (n - 1) (fRes (fGo f f.2.2.1 (fPile f).dropLast) (lastN (fPile f)))) w) := by
  have HH := Lib.hid h
  clear h
  go_enter Tryz.func59, Tryz.ntmps59
  go_wp2_with fail
  refine (implPop C _ g n c s (n - 1) f (HH.out.keep (by exact beloA)) hj h0 hp).mono ?_
  rintro e w1 ⟨rfl, k1, v3, hw1, h1⟩
  clear hw1
  obtain ⟨_, _, _, _, _, _, _, _, ho⟩ := h1.opg (MS.put_get hj)
  have c6 := ho.fv.c6
  have fz := ho.fv.fz ((n - 1) * 11 + 6)
  have hg := ho.fv.lt
  have h2 := h1.pRes (MS.put_get hj) hl
  rw [MS.put_put] at h2
  have H2 := Lib.hid h2
  clear h1 h2 ho
  go_wp2_with fail
  go_end0
  exact ⟨rfl, H2.out⟩
theorem implPlain3 (C : Cfg) (w : World) (g n c : Nat) (s : MS) (f : Frame) (h : MM C w (.slice (some ⟨g, 0, none⟩) n c) s) (hj : s.fs.reverse[n - 1]? = some f) (k : Nat) (hk : k < f.2.2.2.2.1.length) (hl : I64 (lastN (fPile f))) (h0 : 0 < (fPile f).length) (hp : (fPile f).length ≤ 1000000) :
    Calls Tryz.prog 59 #[.pointer (some ⟨C.M, 0, none⟩), .pointer (some ⟨g, (n - 1) * 11, none⟩), .agg #[.int .i64 3, .int .i64 k]] w (RetPut C g n c (s.put (n - 1) (fVars (fGo f f.2.2.1 (fPile f).dropLast) (f.2.2.2.2.1.set k (lastN (fPile f))))) w) := by
  have HH := Lib.hid h
  obtain ⟨g4, n4, c4, r4, hn4, _, _, hg4, hg4g, _, _⟩ := h.varAt hj hk
  have hkn : k < n4 := by omega
  have hkI : (k : Int) < (n4 : Int) := by omega
  have HJ := Lib.hid hj
  have hgl : g < w.heap.size := World.block_lt_of_cell? w _ r4
  clear h hj hn4
  go_enter Tryz.func59, Tryz.ntmps59
  go_upto_region 7 with fail
  obtain ⟨W, hW⟩ : ∃ W, W = w.alloc (.cells #[.int .i64 3, .int .i64 k] 84) := ⟨_, rfl⟩
  have hbW : Below w.heap.size w W := by rw [hW]; exact belA
  have hzW : w.heap.size < W.heap.size := by rw [hW]; simp
  have hS := Lib.hid (show ∀ V', Below W.heap.size W V' → V'.cell? ⟨g, (n - 1) * 11 + 4, none⟩ = some (.slice (some ⟨g4, 0, none⟩) n4 c4) ∧ V'.cell? ⟨w.heap.size, 1, none⟩ = some (.int .i64 k) from fun V' hV => ⟨below_cell hV (below_cell hbW r4), below_cell hV (by rw [hW]; simp [go_sem])⟩)
  have H1 := Lib.hid (HH.out.keep hbW)
  rw [← hW]
  clear hW r4
  refine wp_region_noPanic ?_
  refine wp_region_cut (S := (fun V' => V'.cell? ⟨g, (n - 1) * 11 + 4, none⟩ = some (.slice (some ⟨g4, 0, none⟩) n4 c4) ∧ V'.cell? ⟨w.heap.size, 1, none⟩ = some (.int .i64 k))) 9 (by kernel_rfl) (by kernel_rfl) (hS.out _ (show Below W.heap.size W _ by exact beloA)) (fun hR0 => ?_)
  simp only [headOps, List.take_succ_cons, List.take_zero]
  refine takeH 0 ?_
  refine takeH 1 ?_
  refine takeH 2 ?_
  refine takeH 3 ?_
  refine takeH 4 ?_
  refine takeH 5 ?_
  refine takeH 6 ?_
  refine wpAnyH_ready (rs := [7]) (by kernel_rfl) (by simp) ?_
  refine AllReadyH.cons (i := 7) rfl (fun K hK => ?_) AllReadyH.nil
  go_simp
  refine (implPop C _ g n c s (n - 1) f (H1.out.keep (show Below W.heap.size W _ by exact beloA)) HJ.out h0 hp).mono ?_
  rintro e w1 ⟨rfl, k1, v3, hw1, h1⟩
  have hfr : Fr [g] W w1 := by rw [hw1]; exact frcA
  have hS7 : w1.cell? ⟨g, (n - 1) * 11 + 4, none⟩ = some (.slice (some ⟨g4, 0, none⟩) n4 c4) ∧ w1.cell? ⟨w.heap.size, 1, none⟩ = some (.int .i64 k) := ⟨by rw [hw1]; simp [go_sem, (hS.out W (Below.refl _ _)).1], (World.cell?_of_block (a := ⟨w.heap.size, 1, none⟩) (hfr.block w.heap.size hzW (by simp; omega))).trans (hS.out W (Below.refl _ _)).2⟩
  obtain ⟨g4', n4', c4', r4, hnx, y1, y2, y3, _, _, _⟩ := h1.varAt (MS.put_get HJ.out) (k := k) (show k < (fGo f f.2.2.1 (fPile f).dropLast).2.2.2.2.1.length from hk)
  obtain ⟨rfl, rfl, rfl⟩ : g4' = g4 ∧ n4' = n4 ∧ c4' = c4 := (by have := r4.symm.trans hS7.1; simpa using this)
  have h2 := h1.pVar (MS.put_get HJ.out) r4 hl (i := k) hk
  rw [MS.put_put] at h2
  have H2 := Lib.hid h2
  clear h2 h1 hw1 r4 hnx
  refine hK.out _ _ (hS7) (fun hR7 => ?_)
  clear hK K
  try simp only [Act.put, List.getElem_toArray, List.getElem_cons_zero, List.getElem_cons_succ, List.setIfInBounds_toArray, List.set_cons_zero, List.set_cons_succ]
  refine takeH 8 ?_
  refine wpAnyH_done (by kernel_rfl) ?_ _
  refine lastQ_op rfl (fun K hK => ?_)
  rw [if_pos (by rfl)]
  go_simp
  refine hK _ _ ?_
  clear hK K
  refine NoPanic.normal ?_
  go_wp2_with fail
  go_end0
  exact ⟨rfl, H2.out⟩
theorem implPlain12 (C : Cfg) (w : World) (g n c : Nat) (s : MS) (f : Frame) (h : MM C w (.slice (some ⟨g, 0, none⟩) n c) s) (hj : s.fs.reverse[n - 1]? = some f) (k : Nat) (hk : k < f.2.2.2.2.2.1.length) (hk2 : k ≤ 1000000) (hid : I64 f.1) (hno : s.notes.length ≤ 4000000) :
    Calls Tryz.prog 59 #[.pointer (some ⟨C.M, 0, none⟩), .pointer (some ⟨g, (n - 1) * 11, none⟩), .agg #[.int .i64 12, .int .i64 k]] w (RetPut C g n c ({ (s.put (n - 1) (fFlags f (f.2.2.2.2.2.1.set k true))) with notes := s.notes ++ [(1, f.1, (k : Int))] }) w) := by
  have HH := Lib.hid h
  obtain ⟨g5, n5, c5, r5, hn5, d1, d2, hg5, hg5g, _⟩ := h.flagAt hj hk
  have hkn : k < n5 := by omega
  have hkI : (k : Int) < (n5 : Int) := by omega
  have HJ := Lib.hid hj
  have hgl : g < w.heap.size := World.block_lt_of_cell? w _ r5
  clear h hj hn5
  go_enter Tryz.func59, Tryz.ntmps59
  go_upto_region 29 with fail
  obtain ⟨W, hW⟩ : ∃ W, W = w.alloc (.cells #[.int .i64 12, .int .i64 k] 84) := ⟨_, rfl⟩
  have hbW : Below w.heap.size w W := by rw [hW]; exact belA
  have hzW : w.heap.size < W.heap.size := by rw [hW]; simp
  have hS := Lib.hid (show ∀ V', Below W.heap.size W V' → V'.cell? ⟨g, (n - 1) * 11 + 5, none⟩ = some (.slice (some ⟨g5, 0, none⟩) n5 c5) ∧ V'.cell? ⟨w.heap.size, 1, none⟩ = some (.int .i64 k) from fun V' hV => ⟨below_cell hV (below_cell hbW r5), below_cell hV (by rw [hW]; simp [go_sem])⟩)
  have H1 := Lib.hid (HH.out.keep hbW)
  obtain ⟨y, hy⟩ : ∃ y, W.cell? ⟨g5, k, none⟩ = some (.bool y) := ⟨_, below_cell hbW d1⟩
  have hfz : W.frozen? ⟨g5, k, none⟩ = false := below_frozen hbW hg5 d2
  have hg5W : g5 < W.heap.size := by omega
  rw [← hW]
  clear hW r5 d1 d2
  refine wp_region_noPanic ?_
  refine wp_region_cut (S := (fun V' => V'.cell? ⟨g, (n - 1) * 11 + 5, none⟩ = some (.slice (some ⟨g5, 0, none⟩) n5 c5) ∧ V'.cell? ⟨w.heap.size, 1, none⟩ = some (.int .i64 k))) 7 (by kernel_rfl) (by kernel_rfl) (hS.out _ (show Below W.heap.size W _ by exact beloA)) (fun hR0 => ?_)
  simp only [headOps, List.take_succ_cons, List.take_zero]
  refine takeH 0 ?_
  refine takeH 1 ?_
  refine takeH 2 ?_
  refine takeH 3 ?_
  refine takeH 4 ?_
  refine takeH 5 ?_
  refine takeH 6 ?_
  refine wpAnyH_done (by kernel_rfl) ?_ _
  refine lastQ_op rfl (fun K hK => ?_)
  rw [if_pos (by rfl)]
  go_simp
  refine hK _ _ ?_
  clear hK K
  refine NoPanic.normal ?_
  obtain ⟨V, hV⟩ : ∃ V, V = (W.setCell ⟨g5, k, none⟩ (.bool true)).drew := ⟨_, rfl⟩
  have h3 : MM C V (.slice (some ⟨g, 0, none⟩) n c) (s.put (n - 1) (fFlags f (f.2.2.2.2.2.1.set k true))) := by rw [hV]; exact (H1.out.pFlag HJ.out (hS.out W (Below.refl _ _)).1 hk).keep (by exact beloA)
  have hfV : Fr [g5] W V := by rw [hV]; exact frcA
  have hb1 : V.cell? ⟨w.heap.size, 1, none⟩ = some (.int .i64 k) := (World.cell?_of_block (a := ⟨w.heap.size, 1, none⟩) (hfV.block w.heap.size hzW (by simp; omega))).trans (hS.out W (Below.refl _ _)).2
  obtain ⟨_, _, _, _, _, _, _, _, ho⟩ := h3.opg (MS.put_get HJ.out)
  have c0 := ho.fv.c0
  have hS2 := Lib.hid (show ∀ V', Below V.heap.size V V' → V'.cell? ⟨g, (n - 1) * 11, none⟩ = some (.int .i64 f.1) ∧ V'.cell? ⟨w.heap.size, 1, none⟩ = some (.int .i64 k) from fun V' hV' => ⟨below_cell hV' c0, below_cell hV' hb1⟩)
  have H3 := Lib.hid h3
  rw [← hV]
  clear hV ho c0 h3 hb1 hy hfz
  go_upto_region 30 with fail
  refine wp_region_noPanic ?_
  refine wp_region_cut (S := (fun V' => V'.cell? ⟨g, (n - 1) * 11, none⟩ = some (.int .i64 f.1) ∧ V'.cell? ⟨w.heap.size, 1, none⟩ = some (.int .i64 k))) 7 (by kernel_rfl) (by kernel_rfl) (hS2.out _ (show Below V.heap.size V _ by exact beloA)) (fun hR0 => ?_)
  simp only [headOps, List.take_succ_cons, List.take_zero]
  refine takeH 0 ?_
  refine takeH 1 ?_
  refine takeH 2 ?_
  refine takeH 3 ?_
  refine takeH 4 ?_
  refine takeH 5 ?_
  refine takeH 6 ?_
  refine wpAnyH_done (by kernel_rfl) ?_ _
  refine lastQ_op rfl (fun K hK => ?_)
  rw [if_pos (by rfl)]
  go_simp
  refine (implNote C _ (.slice (some ⟨g, 0, none⟩) n c) _ 1 f.1 k (by unfold I64; omega) hid (by unfold I64; omega) (H3.out.keep (show Below V.heap.size V _ by exact beloA)) hno).mono ?_
  rintro e w1 ⟨rfl, h1, _⟩
  refine hK _ _ ?_
  clear hK K
  refine NoPanic.normal ?_
  go_wp2_with fail
  go_end0
  exact ⟨rfl, h1⟩
theorem implPlain5a (C : Cfg) (w : World) (g n c : Nat) (s : MS) (f : Frame) (h : MM C w (.slice (some ⟨g, 0, none⟩) n c) s) (hj : s.fs.reverse[n - 1]? = some f) (v : Int) (hlt : s.used < C.ins.length) (hp : (fPile f).length ≤ 1000000) :
    Calls Tryz.prog 59 #[.pointer (some ⟨C.M, 0, none⟩), .pointer (some ⟨g, (n - 1) * 11, none⟩), .agg #[.int .i64 5, .int .i64 v]] w (RetPut C g n c (({ s with used := s.used + 1 } : MS).put (n - 1) (fGo f f.2.2.1 (fPile f ++ [C.ins.getD s.used 0]))) w) := by
  have HH := Lib.hid h
  obtain ⟨_, hin, hB⟩ := h.xs
  have hni := hin.lenEq
  have hun : s.used < C.ni := by omega
  obtain ⟨bi, oi, eA, _, q2, hc1, hi1⟩ := hin.int_at (k := s.used) hun
  obtain ⟨y, hy⟩ : ∃ y, y = C.ins[s.used]'hlt := ⟨_, rfl⟩
  have HG := Lib.hid (show C.ins.getD s.used 0 = y by rw [hy]; simp [List.getD, hlt])
  rw [← hy] at hc1 hi1
  obtain ⟨_, _, mv⟩ := h.mv
  have m1 := mv.m1
  have m5 := mv.m5
  have hM := mv.lt
  rw [eA] at m1
  have hd : decide ((s.used : Int) < (C.ni : Int)) = true := decide_eq_true (by omega)
  have hd2 : (s.used : Int) < (C.ni : Int) := by omega
  have hub : s.used ≤ 9223372036854775806 := by have := hin.lenLe; omega
  have HJ := Lib.hid hj
  have hS := Lib.hid (show ∀ V', Below w.heap.size w V' → V'.cell? ⟨C.M, 1, none⟩ = some (.slice (some ⟨bi, oi, none⟩) C.ni C.ci) ∧ V'.cell? ⟨C.M, 5, none⟩ = some (.int .i64 s.used) ∧ V'.cell? ⟨bi, oi + s.used, none⟩ = some (.int .i64 y) from fun V' hV => ⟨below_cell hV m1, below_cell hV m5, below_cell hV hc1⟩)
  clear hy hin hni eA h hj m1 m5 hc1 mv
  go_enter Tryz.func59, Tryz.ntmps59
  go_upto_region 10 with fail
  obtain ⟨W, hW⟩ : ∃ W, W = w.alloc (.cells #[.int .i64 5, .int .i64 v] 84) := ⟨_, rfl⟩
  have hbW : Below w.heap.size w W := by rw [hW]; exact belA
  rw [← hW]
  clear hW
  obtain ⟨q0, q1, q2'⟩ := hS.out W hbW
  go_quiet (fail)
  go_upto_region 11 with fail
  obtain ⟨W1, hW1⟩ : ∃ V, V = W.drewN nq := ⟨_, rfl⟩
  have hb1 : Below w.heap.size w W1 := by rw [hW1]; exact belA
  rw [← hW1]
  clear hW1 q0 q1 q2'
  obtain ⟨q0, q1, q2'⟩ := hS.out W1 hb1
  go_quiet (fail)
  go_upto_region 12 with fail
  rename_i nq2 _ _
  obtain ⟨V, hV⟩ : ∃ V, V = W1.drewN nq := ⟨_, rfl⟩
  have hbV : Below w.heap.size w V := by rw [hV]; exact belA
  rw [← hV]
  clear hV q0 q1 q2'
  obtain ⟨q0, q1, q2'⟩ := hS.out V hbV
  have h2 := HH.out.keep hbV
  obtain ⟨_, _, mv⟩ := h2.mv
  have fz5 := mv.fz 5
  have hMV := mv.lt
  have h3 := h2.setUsed (s.used + 1)
  rw [show ((s.used + 1 : Nat) : Int) = (s.used : Int) + 1 by omega] at h3
  have H3 := Lib.hid h3
  clear h2 h3 mv
  go_wp2_with fail
  refine (implPush C _ g n c { s with used := s.used + 1 } (n - 1) f y hi1 H3.out HJ.out hp).mono ?_
  rintro e w1 ⟨rfl, h1⟩
  go_wp2_with fail
  go_end0
  rw [HG.out]
  exact ⟨rfl, h1⟩
theorem implPlain5b (C : Cfg) (w : World) (g n c : Nat) (s : MS) (f : Frame) (h : MM C w (.slice (some ⟨g, 0, none⟩) n c) s) (hj : s.fs.reverse[n - 1]? = some f) (v : Int) (hlt : C.ins.length ≤ s.used) (hub : s.used ≤ 9223372036854775806) (hp : (fPile f).length ≤ 1000000) :
    Calls Tryz.prog 59 #[.pointer (some ⟨C.M, 0, none⟩), .pointer (some ⟨g, (n - 1) * 11, none⟩), .agg #[.int .i64 5, .int .i64 v]] w (RetPut C g n c (s.put (n - 1) (fGo f f.2.2.1 (fPile f ++ [0]))) w) := by
  have HH := Lib.hid h
  obtain ⟨_, hin, hB⟩ := h.xs
  have hni := hin.lenEq
  obtain ⟨_, _, mv⟩ := h.mv
  have m1 := mv.m1
  have m5 := mv.m5
  have hM := mv.lt
  have hd : decide ((s.used : Int) < (C.ni : Int)) = false := decide_eq_false (by omega)
  have hd2 : ¬ (s.used : Int) < (C.ni : Int) := by omega
  have HJ := Lib.hid hj
  have hS := Lib.hid (show ∀ V', Below w.heap.size w V' → V'.cell? ⟨C.M, 1, none⟩ = some (.slice C.ai C.ni C.ci) ∧ V'.cell? ⟨C.M, 5, none⟩ = some (.int .i64 s.used) from fun V' hV => ⟨below_cell hV m1, below_cell hV m5⟩)
  clear hin hni h hj m1 m5 mv hlt
  go_enter Tryz.func59, Tryz.ntmps59
  go_upto_region 10 with fail
  obtain ⟨W, hW⟩ : ∃ W, W = w.alloc (.cells #[.int .i64 5, .int .i64 v] 84) := ⟨_, rfl⟩
  have hbW : Below w.heap.size w W := by rw [hW]; exact belA
  rw [← hW]
  clear hW
  obtain ⟨q0, q1⟩ := hS.out W hbW
  go_quiet (fail)
  go_wp2_with fail
  refine (implPush C _ g n c s (n - 1) f 0 (by unfold I64; omega) ((HH.out.keep hbW).drewN nq) HJ.out hp).mono ?_
  rintro e w1 ⟨rfl, h1⟩
  go_wp2_with fail
  go_end0
  exact ⟨rfl, h1⟩
theorem implPlain6a (C : Cfg) (w : World) (g n c : Nat) (s : MS) (f : Frame) (h : MM C w (.slice (some ⟨g, 0, none⟩) n c) s) (hj : s.fs.reverse[n - 1]? = some f) (v : Int) (hoff : frOff f = false) (hp : (fPile f).length ≤ 1000000) :
    Calls Tryz.prog 59 #[.pointer (some ⟨C.M, 0, none⟩), .pointer (some ⟨g, (n - 1) * 11, none⟩), .agg #[.int .i64 6, .int .i64 v]] w (RetPut C g n c (s.put (n - 1) (fGo f f.2.2.1 (fPile f ++ [0]))) w) := by
  have HH := Lib.hid h
  have HJ := Lib.hid hj
  obtain ⟨_, _, _, _, _, _, _, _, ho⟩ := h.opg hj
  have c10 := ho.fv.c10
  have hg := ho.fv.lt
  rw [hoff] at c10
  clear h hj ho hoff
  go_enter Tryz.func59, Tryz.ntmps59
  go_upto_region 21 with fail
  obtain ⟨W, hW⟩ : ∃ W, W = w.alloc (.cells #[.int .i64 6, .int .i64 v] 84) := ⟨_, rfl⟩
  have hbW : Below w.heap.size w W := by rw [hW]; exact belA
  rw [← hW]
  clear hW
  go_wp2_with fail
  refine (implPush C W g n c s (n - 1) f 0 (by unfold I64; omega) (HH.out.keep hbW) HJ.out hp).mono ?_
  rintro e w1 ⟨rfl, h1⟩
  go_wp2_with fail
  go_end0
  exact ⟨rfl, h1⟩
theorem implPlain6b (C : Cfg) (w : World) (g n c : Nat) (s : MS) (f : Frame) (h : MM C w (.slice (some ⟨g, 0, none⟩) n c) s) (hj : s.fs.reverse[n - 1]? = some f) (v : Int) (b : Frame) (hoff : frOff f = true) (hn2 : 2 ≤ n) (hn1 : n ≤ 1000000) (hnc : n ≤ c) (hcm : c ≤ 9223372036854775807) (hb : s.fs.reverse[n - 2]? = some b) (hp : (fPile f).length ≤ 1000000) (hmd : ¬ modeOf b = 2) :
    Calls Tryz.prog 59 #[.pointer (some ⟨C.M, 0, none⟩), .pointer (some ⟨g, (n - 1) * 11, none⟩), .agg #[.int .i64 6, .int .i64 v]] w (RetPut C g n c (s.put (n - 1) (fGo f f.2.2.1 (fPile f ++ [0]))) w) := by
  have HH := Lib.hid h
  have HJ := Lib.hid hj
  have HB := Lib.hid hb
  obtain ⟨_, _, _, _, _, _, _, _, ho⟩ := h.opg hj
  have c10 := ho.fv.c10
  rw [hoff] at c10
  obtain ⟨_, _, mv⟩ := h.mv
  have m3 := mv.m3
  have hM := mv.lt
  obtain ⟨_, _, _, _, _, _, _, _, hob⟩ := h.opg hb
  have b7 := hob.fv.c7
  have b8 := hob.fv.c8
  have b9 := hob.fv.c9
  have hg := hob.fv.lt
  have e1 : ((n : Int) - 2) = ((n - 2 : Nat) : Int) := by omega
  have e2 : n - 2 < n := by omega
  have hS := Lib.hid (show ∀ V', Below w.heap.size w V' → V'.cell? ⟨C.M, 3, none⟩ = some (.slice (some ⟨g, 0, none⟩) n c) ∧ V'.cell? ⟨g, (n - 2) * 11 + 7, none⟩ = some (.int .i64 (modeOf b)) ∧ V'.cell? ⟨g, (n - 2) * 11 + 8, none⟩ = some (.int .i64 (valOf b)) ∧ V'.cell? ⟨g, (n - 2) * 11 + 9, none⟩ = some (.int .i64 (baseOf b)) from fun V' hV => ⟨below_cell hV m3, below_cell hV b7, below_cell hV b8, below_cell hV b9⟩)
  clear h hj hb ho hob mv hoff m3 b7 b8 b9
  go_enter Tryz.func59, Tryz.ntmps59
  go_upto_region 17 with fail
  obtain ⟨W, hW⟩ : ∃ W, W = w.alloc (.cells #[.int .i64 6, .int .i64 v] 84) := ⟨_, rfl⟩
  have hbW : Below w.heap.size w W := by rw [hW]; exact belA
  rw [← hW]
  clear hW c10
  obtain ⟨q0, q1, q2, q3⟩ := hS.out W hbW
  go_quiet (fail)
  go_wp2_with fail
  refine (implPush C _ g n c s (n - 1) f 0 (by unfold I64; omega) ((HH.out.keep hbW).drewN nq) HJ.out hp).mono ?_
  rintro e w1 ⟨rfl, h1⟩
  go_wp2_with fail
  go_end0
  exact ⟨rfl, h1⟩
theorem implPlain6c (C : Cfg) (w : World) (g n c : Nat) (s : MS) (f : Frame) (h : MM C w (.slice (some ⟨g, 0, none⟩) n c) s) (hj : s.fs.reverse[n - 1]? = some f) (v : Int) (b : Frame) (hoff : frOff f = true) (hn2 : 2 ≤ n) (hn1 : n ≤ 1000000) (hnc : n ≤ c) (hcm : c ≤ 9223372036854775807) (hb : s.fs.reverse[n - 2]? = some b) (hp : (fPile f).length ≤ 1000000) (hmd : modeOf b = 2) (hv8 : I64 (valOf b)) (hv9 : I64 (baseOf b)) :
    Calls Tryz.prog 59 #[.pointer (some ⟨C.M, 0, none⟩), .pointer (some ⟨g, (n - 1) * 11, none⟩), .agg #[.int .i64 6, .int .i64 v]] w (RetPut C g n c ((s.put (n - 2) (fMode b (baseOf b))).put (n - 1) (fGo f f.2.2.1 (fPile f ++ [valOf b]))) w) := by
  have HH := Lib.hid h
  have HJ := Lib.hid hj
  have HB := Lib.hid hb
  obtain ⟨_, _, _, _, _, _, _, _, ho⟩ := h.opg hj
  have c10 := ho.fv.c10
  rw [hoff] at c10
  obtain ⟨_, _, mv⟩ := h.mv
  have m3 := mv.m3
  have hM := mv.lt
  obtain ⟨_, _, _, _, _, _, _, _, hob⟩ := h.opg hb
  have b7 := hob.fv.c7
  have b8 := hob.fv.c8
  have b9 := hob.fv.c9
  have hg := hob.fv.lt
  have e1 : ((n : Int) - 2) = ((n - 2 : Nat) : Int) := by omega
  have e2 : n - 2 < n := by omega
  have hS := Lib.hid (show ∀ V', Below w.heap.size w V' → V'.cell? ⟨C.M, 3, none⟩ = some (.slice (some ⟨g, 0, none⟩) n c) ∧ V'.cell? ⟨g, (n - 2) * 11 + 7, none⟩ = some (.int .i64 (modeOf b)) ∧ V'.cell? ⟨g, (n - 2) * 11 + 8, none⟩ = some (.int .i64 (valOf b)) ∧ V'.cell? ⟨g, (n - 2) * 11 + 9, none⟩ = some (.int .i64 (baseOf b)) from fun V' hV => ⟨below_cell hV m3, below_cell hV b7, below_cell hV b8, below_cell hV b9⟩)
  clear h hj hb ho hob mv hoff m3 b7 b8 b9
  go_enter Tryz.func59, Tryz.ntmps59
  go_upto_region 17 with fail
  obtain ⟨W, hW⟩ : ∃ W, W = w.alloc (.cells #[.int .i64 6, .int .i64 v] 84) := ⟨_, rfl⟩
  have hbW : Below w.heap.size w W := by rw [hW]; exact belA
  rw [← hW]
  clear hW c10
  obtain ⟨q0, q1, q2, q3⟩ := hS.out W hbW
  rw [hmd] at q1
  go_quiet (fail)
  go_upto_region 19 with fail
  obtain ⟨V, hV⟩ : ∃ V, V = W.drewN nq := ⟨_, rfl⟩
  have hV0 := (HH.out.keep hbW).drewN nq
  rw [← hV] at hV0 ⊢
  have hbV : Below w.heap.size w V := by rw [hV]; exact belA
  clear hV q0 q1 q2 q3
  obtain ⟨q0, q1, q2, q3⟩ := hS.out V hbV
  obtain ⟨_, _, _, _, _, _, _, _, ho⟩ := hV0.opg HB.out
  have fz7 := ho.fv.fz ((n - 2) * 11 + 7)
  have hgV := ho.fv.lt
  have h2 := hV0.pMode HB.out hv9
  have hj2 : (s.put (n - 2) (fMode b (baseOf b))).fs.reverse[n - 1]? = some f := by
    rw [MS.put_rev, List.getElem?_set_ne (by omega)]; exact HJ.out
  have H2 := Lib.hid h2
  have HJ2 := Lib.hid hj2
  clear h2 hj2 hV0 ho
  go_wp2_with fail
  refine (implPush C _ g n c _ (n - 1) f (valOf b) hv8 H2.out HJ2.out hp).mono ?_
  rintro e w1 ⟨rfl, h1⟩
  go_wp2_with fail
  go_end0
  exact ⟨rfl, h1⟩
theorem implPlain8 (C : Cfg) (w : World) (g n c : Nat) (s : MS) (f : Frame) (h : MM C w (.slice (some ⟨g, 0, none⟩) n c) s) (hj : s.fs.reverse[n - 1]? = some f) (v : Int) (hl : I64 (lastN (fPile f))) (htr : s.tr.length ≤ 4000000) (h0 : 0 < (fPile f).length) (hp : (fPile f).length ≤ 1000000) :
    Calls Tryz.prog 59 #[.pointer (some ⟨C.M, 0, none⟩), .pointer (some ⟨g, (n - 1) * 11, none⟩), .agg #[.int .i64 8, .int .i64 v]] w (RetPut C g n c ({ (s.put (n - 1) (fGo f f.2.2.1 (fPile f).dropLast)) with tr := s.tr ++ [lastN (fPile f)] }) w) := by
  have HH := Lib.hid h
  have HJ := Lib.hid hj
  obtain ⟨vt, vn, mv⟩ := h.mv
  have m4 := mv.m4
  have hM := mv.lt
  obtain ⟨_, _, _, _, _, _, _, _, ho⟩ := h.opg hj
  have gM := ho.fv.gM
  have hg := ho.fv.lt
  clear h hj mv ho
  go_enter Tryz.func59, Tryz.ntmps59
  go_upto_region 23 with fail
  obtain ⟨W, hW⟩ : ∃ W, W = w.alloc (.cells #[.int .i64 8, .int .i64 v] 84) := ⟨_, rfl⟩
  have hbW : Below w.heap.size w W := by rw [hW]; exact belA
  have hzW := hbW.size
  have hS := Lib.hid (show ∀ V', Below w.heap.size w V' → V'.cell? ⟨C.M, 4, none⟩ = some vt from fun V' hV => below_cell hV m4)
  have H1 := Lib.hid (HH.out.keep hbW)
  rw [← hW]
  clear hW m4
  refine wp_region_noPanic ?_
  refine wp_region_cut (S := (fun V' => V'.cell? ⟨C.M, 4, none⟩ = some vt)) 13 (by kernel_rfl) (by kernel_rfl) (hS.out _ (show Below w.heap.size w _ by exact beloA)) (fun hR0 => ?_)
  simp only [headOps, List.take_succ_cons, List.take_zero]
  refine takeH 0 ?_
  refine takeH 1 ?_
  refine takeH 2 ?_
  refine takeH 3 ?_
  refine takeH 4 ?_
  refine takeH 5 ?_
  refine takeH 6 ?_
  refine wpAnyH_ready (rs := [7]) (by kernel_rfl) (by simp) ?_
  refine AllReadyH.cons (i := 7) rfl (fun K hK => ?_) AllReadyH.nil
  go_simp
  refine (implPop C _ g n c s (n - 1) f (H1.out.keep (show Below W.heap.size W _ by exact beloA)) HJ.out h0 hp).mono ?_
  rintro e w1 ⟨rfl, k1, v3, hw1, h1⟩
  have hfr : Fr [g] W w1 := by rw [hw1]; exact frcA
  have hS7 : w1.cell? ⟨C.M, 4, none⟩ = some vt := (World.cell?_of_block (a := ⟨C.M, 4, none⟩) (hfr.block C.M (by omega) (by simp; exact fun e => gM e.symm))).trans (hS.out W hbW)
  have hz1 := hfr.size
  have H7 := Lib.hid h1
  clear h1 hw1
  refine hK.out _ _ (hS7) (fun hR7 => ?_)
  clear hK K
  try simp only [Act.put, List.getElem_toArray, List.getElem_cons_zero, List.getElem_cons_succ, List.setIfInBounds_toArray, List.set_cons_zero, List.set_cons_succ]
  refine wpAnyH_ready (rs := [8]) (by kernel_rfl) (by simp) ?_
  refine AllReadyH.cons (i := 8) rfl (fun K hK => ?_) AllReadyH.nil
  go_simp
  refine hK.out _ _ (below_cell (show Below w1.heap.size w1 _ by exact beloA) hS7) (fun hR8 => ?_)
  clear hK K
  try simp only [Act.put, List.getElem_toArray, List.getElem_cons_zero, List.getElem_cons_succ, List.setIfInBounds_toArray, List.set_cons_zero, List.set_cons_succ]
  refine wpAnyH_ready (rs := [9]) (by kernel_rfl) (by simp) ?_
  refine AllReadyH.cons (i := 9) rfl (fun K hK => ?_) AllReadyH.nil
  obtain ⟨VA, hVA⟩ : ∃ VA, VA = w1.alloc (.cells #[.int .i64 (lastN (fPile f))] 3) := ⟨_, rfl⟩
  have hbA : Below w1.heap.size w1 VA := by rw [hVA]; exact belA
  have hXA : VA.heap[w1.heap.size]? = some (.cells #[.int .i64 (lastN (fPile f))] 3) := by rw [hVA]; exact alloc_new' (w := w1) rfl
  have hszA : VA.heap.size = w1.heap.size + 1 := by rw [hVA]; simp
  rw [← hVA]
  clear hVA
  have hA := H7.out.keep hbA
  obtain ⟨vt', xs, r4', hxs, hng, put⟩ := hA.traced
  obtain rfl : vt' = vt := (by have := r4'.symm.trans (below_cell hbA hS7); simpa using this)
  have HPUT := Lib.hid put
  refine step_int1 (by rfl) _ _ (by rfl) vt' s.tr.length xs (by rfl) hxs w1.heap.size (lastN (fPile f)) _ (by rfl) hXA htr ?_
  intro Av nv cv wk HO HG HBK
  have kM : wk.heap[C.M]? = VA.heap[C.M]? := HG.out.block C.M (by omega) (fun e => hng e.symm)
  have hS9 : wk.cell? ⟨C.M, 4, none⟩ = some vt' := (World.cell?_of_block (a := ⟨C.M, 4, none⟩) kM).trans r4'
  have fzk : wk.frozen? ⟨C.M, 4, none⟩ = false := (by rw [World.frozen?_of_block (a := ⟨C.M, 4, none⟩) kM]; obtain ⟨_, _, mvA⟩ := hA.mv; exact mvA.fz 4)
  have hMk : C.M < wk.heap.size := (by have := HG.out.size; omega)
  clear hA put hxs hng kM hXA r4'
  refine hK.out _ _ (hS9) (fun hR9 => ?_)
  clear hK K
  try simp only [Act.put, List.getElem_toArray, List.getElem_cons_zero, List.getElem_cons_succ, List.setIfInBounds_toArray, List.set_cons_zero, List.set_cons_succ]
  refine takeH 10 ?_
  refine takeH 11 ?_
  refine takeH 12 ?_
  refine wpAnyH_done (by kernel_rfl) ?_ _
  refine lastQ_op rfl (fun K hK => ?_)
  rw [if_pos (by rfl)]
  go_simp
  refine hK _ _ ?_
  clear hK K
  refine NoPanic.normal ?_
  go_wp2_with fail
  go_end0
  exact ⟨rfl, HPUT.out _ wk _ hl HO.out HG.out HBK.out⟩
end Go.Proofs.YtgdeclmciflmpaaGreat

/- One step of the program's machine: walks. Printed by stepi6gen.py. -/
set_option linter.unusedVariables false
set_option linter.unusedSimpArgs false
set_option maxRecDepth 100000
namespace Go.Proofs.YtgdeclmciflmpaaGreat
open Go.RowKit
attribute [local irreducible] wpList
theorem ins64 {i : Ins} (h : insB i = true) : I64 i.2 := by
  unfold insB at h
  split at h
  · exact I64_of h
  · split at h
    · have := inB_iff.1 h; unfold I64; omega
    · split at h
      · have := inB_iff.1 h; unfold I64; omega
      · simp only [Bool.and_eq_true, beq_iff_eq] at h
        rw [h.2]; unfold I64; omega
theorem cell_fr1 {F : List Nat} {w w' : World} {b o : Nat} {v : Value} (hf : Fr F w w') (hn : b ∉ F) (h : w.cell? ⟨b, o, none⟩ = some v) : w'.cell? ⟨b, o, none⟩ = some v :=
  (World.cell?_of_block (a := ⟨b, o, none⟩) (hf.block b (World.block_lt_of_cell? w _ h) hn)).trans h
set_option maxHeartbeats 4000000 in
theorem implStep10 (C : Cfg) (w : World) (vf : Value) (s : MS) (f : Frame) (rest : List Frame) (N : Nat) (h : MM C w vf s) (R : Rdy C.x C.ins C.most N s f rest) (hK : (fIns C.x f).1 = 10) :
    Calls Tryz.prog 28 #[.pointer (some ⟨C.M, 0, none⟩)] w (RetN C (stepF C.x C.ins C.most s) w) := by
  obtain ⟨g, n, c, rfl, hn, h0, hnc, hcm, hj⟩ := h.opens R.fs
  have hn1 : n ≤ 1000000 := by have := R.ok.many; omega
  have FW := Lib.hid R.fw
  have HIW := Lib.hid R.insW
  have hpl := R.pile
  have HE := Lib.hid (show stepF C.x C.ins C.most s = stepI C.x C.ins C.most s f rest (fIns C.x f) by unfold stepF; rw [R.fs])
  obtain ⟨N2, hN2⟩ : ∃ N2, (fIns C.x f).2 = N2 := ⟨_, rfl⟩
  have i2 : I64 N2 := hN2 ▸ ins64 R.insW.1
  obtain ⟨fb, hfb⟩ := Int.eq_ofNat_of_zero_le FW.out.fn.1
  obtain ⟨pb, hpb⟩ := Int.eq_ofNat_of_zero_le FW.out.at_.1
  have hfbx : fb < C.x.length := by have := FW.out.fn.2; omega
  have hcd : fCode C.x f = codeD C.x (fb : Int) := by unfold fCode; rw [hfb]
  have hpbx : pb < (codeD C.x (fb : Int)).2.2.2.1.length := by have := FW.out.at_.2; rw [hcd, hpb] at this; omega
  have l5 : pb ≤ 1000000 := by have := FW.out.il; have := FW.out.at_.2; omega
  have l6 : fb ≤ 1000000 := by have := FW.out.xl; omega
  have hIe : fIns C.x f = (10, N2) := by rw [← hK, ← hN2]
  have HIE := Lib.hid hIe
  have HN := Lib.hid hn
  have HJ := Lib.hid hj
  have RR := Lib.hid R
  have HH := Lib.hid h
  clear hn hj R h
  go_enter Tryz.func28, Tryz.ntmps28
  go_wp2_with fail
  refine (implTop C _ g n c s HH.out h0 hn1 hnc hcm).mono ?_
  rintro e w1 ⟨rfl, k1, hw1⟩
  have h2 : MM C w1 (.slice (some ⟨g, 0, none⟩) n c) s := by rw [hw1]; exact HH.out.drewN k1
  clear hw1
  obtain ⟨bc, oc, bi, oi, k3, d3, eA, hnx, hk3, hbc, hbi, u3, u5, u6, _, _⟩ := h2.insCells hfbx hpbx
  have hop : insAt (codeD C.x (fb : Int)).2.2.2.1 (pb : Int) = fIns C.x f := by unfold fIns; rw [hcd, hpb]
  rw [hop, hIe] at u5 u6
  obtain ⟨_, _, mv⟩ := h2.mv
  have m0 := mv.m0
  rw [eA] at m0
  obtain ⟨_, _, _, _, _, _, _, _, ho⟩ := h2.opg HJ.out
  have c1 := ho.fv.c1
  have c2 := ho.fv.c2
  rw [hfb] at c1
  rw [hpb] at c2
  have hgl := ho.fv.lt
  have hM3 := mv.lt
  have hgM := ho.fv.gM
  obtain ⟨_, _, hBw⟩ := h2.xs
  have l1 : fb < C.nx := by omega
  have l2 : (fb : Int) < (C.nx : Int) := by omega
  have l3 : pb < k3 := by omega
  have l4 : (pb : Int) < (k3 : Int) := by omega
  have hS := Lib.hid (show ∀ V', Below w1.heap.size w1 V' → V'.cell? ⟨C.M, 0, none⟩ = some (.slice (some ⟨bc, oc, none⟩) C.nx C.cx) ∧ V'.cell? ⟨g, (n - 1) * 11 + 1, none⟩ = some (.int .i64 fb) ∧ V'.cell? ⟨g, (n - 1) * 11 + 2, none⟩ = some (.int .i64 pb) ∧ V'.cell? ⟨bc, oc + fb * 5 + 3, none⟩ = some (.slice (some ⟨bi, oi, none⟩) k3 d3) ∧ V'.cell? ⟨bi, oi + pb * 2, none⟩ = some (.int .i64 10) ∧ V'.cell? ⟨bi, oi + pb * 2 + 1, none⟩ = some (.int .i64 N2) from fun V' hV => ⟨below_cell hV m0, below_cell hV c1, below_cell hV c2, below_cell hV u3, below_cell hV u5, below_cell hV u6⟩)
  have HPB := Lib.hid hpb
  have H2 := Lib.hid h2
  clear mv ho h2 hk3 hnx hcd hpb hfb hop eA hIe hK hN2 m0 c1 c2 u3 u5 u6
  go_upto_region 1 with fail
  obtain ⟨q0, q1, q2, q3, q4, q5⟩ := hS.out w1 (Below.refl _ _)
  go_region_held3 (fun V' => V'.cell? ⟨C.M, 0, none⟩ = some (.slice (some ⟨bc, oc, none⟩) C.nx C.cx) ∧ V'.cell? ⟨g, (n - 1) * 11 + 1, none⟩ = some (.int .i64 fb) ∧ V'.cell? ⟨g, (n - 1) * 11 + 2, none⟩ = some (.int .i64 pb) ∧ V'.cell? ⟨bc, oc + fb * 5 + 3, none⟩ = some (.slice (some ⟨bi, oi, none⟩) k3 d3) ∧ V'.cell? ⟨bi, oi + pb * 2, none⟩ = some (.int .i64 10) ∧ V'.cell? ⟨bi, oi + pb * 2 + 1, none⟩ = some (.int .i64 N2)) (exact hS.out _ (show Below w1.heap.size w1 _ by exact beloA)) (fail)
  obtain ⟨W, hW⟩ : ∃ W, W = (w1.alloc (.cells #[.int .i64 10, .int .i64 N2] 84)).drew := ⟨_, rfl⟩
  have hbW : Below w1.heap.size w1 W := by rw [hW]; exact belA
  have hzW : W.heap.size = w1.heap.size + 1 := by rw [hW]; simp
  have b0 : W.cell? ⟨w1.heap.size, 0, none⟩ = some (.int .i64 10) := by rw [hW]; simp [go_sem]
  have b1 : W.cell? ⟨w1.heap.size, 1, none⟩ = some (.int .i64 N2) := by rw [hW]; simp [go_sem]
  have H3 := Lib.hid (H2.out.apart hbW (Fx := [w1.heap.size]) (fun k hk => by rw [List.mem_singleton.1 hk]; omega))
  have H1 := Lib.hid H3.out.less
  rw [← hW]
  obtain ⟨X, hX⟩ : ∃ X, w1.heap.size = X := ⟨_, rfl⟩
  rw [hX] at H3 hzW b0 b1 ⊢
  have hMX : C.M < X := by omega
  have hgX : g < X := by omega
  clear hW hbW hX H2 hS q0 q1 q2 q3 q4 q5 hgl hM3
  obtain ⟨_, _, _, _, _, _, _, _, ho⟩ := H1.out.opg HJ.out
  have c2 : W.cell? ⟨g, (n - 1) * 11 + 2, none⟩ = some (.int .i64 pb) := by rw [← HPB.out]; exact ho.fv.c2
  have fz2 := ho.fv.fz ((n - 1) * 11 + 2)
  have hgW := ho.fv.lt
  clear ho
  have h4 := H1.out.pAt HJ.out i2
  rw [MS.put_top RR.out.fs HN.out] at h4
  have H4 := Lib.hid h4
  have HF := Lib.hid (show stepF C.x C.ins C.most s = { s with fs := fGo f N2 (fPile f) :: rest } by rw [HE.out, HIE.out]; simp [stepI])
  clear h4
  go_wp2_with fail
  go_end0
  exact ⟨rfl, _, HF.out ▸ H4.out⟩
set_option maxHeartbeats 4000000 in
theorem implStep14 (C : Cfg) (w : World) (vf : Value) (s : MS) (f : Frame) (rest : List Frame) (N : Nat) (h : MM C w vf s) (R : Rdy C.x C.ins C.most N s f rest) (hK : (fIns C.x f).1 = 14) :
    Calls Tryz.prog 28 #[.pointer (some ⟨C.M, 0, none⟩)] w (RetN C (stepF C.x C.ins C.most s) w) := by
  obtain ⟨g, n, c, rfl, hn, h0, hnc, hcm, hj⟩ := h.opens R.fs
  have hn1 : n ≤ 1000000 := by have := R.ok.many; omega
  have FW := Lib.hid R.fw
  have HIW := Lib.hid R.insW
  have hpl := R.pile
  have HE := Lib.hid (show stepF C.x C.ins C.most s = stepI C.x C.ins C.most s f rest (fIns C.x f) by unfold stepF; rw [R.fs])
  obtain ⟨N2, hN2⟩ : ∃ N2, (fIns C.x f).2 = N2 := ⟨_, rfl⟩
  have i2 : I64 N2 := hN2 ▸ ins64 R.insW.1
  obtain ⟨fb, hfb⟩ := Int.eq_ofNat_of_zero_le FW.out.fn.1
  obtain ⟨pb, hpb⟩ := Int.eq_ofNat_of_zero_le FW.out.at_.1
  have hfbx : fb < C.x.length := by have := FW.out.fn.2; omega
  have hcd : fCode C.x f = codeD C.x (fb : Int) := by unfold fCode; rw [hfb]
  have hpbx : pb < (codeD C.x (fb : Int)).2.2.2.1.length := by have := FW.out.at_.2; rw [hcd, hpb] at this; omega
  have l5 : pb ≤ 1000000 := by have := FW.out.il; have := FW.out.at_.2; omega
  have l6 : fb ≤ 1000000 := by have := FW.out.xl; omega
  have hIe : fIns C.x f = (14, N2) := by rw [← hK, ← hN2]
  have HIE := Lib.hid hIe
  have HN := Lib.hid hn
  have HJ := Lib.hid hj
  have RR := Lib.hid R
  have HH := Lib.hid h
  clear hn hj R h
  go_enter Tryz.func28, Tryz.ntmps28
  go_wp2_with fail
  refine (implTop C _ g n c s HH.out h0 hn1 hnc hcm).mono ?_
  rintro e w1 ⟨rfl, k1, hw1⟩
  have h2 : MM C w1 (.slice (some ⟨g, 0, none⟩) n c) s := by rw [hw1]; exact HH.out.drewN k1
  clear hw1
  obtain ⟨bc, oc, bi, oi, k3, d3, eA, hnx, hk3, hbc, hbi, u3, u5, u6, _, _⟩ := h2.insCells hfbx hpbx
  have hop : insAt (codeD C.x (fb : Int)).2.2.2.1 (pb : Int) = fIns C.x f := by unfold fIns; rw [hcd, hpb]
  rw [hop, hIe] at u5 u6
  obtain ⟨_, _, mv⟩ := h2.mv
  have m0 := mv.m0
  rw [eA] at m0
  obtain ⟨_, _, _, _, _, _, _, _, ho⟩ := h2.opg HJ.out
  have c1 := ho.fv.c1
  have c2 := ho.fv.c2
  rw [hfb] at c1
  rw [hpb] at c2
  have hgl := ho.fv.lt
  have hM3 := mv.lt
  have hgM := ho.fv.gM
  obtain ⟨_, _, hBw⟩ := h2.xs
  have l1 : fb < C.nx := by omega
  have l2 : (fb : Int) < (C.nx : Int) := by omega
  have l3 : pb < k3 := by omega
  have l4 : (pb : Int) < (k3 : Int) := by omega
  have hS := Lib.hid (show ∀ V', Below w1.heap.size w1 V' → V'.cell? ⟨C.M, 0, none⟩ = some (.slice (some ⟨bc, oc, none⟩) C.nx C.cx) ∧ V'.cell? ⟨g, (n - 1) * 11 + 1, none⟩ = some (.int .i64 fb) ∧ V'.cell? ⟨g, (n - 1) * 11 + 2, none⟩ = some (.int .i64 pb) ∧ V'.cell? ⟨bc, oc + fb * 5 + 3, none⟩ = some (.slice (some ⟨bi, oi, none⟩) k3 d3) ∧ V'.cell? ⟨bi, oi + pb * 2, none⟩ = some (.int .i64 14) ∧ V'.cell? ⟨bi, oi + pb * 2 + 1, none⟩ = some (.int .i64 N2) from fun V' hV => ⟨below_cell hV m0, below_cell hV c1, below_cell hV c2, below_cell hV u3, below_cell hV u5, below_cell hV u6⟩)
  have HPB := Lib.hid hpb
  have H2 := Lib.hid h2
  clear mv ho h2 hk3 hnx hcd hpb hfb hop eA hIe hK hN2 m0 c1 c2 u3 u5 u6
  go_upto_region 1 with fail
  obtain ⟨q0, q1, q2, q3, q4, q5⟩ := hS.out w1 (Below.refl _ _)
  go_region_held3 (fun V' => V'.cell? ⟨C.M, 0, none⟩ = some (.slice (some ⟨bc, oc, none⟩) C.nx C.cx) ∧ V'.cell? ⟨g, (n - 1) * 11 + 1, none⟩ = some (.int .i64 fb) ∧ V'.cell? ⟨g, (n - 1) * 11 + 2, none⟩ = some (.int .i64 pb) ∧ V'.cell? ⟨bc, oc + fb * 5 + 3, none⟩ = some (.slice (some ⟨bi, oi, none⟩) k3 d3) ∧ V'.cell? ⟨bi, oi + pb * 2, none⟩ = some (.int .i64 14) ∧ V'.cell? ⟨bi, oi + pb * 2 + 1, none⟩ = some (.int .i64 N2)) (exact hS.out _ (show Below w1.heap.size w1 _ by exact beloA)) (fail)
  obtain ⟨W, hW⟩ : ∃ W, W = (w1.alloc (.cells #[.int .i64 14, .int .i64 N2] 84)).drew := ⟨_, rfl⟩
  have hbW : Below w1.heap.size w1 W := by rw [hW]; exact belA
  have hzW : W.heap.size = w1.heap.size + 1 := by rw [hW]; simp
  have b0 : W.cell? ⟨w1.heap.size, 0, none⟩ = some (.int .i64 14) := by rw [hW]; simp [go_sem]
  have b1 : W.cell? ⟨w1.heap.size, 1, none⟩ = some (.int .i64 N2) := by rw [hW]; simp [go_sem]
  have H3 := Lib.hid (H2.out.apart hbW (Fx := [w1.heap.size]) (fun k hk => by rw [List.mem_singleton.1 hk]; omega))
  have H1 := Lib.hid H3.out.less
  rw [← hW]
  obtain ⟨X, hX⟩ : ∃ X, w1.heap.size = X := ⟨_, rfl⟩
  rw [hX] at H3 hzW b0 b1 ⊢
  have hMX : C.M < X := by omega
  have hgX : g < X := by omega
  clear hW hbW hX H2 hS q0 q1 q2 q3 q4 q5 hgl hM3
  obtain ⟨_, _, _, _, _, _, _, _, ho⟩ := H1.out.opg HJ.out
  have c2 : W.cell? ⟨g, (n - 1) * 11 + 2, none⟩ = some (.int .i64 pb) := by rw [← HPB.out]; exact ho.fv.c2
  have fz2 := ho.fv.fz ((n - 1) * 11 + 2)
  have hgW := ho.fv.lt
  clear ho
  have hpd := padW RR.out.hg RR.out.top.1 (top_ge RR.out.top) (by rw [HIE.out]; rfl)
  have HF := Lib.hid (show stepF C.x C.ins C.most s = { s with fs := raiseFr C.x f 3 0 :: rest } by rw [HE.out, HIE.out]; simp [stepI])
  go_wp2_with fail
  refine (implRaise C W g n c s f 3 0 (Or.inr rfl) (by unfold I64; omega) H1.out HJ.out h0 hn1 hnc hcm FW.out.fn hpd.1 (by have := FW.out.xl; omega) (show (fCode C.x f).2.2.2.2.length ≤ 1048576 by have := FW.out.rl; omega) hpd.2).mono ?_
  rintro e w4 ⟨rfl, h4⟩
  rw [MS.put_top RR.out.fs HN.out] at h4
  have H4 := Lib.hid h4
  clear h4
  go_wp2_with fail
  go_end0
  exact ⟨rfl, _, HF.out ▸ H4.out⟩
set_option maxHeartbeats 4000000 in
theorem implStep13 (C : Cfg) (w : World) (vf : Value) (s : MS) (f : Frame) (rest : List Frame) (N : Nat) (h : MM C w vf s) (R : Rdy C.x C.ins C.most N s f rest) (hK : (fIns C.x f).1 = 13) :
    Calls Tryz.prog 28 #[.pointer (some ⟨C.M, 0, none⟩)] w (RetN C (stepF C.x C.ins C.most s) w) := by
  obtain ⟨g, n, c, rfl, hn, h0, hnc, hcm, hj⟩ := h.opens R.fs
  have hn1 : n ≤ 1000000 := by have := R.ok.many; omega
  have FW := Lib.hid R.fw
  have HIW := Lib.hid R.insW
  have hpl := R.pile
  have HE := Lib.hid (show stepF C.x C.ins C.most s = stepI C.x C.ins C.most s f rest (fIns C.x f) by unfold stepF; rw [R.fs])
  obtain ⟨N2, hN2⟩ : ∃ N2, (fIns C.x f).2 = N2 := ⟨_, rfl⟩
  have i2 : I64 N2 := hN2 ▸ ins64 R.insW.1
  obtain ⟨fb, hfb⟩ := Int.eq_ofNat_of_zero_le FW.out.fn.1
  obtain ⟨pb, hpb⟩ := Int.eq_ofNat_of_zero_le FW.out.at_.1
  have hfbx : fb < C.x.length := by have := FW.out.fn.2; omega
  have hcd : fCode C.x f = codeD C.x (fb : Int) := by unfold fCode; rw [hfb]
  have hpbx : pb < (codeD C.x (fb : Int)).2.2.2.1.length := by have := FW.out.at_.2; rw [hcd, hpb] at this; omega
  have l5 : pb ≤ 1000000 := by have := FW.out.il; have := FW.out.at_.2; omega
  have l6 : fb ≤ 1000000 := by have := FW.out.xl; omega
  have hIe : fIns C.x f = (13, N2) := by rw [← hK, ← hN2]
  have HIE := Lib.hid hIe
  have HN := Lib.hid hn
  have HJ := Lib.hid hj
  have RR := Lib.hid R
  have HH := Lib.hid h
  clear hn hj R h
  go_enter Tryz.func28, Tryz.ntmps28
  go_wp2_with fail
  refine (implTop C _ g n c s HH.out h0 hn1 hnc hcm).mono ?_
  rintro e w1 ⟨rfl, k1, hw1⟩
  have h2 : MM C w1 (.slice (some ⟨g, 0, none⟩) n c) s := by rw [hw1]; exact HH.out.drewN k1
  clear hw1
  obtain ⟨bc, oc, bi, oi, k3, d3, eA, hnx, hk3, hbc, hbi, u3, u5, u6, _, _⟩ := h2.insCells hfbx hpbx
  have hop : insAt (codeD C.x (fb : Int)).2.2.2.1 (pb : Int) = fIns C.x f := by unfold fIns; rw [hcd, hpb]
  rw [hop, hIe] at u5 u6
  obtain ⟨_, _, mv⟩ := h2.mv
  have m0 := mv.m0
  rw [eA] at m0
  obtain ⟨_, _, _, _, _, _, _, _, ho⟩ := h2.opg HJ.out
  have c1 := ho.fv.c1
  have c2 := ho.fv.c2
  rw [hfb] at c1
  rw [hpb] at c2
  have hgl := ho.fv.lt
  have hM3 := mv.lt
  have hgM := ho.fv.gM
  obtain ⟨_, _, hBw⟩ := h2.xs
  have l1 : fb < C.nx := by omega
  have l2 : (fb : Int) < (C.nx : Int) := by omega
  have l3 : pb < k3 := by omega
  have l4 : (pb : Int) < (k3 : Int) := by omega
  have hS := Lib.hid (show ∀ V', Below w1.heap.size w1 V' → V'.cell? ⟨C.M, 0, none⟩ = some (.slice (some ⟨bc, oc, none⟩) C.nx C.cx) ∧ V'.cell? ⟨g, (n - 1) * 11 + 1, none⟩ = some (.int .i64 fb) ∧ V'.cell? ⟨g, (n - 1) * 11 + 2, none⟩ = some (.int .i64 pb) ∧ V'.cell? ⟨bc, oc + fb * 5 + 3, none⟩ = some (.slice (some ⟨bi, oi, none⟩) k3 d3) ∧ V'.cell? ⟨bi, oi + pb * 2, none⟩ = some (.int .i64 13) ∧ V'.cell? ⟨bi, oi + pb * 2 + 1, none⟩ = some (.int .i64 N2) from fun V' hV => ⟨below_cell hV m0, below_cell hV c1, below_cell hV c2, below_cell hV u3, below_cell hV u5, below_cell hV u6⟩)
  have HPB := Lib.hid hpb
  have H2 := Lib.hid h2
  clear mv ho h2 hk3 hnx hcd hpb hfb hop eA hIe hK hN2 m0 c1 c2 u3 u5 u6
  go_upto_region 1 with fail
  obtain ⟨q0, q1, q2, q3, q4, q5⟩ := hS.out w1 (Below.refl _ _)
  go_region_held3 (fun V' => V'.cell? ⟨C.M, 0, none⟩ = some (.slice (some ⟨bc, oc, none⟩) C.nx C.cx) ∧ V'.cell? ⟨g, (n - 1) * 11 + 1, none⟩ = some (.int .i64 fb) ∧ V'.cell? ⟨g, (n - 1) * 11 + 2, none⟩ = some (.int .i64 pb) ∧ V'.cell? ⟨bc, oc + fb * 5 + 3, none⟩ = some (.slice (some ⟨bi, oi, none⟩) k3 d3) ∧ V'.cell? ⟨bi, oi + pb * 2, none⟩ = some (.int .i64 13) ∧ V'.cell? ⟨bi, oi + pb * 2 + 1, none⟩ = some (.int .i64 N2)) (exact hS.out _ (show Below w1.heap.size w1 _ by exact beloA)) (fail)
  obtain ⟨W, hW⟩ : ∃ W, W = (w1.alloc (.cells #[.int .i64 13, .int .i64 N2] 84)).drew := ⟨_, rfl⟩
  have hbW : Below w1.heap.size w1 W := by rw [hW]; exact belA
  have hzW : W.heap.size = w1.heap.size + 1 := by rw [hW]; simp
  have b0 : W.cell? ⟨w1.heap.size, 0, none⟩ = some (.int .i64 13) := by rw [hW]; simp [go_sem]
  have b1 : W.cell? ⟨w1.heap.size, 1, none⟩ = some (.int .i64 N2) := by rw [hW]; simp [go_sem]
  have H3 := Lib.hid (H2.out.apart hbW (Fx := [w1.heap.size]) (fun k hk => by rw [List.mem_singleton.1 hk]; omega))
  have H1 := Lib.hid H3.out.less
  rw [← hW]
  obtain ⟨X, hX⟩ : ∃ X, w1.heap.size = X := ⟨_, rfl⟩
  rw [hX] at H3 hzW b0 b1 ⊢
  have hMX : C.M < X := by omega
  have hgX : g < X := by omega
  clear hW hbW hX H2 hS q0 q1 q2 q3 q4 q5 hgl hM3
  obtain ⟨_, _, _, _, _, _, _, _, ho⟩ := H1.out.opg HJ.out
  have c2 : W.cell? ⟨g, (n - 1) * 11 + 2, none⟩ = some (.int .i64 pb) := by rw [← HPB.out]; exact ho.fv.c2
  have fz2 := ho.fv.fz ((n - 1) * 11 + 2)
  have hgW := ho.fv.lt
  clear ho
  have hpd := padW RR.out.hg RR.out.top.1 (top_ge RR.out.top) (by rw [HIE.out]; rfl)
  have hp0 : 0 < (fPile f).length := by have := HIW.out.2.1; rw [HIE.out, tk1 (by simp)] at this; omega
  have hsl := small_lastN FW.out.ps
  have hl64 := I64_of hsl
  have HF := Lib.hid (show stepF C.x C.ins C.most s = { s with fs := raiseFr C.x f 2 (lastN (fPile f)) :: rest } by rw [HE.out, HIE.out]; simp [stepI])
  have HNS := Lib.hid (show n = (s.put (n - 1) (fGo f f.2.2.1 (fPile f).dropLast)).fs.length from HN.out.trans (MS.put_len ..).symm)
  go_wp2_with fail
  refine (implPop C W g n c s (n - 1) f H1.out HJ.out hp0 (by omega)).mono ?_
  rintro e w4 ⟨rfl, k4, v4, hw4, h4⟩
  clear hw4
  have hj4 := MS.put_get (f := fGo f f.2.2.1 (fPile f).dropLast) HJ.out
  have H4 := Lib.hid h4
  clear h4
  go_wp2_with fail
  refine (implRaise C w4 g n c (s.put (n - 1) (fGo f f.2.2.1 (fPile f).dropLast)) (fGo f f.2.2.1 (fPile f).dropLast) 2 (lastN (fPile f)) (Or.inl rfl) hl64 H4.out hj4 h0 hn1 hnc hcm FW.out.fn hpd.1 (by have := FW.out.xl; omega) (show (fCode C.x f).2.2.2.2.length ≤ 1048576 by have := FW.out.rl; omega) hpd.2).mono ?_
  rintro e w5 ⟨rfl, h5⟩
  rw [MS.put_put, MS.put_top RR.out.fs HN.out] at h5
  have H5 := Lib.hid (show MM C w5 (.slice (some ⟨g, 0, none⟩) n c) { s with fs := raiseFr C.x f 2 (lastN (fPile f)) :: rest } from h5)
  clear h5
  go_wp2_with fail
  go_end0
  exact ⟨rfl, _, HF.out ▸ H5.out⟩
set_option maxHeartbeats 4000000 in
theorem implStep18 (C : Cfg) (w : World) (vf : Value) (s : MS) (f : Frame) (rest : List Frame) (N : Nat) (h : MM C w vf s) (R : Rdy C.x C.ins C.most N s f rest) (hK : (fIns C.x f).1 = 18) :
    Calls Tryz.prog 28 #[.pointer (some ⟨C.M, 0, none⟩)] w (RetN C (stepF C.x C.ins C.most s) w) := by
  obtain ⟨g, n, c, rfl, hn, h0, hnc, hcm, hj⟩ := h.opens R.fs
  have hn1 : n ≤ 1000000 := by have := R.ok.many; omega
  have FW := Lib.hid R.fw
  have HIW := Lib.hid R.insW
  have hpl := R.pile
  have HE := Lib.hid (show stepF C.x C.ins C.most s = stepI C.x C.ins C.most s f rest (fIns C.x f) by unfold stepF; rw [R.fs])
  obtain ⟨N2, hN2⟩ : ∃ N2, (fIns C.x f).2 = N2 := ⟨_, rfl⟩
  have i2 : I64 N2 := hN2 ▸ ins64 R.insW.1
  obtain ⟨fb, hfb⟩ := Int.eq_ofNat_of_zero_le FW.out.fn.1
  obtain ⟨pb, hpb⟩ := Int.eq_ofNat_of_zero_le FW.out.at_.1
  have hfbx : fb < C.x.length := by have := FW.out.fn.2; omega
  have hcd : fCode C.x f = codeD C.x (fb : Int) := by unfold fCode; rw [hfb]
  have hpbx : pb < (codeD C.x (fb : Int)).2.2.2.1.length := by have := FW.out.at_.2; rw [hcd, hpb] at this; omega
  have l5 : pb ≤ 1000000 := by have := FW.out.il; have := FW.out.at_.2; omega
  have l6 : fb ≤ 1000000 := by have := FW.out.xl; omega
  have hIe : fIns C.x f = (18, N2) := by rw [← hK, ← hN2]
  have HIE := Lib.hid hIe
  have HN := Lib.hid hn
  have HJ := Lib.hid hj
  have RR := Lib.hid R
  have HH := Lib.hid h
  clear hn hj R h
  go_enter Tryz.func28, Tryz.ntmps28
  go_wp2_with fail
  refine (implTop C _ g n c s HH.out h0 hn1 hnc hcm).mono ?_
  rintro e w1 ⟨rfl, k1, hw1⟩
  have h2 : MM C w1 (.slice (some ⟨g, 0, none⟩) n c) s := by rw [hw1]; exact HH.out.drewN k1
  clear hw1
  obtain ⟨bc, oc, bi, oi, k3, d3, eA, hnx, hk3, hbc, hbi, u3, u5, u6, _, _⟩ := h2.insCells hfbx hpbx
  have hop : insAt (codeD C.x (fb : Int)).2.2.2.1 (pb : Int) = fIns C.x f := by unfold fIns; rw [hcd, hpb]
  rw [hop, hIe] at u5 u6
  obtain ⟨_, _, mv⟩ := h2.mv
  have m0 := mv.m0
  rw [eA] at m0
  obtain ⟨_, _, _, _, _, _, _, _, ho⟩ := h2.opg HJ.out
  have c1 := ho.fv.c1
  have c2 := ho.fv.c2
  rw [hfb] at c1
  rw [hpb] at c2
  have hgl := ho.fv.lt
  have hM3 := mv.lt
  have hgM := ho.fv.gM
  obtain ⟨_, _, hBw⟩ := h2.xs
  have l1 : fb < C.nx := by omega
  have l2 : (fb : Int) < (C.nx : Int) := by omega
  have l3 : pb < k3 := by omega
  have l4 : (pb : Int) < (k3 : Int) := by omega
  have hS := Lib.hid (show ∀ V', Below w1.heap.size w1 V' → V'.cell? ⟨C.M, 0, none⟩ = some (.slice (some ⟨bc, oc, none⟩) C.nx C.cx) ∧ V'.cell? ⟨g, (n - 1) * 11 + 1, none⟩ = some (.int .i64 fb) ∧ V'.cell? ⟨g, (n - 1) * 11 + 2, none⟩ = some (.int .i64 pb) ∧ V'.cell? ⟨bc, oc + fb * 5 + 3, none⟩ = some (.slice (some ⟨bi, oi, none⟩) k3 d3) ∧ V'.cell? ⟨bi, oi + pb * 2, none⟩ = some (.int .i64 18) ∧ V'.cell? ⟨bi, oi + pb * 2 + 1, none⟩ = some (.int .i64 N2) from fun V' hV => ⟨below_cell hV m0, below_cell hV c1, below_cell hV c2, below_cell hV u3, below_cell hV u5, below_cell hV u6⟩)
  have HPB := Lib.hid hpb
  have H2 := Lib.hid h2
  clear mv ho h2 hk3 hnx hcd hpb hfb hop eA hIe hK hN2 m0 c1 c2 u3 u5 u6
  go_upto_region 1 with fail
  obtain ⟨q0, q1, q2, q3, q4, q5⟩ := hS.out w1 (Below.refl _ _)
  go_region_held3 (fun V' => V'.cell? ⟨C.M, 0, none⟩ = some (.slice (some ⟨bc, oc, none⟩) C.nx C.cx) ∧ V'.cell? ⟨g, (n - 1) * 11 + 1, none⟩ = some (.int .i64 fb) ∧ V'.cell? ⟨g, (n - 1) * 11 + 2, none⟩ = some (.int .i64 pb) ∧ V'.cell? ⟨bc, oc + fb * 5 + 3, none⟩ = some (.slice (some ⟨bi, oi, none⟩) k3 d3) ∧ V'.cell? ⟨bi, oi + pb * 2, none⟩ = some (.int .i64 18) ∧ V'.cell? ⟨bi, oi + pb * 2 + 1, none⟩ = some (.int .i64 N2)) (exact hS.out _ (show Below w1.heap.size w1 _ by exact beloA)) (fail)
  obtain ⟨W, hW⟩ : ∃ W, W = (w1.alloc (.cells #[.int .i64 18, .int .i64 N2] 84)).drew := ⟨_, rfl⟩
  have hbW : Below w1.heap.size w1 W := by rw [hW]; exact belA
  have hzW : W.heap.size = w1.heap.size + 1 := by rw [hW]; simp
  have b0 : W.cell? ⟨w1.heap.size, 0, none⟩ = some (.int .i64 18) := by rw [hW]; simp [go_sem]
  have b1 : W.cell? ⟨w1.heap.size, 1, none⟩ = some (.int .i64 N2) := by rw [hW]; simp [go_sem]
  have H3 := Lib.hid (H2.out.apart hbW (Fx := [w1.heap.size]) (fun k hk => by rw [List.mem_singleton.1 hk]; omega))
  have H1 := Lib.hid H3.out.less
  rw [← hW]
  obtain ⟨X, hX⟩ : ∃ X, w1.heap.size = X := ⟨_, rfl⟩
  rw [hX] at H3 hzW b0 b1 ⊢
  have hMX : C.M < X := by omega
  have hgX : g < X := by omega
  clear hW hbW hX H2 hS q0 q1 q2 q3 q4 q5 hgl hM3
  obtain ⟨_, _, _, _, _, _, _, _, ho⟩ := H1.out.opg HJ.out
  have c2 : W.cell? ⟨g, (n - 1) * 11 + 2, none⟩ = some (.int .i64 pb) := by rw [← HPB.out]; exact ho.fv.c2
  have fz2 := ho.fv.fz ((n - 1) * 11 + 2)
  have hgW := ho.fv.lt
  clear ho
  have HF := Lib.hid (show stepF C.x C.ins C.most s = endM C.x s f rest by rw [HE.out, HIE.out]; simp [stepI])
  go_wp2_with fail
  refine (implEnd C W _ s f rest N H1.out RR.out).mono ?_
  rintro e w4 ⟨rfl, vf4, h4⟩
  have H4 := Lib.hid h4
  clear h4
  go_wp2_with fail
  go_end0
  exact ⟨rfl, _, HF.out ▸ H4.out⟩
set_option maxHeartbeats 4000000 in
theorem implStep1 (C : Cfg) (w : World) (vf : Value) (s : MS) (f : Frame) (rest : List Frame) (N : Nat) (h : MM C w vf s) (R : Rdy C.x C.ins C.most N s f rest) (hK : (fIns C.x f).1 = 1) :
    Calls Tryz.prog 28 #[.pointer (some ⟨C.M, 0, none⟩)] w (RetN C (stepF C.x C.ins C.most s) w) := by
  obtain ⟨g, n, c, rfl, hn, h0, hnc, hcm, hj⟩ := h.opens R.fs
  have hn1 : n ≤ 1000000 := by have := R.ok.many; omega
  have FW := Lib.hid R.fw
  have HIW := Lib.hid R.insW
  have hpl := R.pile
  have HE := Lib.hid (show stepF C.x C.ins C.most s = stepI C.x C.ins C.most s f rest (fIns C.x f) by unfold stepF; rw [R.fs])
  obtain ⟨N2, hN2⟩ : ∃ N2, (fIns C.x f).2 = N2 := ⟨_, rfl⟩
  have i2 : I64 N2 := hN2 ▸ ins64 R.insW.1
  obtain ⟨fb, hfb⟩ := Int.eq_ofNat_of_zero_le FW.out.fn.1
  obtain ⟨pb, hpb⟩ := Int.eq_ofNat_of_zero_le FW.out.at_.1
  have hfbx : fb < C.x.length := by have := FW.out.fn.2; omega
  have hcd : fCode C.x f = codeD C.x (fb : Int) := by unfold fCode; rw [hfb]
  have hpbx : pb < (codeD C.x (fb : Int)).2.2.2.1.length := by have := FW.out.at_.2; rw [hcd, hpb] at this; omega
  have l5 : pb ≤ 1000000 := by have := FW.out.il; have := FW.out.at_.2; omega
  have l6 : fb ≤ 1000000 := by have := FW.out.xl; omega
  have hIe : fIns C.x f = (1, N2) := by rw [← hK, ← hN2]
  have HIE := Lib.hid hIe
  have HN := Lib.hid hn
  have HJ := Lib.hid hj
  have RR := Lib.hid R
  have HH := Lib.hid h
  clear hn hj R h
  go_enter Tryz.func28, Tryz.ntmps28
  go_wp2_with fail
  refine (implTop C _ g n c s HH.out h0 hn1 hnc hcm).mono ?_
  rintro e w1 ⟨rfl, k1, hw1⟩
  have h2 : MM C w1 (.slice (some ⟨g, 0, none⟩) n c) s := by rw [hw1]; exact HH.out.drewN k1
  clear hw1
  obtain ⟨bc, oc, bi, oi, k3, d3, eA, hnx, hk3, hbc, hbi, u3, u5, u6, _, _⟩ := h2.insCells hfbx hpbx
  have hop : insAt (codeD C.x (fb : Int)).2.2.2.1 (pb : Int) = fIns C.x f := by unfold fIns; rw [hcd, hpb]
  rw [hop, hIe] at u5 u6
  obtain ⟨_, _, mv⟩ := h2.mv
  have m0 := mv.m0
  rw [eA] at m0
  obtain ⟨_, _, _, _, _, _, _, _, ho⟩ := h2.opg HJ.out
  have c1 := ho.fv.c1
  have c2 := ho.fv.c2
  rw [hfb] at c1
  rw [hpb] at c2
  have hgl := ho.fv.lt
  have hM3 := mv.lt
  have hgM := ho.fv.gM
  obtain ⟨_, _, hBw⟩ := h2.xs
  have l1 : fb < C.nx := by omega
  have l2 : (fb : Int) < (C.nx : Int) := by omega
  have l3 : pb < k3 := by omega
  have l4 : (pb : Int) < (k3 : Int) := by omega
  have hS := Lib.hid (show ∀ V', Below w1.heap.size w1 V' → V'.cell? ⟨C.M, 0, none⟩ = some (.slice (some ⟨bc, oc, none⟩) C.nx C.cx) ∧ V'.cell? ⟨g, (n - 1) * 11 + 1, none⟩ = some (.int .i64 fb) ∧ V'.cell? ⟨g, (n - 1) * 11 + 2, none⟩ = some (.int .i64 pb) ∧ V'.cell? ⟨bc, oc + fb * 5 + 3, none⟩ = some (.slice (some ⟨bi, oi, none⟩) k3 d3) ∧ V'.cell? ⟨bi, oi + pb * 2, none⟩ = some (.int .i64 1) ∧ V'.cell? ⟨bi, oi + pb * 2 + 1, none⟩ = some (.int .i64 N2) from fun V' hV => ⟨below_cell hV m0, below_cell hV c1, below_cell hV c2, below_cell hV u3, below_cell hV u5, below_cell hV u6⟩)
  have HPB := Lib.hid hpb
  have H2 := Lib.hid h2
  clear mv ho h2 hk3 hnx hcd hpb hfb hop eA hIe hK hN2 m0 c1 c2 u3 u5 u6
  go_upto_region 1 with fail
  obtain ⟨q0, q1, q2, q3, q4, q5⟩ := hS.out w1 (Below.refl _ _)
  go_region_held3 (fun V' => V'.cell? ⟨C.M, 0, none⟩ = some (.slice (some ⟨bc, oc, none⟩) C.nx C.cx) ∧ V'.cell? ⟨g, (n - 1) * 11 + 1, none⟩ = some (.int .i64 fb) ∧ V'.cell? ⟨g, (n - 1) * 11 + 2, none⟩ = some (.int .i64 pb) ∧ V'.cell? ⟨bc, oc + fb * 5 + 3, none⟩ = some (.slice (some ⟨bi, oi, none⟩) k3 d3) ∧ V'.cell? ⟨bi, oi + pb * 2, none⟩ = some (.int .i64 1) ∧ V'.cell? ⟨bi, oi + pb * 2 + 1, none⟩ = some (.int .i64 N2)) (exact hS.out _ (show Below w1.heap.size w1 _ by exact beloA)) (fail)
  obtain ⟨W, hW⟩ : ∃ W, W = (w1.alloc (.cells #[.int .i64 1, .int .i64 N2] 84)).drew := ⟨_, rfl⟩
  have hbW : Below w1.heap.size w1 W := by rw [hW]; exact belA
  have hzW : W.heap.size = w1.heap.size + 1 := by rw [hW]; simp
  have b0 : W.cell? ⟨w1.heap.size, 0, none⟩ = some (.int .i64 1) := by rw [hW]; simp [go_sem]
  have b1 : W.cell? ⟨w1.heap.size, 1, none⟩ = some (.int .i64 N2) := by rw [hW]; simp [go_sem]
  have H3 := Lib.hid (H2.out.apart hbW (Fx := [w1.heap.size]) (fun k hk => by rw [List.mem_singleton.1 hk]; omega))
  have H1 := Lib.hid H3.out.less
  rw [← hW]
  obtain ⟨X, hX⟩ : ∃ X, w1.heap.size = X := ⟨_, rfl⟩
  rw [hX] at H3 hzW b0 b1 ⊢
  have hMX : C.M < X := by omega
  have hgX : g < X := by omega
  clear hW hbW hX H2 hS q0 q1 q2 q3 q4 q5 hgl hM3
  obtain ⟨_, _, _, _, _, _, _, _, ho⟩ := H1.out.opg HJ.out
  have c2 : W.cell? ⟨g, (n - 1) * 11 + 2, none⟩ = some (.int .i64 pb) := by rw [← HPB.out]; exact ho.fv.c2
  have fz2 := ho.fv.fz ((n - 1) * 11 + 2)
  have hgW := ho.fv.lt
  clear ho
  have HF := Lib.hid (show stepF C.x C.ins C.most s = { s with fs := fGo f ((pb : Int) + 1) (fPile f ++ [N2]) :: rest } by rw [HE.out, HIE.out]; simp [stepI, HPB.out])
  go_wp2_with fail
  refine (implPlain1 C W g n c s f H1.out HJ.out N2 i2 (by omega)).mono ?_
  rintro e w5 ⟨rfl, h5⟩
  have hj5 : (s.put (n - 1) (fGo f f.2.2.1 (fPile f ++ [N2]))).fs.reverse[n - 1]? = some (fGo f f.2.2.1 (fPile f ++ [N2])) := MS.put_get HJ.out
  obtain ⟨_, _, _, _, _, _, _, _, ho⟩ := h5.opg hj5
  have c2 : w5.cell? ⟨g, (n - 1) * 11 + 2, none⟩ = some (.int .i64 pb) := by rw [← HPB.out]; exact ho.fv.c2
  have fz2 := ho.fv.fz ((n - 1) * 11 + 2)
  have hg5 := ho.fv.lt
  have h6 := h5.pAt hj5 (a := (pb : Int) + 1) (by unfold I64; omega)
  rw [MS.put_put, MS.put_top RR.out.fs HN.out] at h6
  have h7 : MM C _ _ { s with fs := fGo f ((pb : Int) + 1) (fPile f ++ [N2]) :: rest } := h6
  have H7 := Lib.hid h7
  clear ho h6 h7 h5
  go_wp2_with fail
  go_end0
  exact ⟨rfl, _, HF.out ▸ H7.out⟩
set_option maxHeartbeats 4000000 in
theorem implStep2 (C : Cfg) (w : World) (vf : Value) (s : MS) (f : Frame) (rest : List Frame) (N : Nat) (h : MM C w vf s) (R : Rdy C.x C.ins C.most N s f rest) (hK : (fIns C.x f).1 = 2) :
    Calls Tryz.prog 28 #[.pointer (some ⟨C.M, 0, none⟩)] w (RetN C (stepF C.x C.ins C.most s) w) := by
  obtain ⟨g, n, c, rfl, hn, h0, hnc, hcm, hj⟩ := h.opens R.fs
  have hn1 : n ≤ 1000000 := by have := R.ok.many; omega
  have FW := Lib.hid R.fw
  have HIW := Lib.hid R.insW
  have hpl := R.pile
  have HE := Lib.hid (show stepF C.x C.ins C.most s = stepI C.x C.ins C.most s f rest (fIns C.x f) by unfold stepF; rw [R.fs])
  obtain ⟨N2, hN2⟩ : ∃ N2, (fIns C.x f).2 = N2 := ⟨_, rfl⟩
  have i2 : I64 N2 := hN2 ▸ ins64 R.insW.1
  obtain ⟨fb, hfb⟩ := Int.eq_ofNat_of_zero_le FW.out.fn.1
  obtain ⟨pb, hpb⟩ := Int.eq_ofNat_of_zero_le FW.out.at_.1
  have hfbx : fb < C.x.length := by have := FW.out.fn.2; omega
  have hcd : fCode C.x f = codeD C.x (fb : Int) := by unfold fCode; rw [hfb]
  have hpbx : pb < (codeD C.x (fb : Int)).2.2.2.1.length := by have := FW.out.at_.2; rw [hcd, hpb] at this; omega
  have l5 : pb ≤ 1000000 := by have := FW.out.il; have := FW.out.at_.2; omega
  have l6 : fb ≤ 1000000 := by have := FW.out.xl; omega
  have hIe : fIns C.x f = (2, N2) := by rw [← hK, ← hN2]
  have HIE := Lib.hid hIe
  have HN := Lib.hid hn
  have HJ := Lib.hid hj
  have RR := Lib.hid R
  have HH := Lib.hid h
  clear hn hj R h
  go_enter Tryz.func28, Tryz.ntmps28
  go_wp2_with fail
  refine (implTop C _ g n c s HH.out h0 hn1 hnc hcm).mono ?_
  rintro e w1 ⟨rfl, k1, hw1⟩
  have h2 : MM C w1 (.slice (some ⟨g, 0, none⟩) n c) s := by rw [hw1]; exact HH.out.drewN k1
  clear hw1
  obtain ⟨bc, oc, bi, oi, k3, d3, eA, hnx, hk3, hbc, hbi, u3, u5, u6, _, _⟩ := h2.insCells hfbx hpbx
  have hop : insAt (codeD C.x (fb : Int)).2.2.2.1 (pb : Int) = fIns C.x f := by unfold fIns; rw [hcd, hpb]
  rw [hop, hIe] at u5 u6
  obtain ⟨_, _, mv⟩ := h2.mv
  have m0 := mv.m0
  rw [eA] at m0
  obtain ⟨_, _, _, _, _, _, _, _, ho⟩ := h2.opg HJ.out
  have c1 := ho.fv.c1
  have c2 := ho.fv.c2
  rw [hfb] at c1
  rw [hpb] at c2
  have hgl := ho.fv.lt
  have hM3 := mv.lt
  have hgM := ho.fv.gM
  obtain ⟨_, _, hBw⟩ := h2.xs
  have l1 : fb < C.nx := by omega
  have l2 : (fb : Int) < (C.nx : Int) := by omega
  have l3 : pb < k3 := by omega
  have l4 : (pb : Int) < (k3 : Int) := by omega
  have hS := Lib.hid (show ∀ V', Below w1.heap.size w1 V' → V'.cell? ⟨C.M, 0, none⟩ = some (.slice (some ⟨bc, oc, none⟩) C.nx C.cx) ∧ V'.cell? ⟨g, (n - 1) * 11 + 1, none⟩ = some (.int .i64 fb) ∧ V'.cell? ⟨g, (n - 1) * 11 + 2, none⟩ = some (.int .i64 pb) ∧ V'.cell? ⟨bc, oc + fb * 5 + 3, none⟩ = some (.slice (some ⟨bi, oi, none⟩) k3 d3) ∧ V'.cell? ⟨bi, oi + pb * 2, none⟩ = some (.int .i64 2) ∧ V'.cell? ⟨bi, oi + pb * 2 + 1, none⟩ = some (.int .i64 N2) from fun V' hV => ⟨below_cell hV m0, below_cell hV c1, below_cell hV c2, below_cell hV u3, below_cell hV u5, below_cell hV u6⟩)
  have HPB := Lib.hid hpb
  have H2 := Lib.hid h2
  clear mv ho h2 hk3 hnx hcd hpb hfb hop eA hIe hK hN2 m0 c1 c2 u3 u5 u6
  go_upto_region 1 with fail
  obtain ⟨q0, q1, q2, q3, q4, q5⟩ := hS.out w1 (Below.refl _ _)
  go_region_held3 (fun V' => V'.cell? ⟨C.M, 0, none⟩ = some (.slice (some ⟨bc, oc, none⟩) C.nx C.cx) ∧ V'.cell? ⟨g, (n - 1) * 11 + 1, none⟩ = some (.int .i64 fb) ∧ V'.cell? ⟨g, (n - 1) * 11 + 2, none⟩ = some (.int .i64 pb) ∧ V'.cell? ⟨bc, oc + fb * 5 + 3, none⟩ = some (.slice (some ⟨bi, oi, none⟩) k3 d3) ∧ V'.cell? ⟨bi, oi + pb * 2, none⟩ = some (.int .i64 2) ∧ V'.cell? ⟨bi, oi + pb * 2 + 1, none⟩ = some (.int .i64 N2)) (exact hS.out _ (show Below w1.heap.size w1 _ by exact beloA)) (fail)
  obtain ⟨W, hW⟩ : ∃ W, W = (w1.alloc (.cells #[.int .i64 2, .int .i64 N2] 84)).drew := ⟨_, rfl⟩
  have hbW : Below w1.heap.size w1 W := by rw [hW]; exact belA
  have hzW : W.heap.size = w1.heap.size + 1 := by rw [hW]; simp
  have b0 : W.cell? ⟨w1.heap.size, 0, none⟩ = some (.int .i64 2) := by rw [hW]; simp [go_sem]
  have b1 : W.cell? ⟨w1.heap.size, 1, none⟩ = some (.int .i64 N2) := by rw [hW]; simp [go_sem]
  have H3 := Lib.hid (H2.out.apart hbW (Fx := [w1.heap.size]) (fun k hk => by rw [List.mem_singleton.1 hk]; omega))
  have H1 := Lib.hid H3.out.less
  rw [← hW]
  obtain ⟨X, hX⟩ : ∃ X, w1.heap.size = X := ⟨_, rfl⟩
  rw [hX] at H3 hzW b0 b1 ⊢
  have hMX : C.M < X := by omega
  have hgX : g < X := by omega
  clear hW hbW hX H2 hS q0 q1 q2 q3 q4 q5 hgl hM3
  obtain ⟨_, _, _, _, _, _, _, _, ho⟩ := H1.out.opg HJ.out
  have c2 : W.cell? ⟨g, (n - 1) * 11 + 2, none⟩ = some (.int .i64 pb) := by rw [← HPB.out]; exact ho.fv.c2
  have fz2 := ho.fv.fz ((n - 1) * 11 + 2)
  have hgW := ho.fv.lt
  clear ho
  obtain ⟨k, hk2, hkl⟩ := RR.out.var (by rw [HIE.out]; simp)
  obtain rfl : N2 = (k : Int) := by rw [HIE.out] at hk2; exact hk2
  have HF := Lib.hid (show stepF C.x C.ins C.most s = { s with fs := fGo f ((pb : Int) + 1) (fPile f ++ [f.2.2.2.2.1.getD k 0]) :: rest } by rw [HE.out, HIE.out]; simp [stepI, HPB.out])
  go_wp2_with fail
  refine (implPlain2 C W g n c s f H1.out HJ.out k hkl (by omega)).mono ?_
  rintro e w5 ⟨rfl, h5⟩
  have hj5 : (s.put (n - 1) (fGo f f.2.2.1 (fPile f ++ [f.2.2.2.2.1.getD k 0]))).fs.reverse[n - 1]? = some (fGo f f.2.2.1 (fPile f ++ [f.2.2.2.2.1.getD k 0])) := MS.put_get HJ.out
  obtain ⟨_, _, _, _, _, _, _, _, ho⟩ := h5.opg hj5
  have c2 : w5.cell? ⟨g, (n - 1) * 11 + 2, none⟩ = some (.int .i64 pb) := by rw [← HPB.out]; exact ho.fv.c2
  have fz2 := ho.fv.fz ((n - 1) * 11 + 2)
  have hg5 := ho.fv.lt
  have h6 := h5.pAt hj5 (a := (pb : Int) + 1) (by unfold I64; omega)
  rw [MS.put_put, MS.put_top RR.out.fs HN.out] at h6
  have h7 : MM C _ _ { s with fs := fGo f ((pb : Int) + 1) (fPile f ++ [f.2.2.2.2.1.getD k 0]) :: rest } := h6
  have H7 := Lib.hid h7
  clear ho h6 h7 h5
  go_wp2_with fail
  go_end0
  exact ⟨rfl, _, HF.out ▸ H7.out⟩
set_option maxHeartbeats 4000000 in
theorem implStep3 (C : Cfg) (w : World) (vf : Value) (s : MS) (f : Frame) (rest : List Frame) (N : Nat) (h : MM C w vf s) (R : Rdy C.x C.ins C.most N s f rest) (hK : (fIns C.x f).1 = 3) :
    Calls Tryz.prog 28 #[.pointer (some ⟨C.M, 0, none⟩)] w (RetN C (stepF C.x C.ins C.most s) w) := by
  obtain ⟨g, n, c, rfl, hn, h0, hnc, hcm, hj⟩ := h.opens R.fs
  have hn1 : n ≤ 1000000 := by have := R.ok.many; omega
  have FW := Lib.hid R.fw
  have HIW := Lib.hid R.insW
  have hpl := R.pile
  have HE := Lib.hid (show stepF C.x C.ins C.most s = stepI C.x C.ins C.most s f rest (fIns C.x f) by unfold stepF; rw [R.fs])
  obtain ⟨N2, hN2⟩ : ∃ N2, (fIns C.x f).2 = N2 := ⟨_, rfl⟩
  have i2 : I64 N2 := hN2 ▸ ins64 R.insW.1
  obtain ⟨fb, hfb⟩ := Int.eq_ofNat_of_zero_le FW.out.fn.1
  obtain ⟨pb, hpb⟩ := Int.eq_ofNat_of_zero_le FW.out.at_.1
  have hfbx : fb < C.x.length := by have := FW.out.fn.2; omega
  have hcd : fCode C.x f = codeD C.x (fb : Int) := by unfold fCode; rw [hfb]
  have hpbx : pb < (codeD C.x (fb : Int)).2.2.2.1.length := by have := FW.out.at_.2; rw [hcd, hpb] at this; omega
  have l5 : pb ≤ 1000000 := by have := FW.out.il; have := FW.out.at_.2; omega
  have l6 : fb ≤ 1000000 := by have := FW.out.xl; omega
  have hIe : fIns C.x f = (3, N2) := by rw [← hK, ← hN2]
  have HIE := Lib.hid hIe
  have HN := Lib.hid hn
  have HJ := Lib.hid hj
  have RR := Lib.hid R
  have HH := Lib.hid h
  clear hn hj R h
  go_enter Tryz.func28, Tryz.ntmps28
  go_wp2_with fail
  refine (implTop C _ g n c s HH.out h0 hn1 hnc hcm).mono ?_
  rintro e w1 ⟨rfl, k1, hw1⟩
  have h2 : MM C w1 (.slice (some ⟨g, 0, none⟩) n c) s := by rw [hw1]; exact HH.out.drewN k1
  clear hw1
  obtain ⟨bc, oc, bi, oi, k3, d3, eA, hnx, hk3, hbc, hbi, u3, u5, u6, _, _⟩ := h2.insCells hfbx hpbx
  have hop : insAt (codeD C.x (fb : Int)).2.2.2.1 (pb : Int) = fIns C.x f := by unfold fIns; rw [hcd, hpb]
  rw [hop, hIe] at u5 u6
  obtain ⟨_, _, mv⟩ := h2.mv
  have m0 := mv.m0
  rw [eA] at m0
  obtain ⟨_, _, _, _, _, _, _, _, ho⟩ := h2.opg HJ.out
  have c1 := ho.fv.c1
  have c2 := ho.fv.c2
  rw [hfb] at c1
  rw [hpb] at c2
  have hgl := ho.fv.lt
  have hM3 := mv.lt
  have hgM := ho.fv.gM
  obtain ⟨_, _, hBw⟩ := h2.xs
  have l1 : fb < C.nx := by omega
  have l2 : (fb : Int) < (C.nx : Int) := by omega
  have l3 : pb < k3 := by omega
  have l4 : (pb : Int) < (k3 : Int) := by omega
  have hS := Lib.hid (show ∀ V', Below w1.heap.size w1 V' → V'.cell? ⟨C.M, 0, none⟩ = some (.slice (some ⟨bc, oc, none⟩) C.nx C.cx) ∧ V'.cell? ⟨g, (n - 1) * 11 + 1, none⟩ = some (.int .i64 fb) ∧ V'.cell? ⟨g, (n - 1) * 11 + 2, none⟩ = some (.int .i64 pb) ∧ V'.cell? ⟨bc, oc + fb * 5 + 3, none⟩ = some (.slice (some ⟨bi, oi, none⟩) k3 d3) ∧ V'.cell? ⟨bi, oi + pb * 2, none⟩ = some (.int .i64 3) ∧ V'.cell? ⟨bi, oi + pb * 2 + 1, none⟩ = some (.int .i64 N2) from fun V' hV => ⟨below_cell hV m0, below_cell hV c1, below_cell hV c2, below_cell hV u3, below_cell hV u5, below_cell hV u6⟩)
  have HPB := Lib.hid hpb
  have H2 := Lib.hid h2
  clear mv ho h2 hk3 hnx hcd hpb hfb hop eA hIe hK hN2 m0 c1 c2 u3 u5 u6
  go_upto_region 1 with fail
  obtain ⟨q0, q1, q2, q3, q4, q5⟩ := hS.out w1 (Below.refl _ _)
  go_region_held3 (fun V' => V'.cell? ⟨C.M, 0, none⟩ = some (.slice (some ⟨bc, oc, none⟩) C.nx C.cx) ∧ V'.cell? ⟨g, (n - 1) * 11 + 1, none⟩ = some (.int .i64 fb) ∧ V'.cell? ⟨g, (n - 1) * 11 + 2, none⟩ = some (.int .i64 pb) ∧ V'.cell? ⟨bc, oc + fb * 5 + 3, none⟩ = some (.slice (some ⟨bi, oi, none⟩) k3 d3) ∧ V'.cell? ⟨bi, oi + pb * 2, none⟩ = some (.int .i64 3) ∧ V'.cell? ⟨bi, oi + pb * 2 + 1, none⟩ = some (.int .i64 N2)) (exact hS.out _ (show Below w1.heap.size w1 _ by exact beloA)) (fail)
  obtain ⟨W, hW⟩ : ∃ W, W = (w1.alloc (.cells #[.int .i64 3, .int .i64 N2] 84)).drew := ⟨_, rfl⟩
  have hbW : Below w1.heap.size w1 W := by rw [hW]; exact belA
  have hzW : W.heap.size = w1.heap.size + 1 := by rw [hW]; simp
  have b0 : W.cell? ⟨w1.heap.size, 0, none⟩ = some (.int .i64 3) := by rw [hW]; simp [go_sem]
  have b1 : W.cell? ⟨w1.heap.size, 1, none⟩ = some (.int .i64 N2) := by rw [hW]; simp [go_sem]
  have H3 := Lib.hid (H2.out.apart hbW (Fx := [w1.heap.size]) (fun k hk => by rw [List.mem_singleton.1 hk]; omega))
  have H1 := Lib.hid H3.out.less
  rw [← hW]
  obtain ⟨X, hX⟩ : ∃ X, w1.heap.size = X := ⟨_, rfl⟩
  rw [hX] at H3 hzW b0 b1 ⊢
  have hMX : C.M < X := by omega
  have hgX : g < X := by omega
  clear hW hbW hX H2 hS q0 q1 q2 q3 q4 q5 hgl hM3
  obtain ⟨_, _, _, _, _, _, _, _, ho⟩ := H1.out.opg HJ.out
  have c2 : W.cell? ⟨g, (n - 1) * 11 + 2, none⟩ = some (.int .i64 pb) := by rw [← HPB.out]; exact ho.fv.c2
  have fz2 := ho.fv.fz ((n - 1) * 11 + 2)
  have hgW := ho.fv.lt
  clear ho
  obtain ⟨k, hk2, hkl⟩ := RR.out.var (by rw [HIE.out]; simp)
  obtain rfl : N2 = (k : Int) := by rw [HIE.out] at hk2; exact hk2
  have hp0 : 0 < (fPile f).length := by have := HIW.out.2.1; rw [HIE.out, tk1 (by simp)] at this; omega
  have hsl := small_lastN FW.out.ps
  have hl64 := I64_of hsl
  have HF := Lib.hid (show stepF C.x C.ins C.most s = { s with fs := fVars (fGo f ((pb : Int) + 1) (fPile f).dropLast) (f.2.2.2.2.1.set k (lastN (fPile f))) :: rest } by rw [HE.out, HIE.out]; simp [stepI, HPB.out])
  go_wp2_with fail
  refine (implPlain3 C W g n c s f H1.out HJ.out k hkl hl64 hp0 (by omega)).mono ?_
  rintro e w5 ⟨rfl, h5⟩
  have hj5 : (s.put (n - 1) (fVars (fGo f f.2.2.1 (fPile f).dropLast) (f.2.2.2.2.1.set k (lastN (fPile f))))).fs.reverse[n - 1]? = some (fVars (fGo f f.2.2.1 (fPile f).dropLast) (f.2.2.2.2.1.set k (lastN (fPile f)))) := MS.put_get HJ.out
  obtain ⟨_, _, _, _, _, _, _, _, ho⟩ := h5.opg hj5
  have c2 : w5.cell? ⟨g, (n - 1) * 11 + 2, none⟩ = some (.int .i64 pb) := by rw [← HPB.out]; exact ho.fv.c2
  have fz2 := ho.fv.fz ((n - 1) * 11 + 2)
  have hg5 := ho.fv.lt
  have h6 := h5.pAt hj5 (a := (pb : Int) + 1) (by unfold I64; omega)
  rw [MS.put_put, MS.put_top RR.out.fs HN.out] at h6
  have h7 : MM C _ _ { s with fs := fVars (fGo f ((pb : Int) + 1) (fPile f).dropLast) (f.2.2.2.2.1.set k (lastN (fPile f))) :: rest } := h6
  have H7 := Lib.hid h7
  clear ho h6 h7 h5
  go_wp2_with fail
  go_end0
  exact ⟨rfl, _, HF.out ▸ H7.out⟩
set_option maxHeartbeats 4000000 in
theorem implStep9 (C : Cfg) (w : World) (vf : Value) (s : MS) (f : Frame) (rest : List Frame) (N : Nat) (h : MM C w vf s) (R : Rdy C.x C.ins C.most N s f rest) (hK : (fIns C.x f).1 = 9) :
    Calls Tryz.prog 28 #[.pointer (some ⟨C.M, 0, none⟩)] w (RetN C (stepF C.x C.ins C.most s) w) := by
  obtain ⟨g, n, c, rfl, hn, h0, hnc, hcm, hj⟩ := h.opens R.fs
  have hn1 : n ≤ 1000000 := by have := R.ok.many; omega
  have FW := Lib.hid R.fw
  have HIW := Lib.hid R.insW
  have hpl := R.pile
  have HE := Lib.hid (show stepF C.x C.ins C.most s = stepI C.x C.ins C.most s f rest (fIns C.x f) by unfold stepF; rw [R.fs])
  obtain ⟨N2, hN2⟩ : ∃ N2, (fIns C.x f).2 = N2 := ⟨_, rfl⟩
  have i2 : I64 N2 := hN2 ▸ ins64 R.insW.1
  obtain ⟨fb, hfb⟩ := Int.eq_ofNat_of_zero_le FW.out.fn.1
  obtain ⟨pb, hpb⟩ := Int.eq_ofNat_of_zero_le FW.out.at_.1
  have hfbx : fb < C.x.length := by have := FW.out.fn.2; omega
  have hcd : fCode C.x f = codeD C.x (fb : Int) := by unfold fCode; rw [hfb]
  have hpbx : pb < (codeD C.x (fb : Int)).2.2.2.1.length := by have := FW.out.at_.2; rw [hcd, hpb] at this; omega
  have l5 : pb ≤ 1000000 := by have := FW.out.il; have := FW.out.at_.2; omega
  have l6 : fb ≤ 1000000 := by have := FW.out.xl; omega
  have hIe : fIns C.x f = (9, N2) := by rw [← hK, ← hN2]
  have HIE := Lib.hid hIe
  have HN := Lib.hid hn
  have HJ := Lib.hid hj
  have RR := Lib.hid R
  have HH := Lib.hid h
  clear hn hj R h
  go_enter Tryz.func28, Tryz.ntmps28
  go_wp2_with fail
  refine (implTop C _ g n c s HH.out h0 hn1 hnc hcm).mono ?_
  rintro e w1 ⟨rfl, k1, hw1⟩
  have h2 : MM C w1 (.slice (some ⟨g, 0, none⟩) n c) s := by rw [hw1]; exact HH.out.drewN k1
  clear hw1
  obtain ⟨bc, oc, bi, oi, k3, d3, eA, hnx, hk3, hbc, hbi, u3, u5, u6, _, _⟩ := h2.insCells hfbx hpbx
  have hop : insAt (codeD C.x (fb : Int)).2.2.2.1 (pb : Int) = fIns C.x f := by unfold fIns; rw [hcd, hpb]
  rw [hop, hIe] at u5 u6
  obtain ⟨_, _, mv⟩ := h2.mv
  have m0 := mv.m0
  rw [eA] at m0
  obtain ⟨_, _, _, _, _, _, _, _, ho⟩ := h2.opg HJ.out
  have c1 := ho.fv.c1
  have c2 := ho.fv.c2
  rw [hfb] at c1
  rw [hpb] at c2
  have hgl := ho.fv.lt
  have hM3 := mv.lt
  have hgM := ho.fv.gM
  obtain ⟨_, _, hBw⟩ := h2.xs
  have l1 : fb < C.nx := by omega
  have l2 : (fb : Int) < (C.nx : Int) := by omega
  have l3 : pb < k3 := by omega
  have l4 : (pb : Int) < (k3 : Int) := by omega
  have hS := Lib.hid (show ∀ V', Below w1.heap.size w1 V' → V'.cell? ⟨C.M, 0, none⟩ = some (.slice (some ⟨bc, oc, none⟩) C.nx C.cx) ∧ V'.cell? ⟨g, (n - 1) * 11 + 1, none⟩ = some (.int .i64 fb) ∧ V'.cell? ⟨g, (n - 1) * 11 + 2, none⟩ = some (.int .i64 pb) ∧ V'.cell? ⟨bc, oc + fb * 5 + 3, none⟩ = some (.slice (some ⟨bi, oi, none⟩) k3 d3) ∧ V'.cell? ⟨bi, oi + pb * 2, none⟩ = some (.int .i64 9) ∧ V'.cell? ⟨bi, oi + pb * 2 + 1, none⟩ = some (.int .i64 N2) from fun V' hV => ⟨below_cell hV m0, below_cell hV c1, below_cell hV c2, below_cell hV u3, below_cell hV u5, below_cell hV u6⟩)
  have HPB := Lib.hid hpb
  have H2 := Lib.hid h2
  clear mv ho h2 hk3 hnx hcd hpb hfb hop eA hIe hK hN2 m0 c1 c2 u3 u5 u6
  go_upto_region 1 with fail
  obtain ⟨q0, q1, q2, q3, q4, q5⟩ := hS.out w1 (Below.refl _ _)
  go_region_held3 (fun V' => V'.cell? ⟨C.M, 0, none⟩ = some (.slice (some ⟨bc, oc, none⟩) C.nx C.cx) ∧ V'.cell? ⟨g, (n - 1) * 11 + 1, none⟩ = some (.int .i64 fb) ∧ V'.cell? ⟨g, (n - 1) * 11 + 2, none⟩ = some (.int .i64 pb) ∧ V'.cell? ⟨bc, oc + fb * 5 + 3, none⟩ = some (.slice (some ⟨bi, oi, none⟩) k3 d3) ∧ V'.cell? ⟨bi, oi + pb * 2, none⟩ = some (.int .i64 9) ∧ V'.cell? ⟨bi, oi + pb * 2 + 1, none⟩ = some (.int .i64 N2)) (exact hS.out _ (show Below w1.heap.size w1 _ by exact beloA)) (fail)
  obtain ⟨W, hW⟩ : ∃ W, W = (w1.alloc (.cells #[.int .i64 9, .int .i64 N2] 84)).drew := ⟨_, rfl⟩
  have hbW : Below w1.heap.size w1 W := by rw [hW]; exact belA
  have hzW : W.heap.size = w1.heap.size + 1 := by rw [hW]; simp
  have b0 : W.cell? ⟨w1.heap.size, 0, none⟩ = some (.int .i64 9) := by rw [hW]; simp [go_sem]
  have b1 : W.cell? ⟨w1.heap.size, 1, none⟩ = some (.int .i64 N2) := by rw [hW]; simp [go_sem]
  have H3 := Lib.hid (H2.out.apart hbW (Fx := [w1.heap.size]) (fun k hk => by rw [List.mem_singleton.1 hk]; omega))
  have H1 := Lib.hid H3.out.less
  rw [← hW]
  obtain ⟨X, hX⟩ : ∃ X, w1.heap.size = X := ⟨_, rfl⟩
  rw [hX] at H3 hzW b0 b1 ⊢
  have hMX : C.M < X := by omega
  have hgX : g < X := by omega
  clear hW hbW hX H2 hS q0 q1 q2 q3 q4 q5 hgl hM3
  obtain ⟨_, _, _, _, _, _, _, _, ho⟩ := H1.out.opg HJ.out
  have c2 : W.cell? ⟨g, (n - 1) * 11 + 2, none⟩ = some (.int .i64 pb) := by rw [← HPB.out]; exact ho.fv.c2
  have fz2 := ho.fv.fz ((n - 1) * 11 + 2)
  have hgW := ho.fv.lt
  clear ho
  have hp0 : 0 < (fPile f).length := by have := HIW.out.2.1; rw [HIE.out, tk1 (by simp)] at this; omega
  have hsl := small_lastN FW.out.ps
  have hl64 := I64_of hsl
  have HF := Lib.hid (show stepF C.x C.ins C.most s = { s with fs := fGo f ((pb : Int) + 1) (fPile f).dropLast :: rest } by rw [HE.out, HIE.out]; simp [stepI, HPB.out])
  go_wp2_with fail
  refine (implPlain9 C W g n c s f H1.out HJ.out N2 hp0 (by omega)).mono ?_
  rintro e w5 ⟨rfl, h5⟩
  have hj5 : (s.put (n - 1) (fGo f f.2.2.1 (fPile f).dropLast)).fs.reverse[n - 1]? = some (fGo f f.2.2.1 (fPile f).dropLast) := MS.put_get HJ.out
  obtain ⟨_, _, _, _, _, _, _, _, ho⟩ := h5.opg hj5
  have c2 : w5.cell? ⟨g, (n - 1) * 11 + 2, none⟩ = some (.int .i64 pb) := by rw [← HPB.out]; exact ho.fv.c2
  have fz2 := ho.fv.fz ((n - 1) * 11 + 2)
  have hg5 := ho.fv.lt
  have h6 := h5.pAt hj5 (a := (pb : Int) + 1) (by unfold I64; omega)
  rw [MS.put_put, MS.put_top RR.out.fs HN.out] at h6
  have h7 : MM C _ _ { s with fs := fGo f ((pb : Int) + 1) (fPile f).dropLast :: rest } := h6
  have H7 := Lib.hid h7
  clear ho h6 h7 h5
  go_wp2_with fail
  go_end0
  exact ⟨rfl, _, HF.out ▸ H7.out⟩
set_option maxHeartbeats 4000000 in
theorem implStep15 (C : Cfg) (w : World) (vf : Value) (s : MS) (f : Frame) (rest : List Frame) (N : Nat) (h : MM C w vf s) (R : Rdy C.x C.ins C.most N s f rest) (hK : (fIns C.x f).1 = 15) :
    Calls Tryz.prog 28 #[.pointer (some ⟨C.M, 0, none⟩)] w (RetN C (stepF C.x C.ins C.most s) w) := by
  obtain ⟨g, n, c, rfl, hn, h0, hnc, hcm, hj⟩ := h.opens R.fs
  have hn1 : n ≤ 1000000 := by have := R.ok.many; omega
  have FW := Lib.hid R.fw
  have HIW := Lib.hid R.insW
  have hpl := R.pile
  have HE := Lib.hid (show stepF C.x C.ins C.most s = stepI C.x C.ins C.most s f rest (fIns C.x f) by unfold stepF; rw [R.fs])
  obtain ⟨N2, hN2⟩ : ∃ N2, (fIns C.x f).2 = N2 := ⟨_, rfl⟩
  have i2 : I64 N2 := hN2 ▸ ins64 R.insW.1
  obtain ⟨fb, hfb⟩ := Int.eq_ofNat_of_zero_le FW.out.fn.1
  obtain ⟨pb, hpb⟩ := Int.eq_ofNat_of_zero_le FW.out.at_.1
  have hfbx : fb < C.x.length := by have := FW.out.fn.2; omega
  have hcd : fCode C.x f = codeD C.x (fb : Int) := by unfold fCode; rw [hfb]
  have hpbx : pb < (codeD C.x (fb : Int)).2.2.2.1.length := by have := FW.out.at_.2; rw [hcd, hpb] at this; omega
  have l5 : pb ≤ 1000000 := by have := FW.out.il; have := FW.out.at_.2; omega
  have l6 : fb ≤ 1000000 := by have := FW.out.xl; omega
  have hIe : fIns C.x f = (15, N2) := by rw [← hK, ← hN2]
  have HIE := Lib.hid hIe
  have HN := Lib.hid hn
  have HJ := Lib.hid hj
  have RR := Lib.hid R
  have HH := Lib.hid h
  clear hn hj R h
  go_enter Tryz.func28, Tryz.ntmps28
  go_wp2_with fail
  refine (implTop C _ g n c s HH.out h0 hn1 hnc hcm).mono ?_
  rintro e w1 ⟨rfl, k1, hw1⟩
  have h2 : MM C w1 (.slice (some ⟨g, 0, none⟩) n c) s := by rw [hw1]; exact HH.out.drewN k1
  clear hw1
  obtain ⟨bc, oc, bi, oi, k3, d3, eA, hnx, hk3, hbc, hbi, u3, u5, u6, _, _⟩ := h2.insCells hfbx hpbx
  have hop : insAt (codeD C.x (fb : Int)).2.2.2.1 (pb : Int) = fIns C.x f := by unfold fIns; rw [hcd, hpb]
  rw [hop, hIe] at u5 u6
  obtain ⟨_, _, mv⟩ := h2.mv
  have m0 := mv.m0
  rw [eA] at m0
  obtain ⟨_, _, _, _, _, _, _, _, ho⟩ := h2.opg HJ.out
  have c1 := ho.fv.c1
  have c2 := ho.fv.c2
  rw [hfb] at c1
  rw [hpb] at c2
  have hgl := ho.fv.lt
  have hM3 := mv.lt
  have hgM := ho.fv.gM
  obtain ⟨_, _, hBw⟩ := h2.xs
  have l1 : fb < C.nx := by omega
  have l2 : (fb : Int) < (C.nx : Int) := by omega
  have l3 : pb < k3 := by omega
  have l4 : (pb : Int) < (k3 : Int) := by omega
  have hS := Lib.hid (show ∀ V', Below w1.heap.size w1 V' → V'.cell? ⟨C.M, 0, none⟩ = some (.slice (some ⟨bc, oc, none⟩) C.nx C.cx) ∧ V'.cell? ⟨g, (n - 1) * 11 + 1, none⟩ = some (.int .i64 fb) ∧ V'.cell? ⟨g, (n - 1) * 11 + 2, none⟩ = some (.int .i64 pb) ∧ V'.cell? ⟨bc, oc + fb * 5 + 3, none⟩ = some (.slice (some ⟨bi, oi, none⟩) k3 d3) ∧ V'.cell? ⟨bi, oi + pb * 2, none⟩ = some (.int .i64 15) ∧ V'.cell? ⟨bi, oi + pb * 2 + 1, none⟩ = some (.int .i64 N2) from fun V' hV => ⟨below_cell hV m0, below_cell hV c1, below_cell hV c2, below_cell hV u3, below_cell hV u5, below_cell hV u6⟩)
  have HPB := Lib.hid hpb
  have H2 := Lib.hid h2
  clear mv ho h2 hk3 hnx hcd hpb hfb hop eA hIe hK hN2 m0 c1 c2 u3 u5 u6
  go_upto_region 1 with fail
  obtain ⟨q0, q1, q2, q3, q4, q5⟩ := hS.out w1 (Below.refl _ _)
  go_region_held3 (fun V' => V'.cell? ⟨C.M, 0, none⟩ = some (.slice (some ⟨bc, oc, none⟩) C.nx C.cx) ∧ V'.cell? ⟨g, (n - 1) * 11 + 1, none⟩ = some (.int .i64 fb) ∧ V'.cell? ⟨g, (n - 1) * 11 + 2, none⟩ = some (.int .i64 pb) ∧ V'.cell? ⟨bc, oc + fb * 5 + 3, none⟩ = some (.slice (some ⟨bi, oi, none⟩) k3 d3) ∧ V'.cell? ⟨bi, oi + pb * 2, none⟩ = some (.int .i64 15) ∧ V'.cell? ⟨bi, oi + pb * 2 + 1, none⟩ = some (.int .i64 N2)) (exact hS.out _ (show Below w1.heap.size w1 _ by exact beloA)) (fail)
  obtain ⟨W, hW⟩ : ∃ W, W = (w1.alloc (.cells #[.int .i64 15, .int .i64 N2] 84)).drew := ⟨_, rfl⟩
  have hbW : Below w1.heap.size w1 W := by rw [hW]; exact belA
  have hzW : W.heap.size = w1.heap.size + 1 := by rw [hW]; simp
  have b0 : W.cell? ⟨w1.heap.size, 0, none⟩ = some (.int .i64 15) := by rw [hW]; simp [go_sem]
  have b1 : W.cell? ⟨w1.heap.size, 1, none⟩ = some (.int .i64 N2) := by rw [hW]; simp [go_sem]
  have H3 := Lib.hid (H2.out.apart hbW (Fx := [w1.heap.size]) (fun k hk => by rw [List.mem_singleton.1 hk]; omega))
  have H1 := Lib.hid H3.out.less
  rw [← hW]
  obtain ⟨X, hX⟩ : ∃ X, w1.heap.size = X := ⟨_, rfl⟩
  rw [hX] at H3 hzW b0 b1 ⊢
  have hMX : C.M < X := by omega
  have hgX : g < X := by omega
  clear hW hbW hX H2 hS q0 q1 q2 q3 q4 q5 hgl hM3
  obtain ⟨_, _, _, _, _, _, _, _, ho⟩ := H1.out.opg HJ.out
  have c2 : W.cell? ⟨g, (n - 1) * 11 + 2, none⟩ = some (.int .i64 pb) := by rw [← HPB.out]; exact ho.fv.c2
  have fz2 := ho.fv.fz ((n - 1) * 11 + 2)
  have hgW := ho.fv.lt
  clear ho
  have hp0 : 0 < (fPile f).length := by have := HIW.out.2.1; rw [HIE.out, tk1 (by simp)] at this; omega
  have hsl := small_lastN FW.out.ps
  have hl64 := I64_of hsl
  have HF := Lib.hid (show stepF C.x C.ins C.most s = { s with fs := fRes (fGo f ((pb : Int) + 1) (fPile f).dropLast) (lastN (fPile f)) :: rest } by rw [HE.out, HIE.out]; simp [stepI, HPB.out])
  go_wp2_with fail
  refine (implPlain15 C W g n c s f H1.out HJ.out N2 hl64 hp0 (by omega)).mono ?_
  rintro e w5 ⟨rfl, h5⟩
  have hj5 : (s.put (n - 1) (fRes (fGo f f.2.2.1 (fPile f).dropLast) (lastN (fPile f)))).fs.reverse[n - 1]? = some (fRes (fGo f f.2.2.1 (fPile f).dropLast) (lastN (fPile f))) := MS.put_get HJ.out
  obtain ⟨_, _, _, _, _, _, _, _, ho⟩ := h5.opg hj5
  have c2 : w5.cell? ⟨g, (n - 1) * 11 + 2, none⟩ = some (.int .i64 pb) := by rw [← HPB.out]; exact ho.fv.c2
  have fz2 := ho.fv.fz ((n - 1) * 11 + 2)
  have hg5 := ho.fv.lt
  have h6 := h5.pAt hj5 (a := (pb : Int) + 1) (by unfold I64; omega)
  rw [MS.put_put, MS.put_top RR.out.fs HN.out] at h6
  have h7 : MM C _ _ { s with fs := fRes (fGo f ((pb : Int) + 1) (fPile f).dropLast) (lastN (fPile f)) :: rest } := h6
  have H7 := Lib.hid h7
  clear ho h6 h7 h5
  go_wp2_with fail
  go_end0
  exact ⟨rfl, _, HF.out ▸ H7.out⟩
end Go.Proofs.YtgdeclmciflmpaaGreat

/- One step of the program's machine: walks. Printed by stepi6gen.py. -/
set_option linter.unusedVariables false
set_option linter.unusedSimpArgs false
set_option maxRecDepth 100000
namespace Go.Proofs.YtgdeclmciflmpaaGreat
open Go.RowKit
attribute [local irreducible] wpList
theorem implPlain5c (C : Cfg) (w : World) (g n c : Nat) (s : MS) (f : Frame) (h : MM C w (.slice (some ⟨g, 0, none⟩) n c) s) (hj : s.fs.reverse[n - 1]? = some f) (v : Int) (hlt : C.ins.length ≤ s.used) (hub : s.used ≤ 9223372036854775807) (hp : (fPile f).length ≤ 1000000) :
    Calls Tryz.prog 59 #[.pointer (some ⟨C.M, 0, none⟩), .pointer (some ⟨g, (n - 1) * 11, none⟩), .agg #[.int .i64 5, .int .i64 v]] w (RetPut C g n c (s.put (n - 1) (fGo f f.2.2.1 (fPile f ++ [0]))) w) := by
  have HH := Lib.hid h
  obtain ⟨_, hin, hB⟩ := h.xs
  have hni := hin.lenEq
  obtain ⟨_, _, mv⟩ := h.mv
  have m1 := mv.m1
  have m5 := mv.m5
  have hM := mv.lt
  have hd : decide ((s.used : Int) < (C.ni : Int)) = false := decide_eq_false (by omega)
  have hd2 : ¬ (s.used : Int) < (C.ni : Int) := by omega
  have HJ := Lib.hid hj
  have hS := Lib.hid (show ∀ V', Below w.heap.size w V' → V'.cell? ⟨C.M, 1, none⟩ = some (.slice C.ai C.ni C.ci) ∧ V'.cell? ⟨C.M, 5, none⟩ = some (.int .i64 s.used) from fun V' hV => ⟨below_cell hV m1, below_cell hV m5⟩)
  clear hin hni h hj m1 m5 mv hlt
  go_enter Tryz.func59, Tryz.ntmps59
  go_upto_region 10 with fail
  obtain ⟨W, hW⟩ : ∃ W, W = w.alloc (.cells #[.int .i64 5, .int .i64 v] 84) := ⟨_, rfl⟩
  have hbW : Below w.heap.size w W := by rw [hW]; exact belA
  rw [← hW]
  clear hW
  obtain ⟨q0, q1⟩ := hS.out W hbW
  go_quiet (fail)
  go_wp2_with fail
  refine (implPush C _ g n c s (n - 1) f 0 (by unfold I64; omega) ((HH.out.keep hbW).drewN nq) HJ.out hp).mono ?_
  rintro e w1 ⟨rfl, h1⟩
  go_wp2_with fail
  go_end0
  exact ⟨rfl, h1⟩
set_option maxHeartbeats 4000000 in
theorem implStep12 (C : Cfg) (w : World) (vf : Value) (s : MS) (f : Frame) (rest : List Frame) (N : Nat) (h : MM C w vf s) (R : Rdy C.x C.ins C.most N s f rest) (hK : (fIns C.x f).1 = 12) :
    Calls Tryz.prog 28 #[.pointer (some ⟨C.M, 0, none⟩)] w (RetN C (stepF C.x C.ins C.most s) w) := by
  obtain ⟨g, n, c, rfl, hn, h0, hnc, hcm, hj⟩ := h.opens R.fs
  have hn1 : n ≤ 1000000 := by have := R.ok.many; omega
  have FW := Lib.hid R.fw
  have HIW := Lib.hid R.insW
  have hpl := R.pile
  have HE := Lib.hid (show stepF C.x C.ins C.most s = stepI C.x C.ins C.most s f rest (fIns C.x f) by unfold stepF; rw [R.fs])
  obtain ⟨N2, hN2⟩ : ∃ N2, (fIns C.x f).2 = N2 := ⟨_, rfl⟩
  have i2 : I64 N2 := hN2 ▸ ins64 R.insW.1
  obtain ⟨fb, hfb⟩ := Int.eq_ofNat_of_zero_le FW.out.fn.1
  obtain ⟨pb, hpb⟩ := Int.eq_ofNat_of_zero_le FW.out.at_.1
  have hfbx : fb < C.x.length := by have := FW.out.fn.2; omega
  have hcd : fCode C.x f = codeD C.x (fb : Int) := by unfold fCode; rw [hfb]
  have hpbx : pb < (codeD C.x (fb : Int)).2.2.2.1.length := by have := FW.out.at_.2; rw [hcd, hpb] at this; omega
  have l5 : pb ≤ 1000000 := by have := FW.out.il; have := FW.out.at_.2; omega
  have l6 : fb ≤ 1000000 := by have := FW.out.xl; omega
  have hIe : fIns C.x f = (12, N2) := by rw [← hK, ← hN2]
  have HIE := Lib.hid hIe
  have HN := Lib.hid hn
  have HJ := Lib.hid hj
  have RR := Lib.hid R
  have HH := Lib.hid h
  clear hn hj R h
  go_enter Tryz.func28, Tryz.ntmps28
  go_wp2_with fail
  refine (implTop C _ g n c s HH.out h0 hn1 hnc hcm).mono ?_
  rintro e w1 ⟨rfl, k1, hw1⟩
  have h2 : MM C w1 (.slice (some ⟨g, 0, none⟩) n c) s := by rw [hw1]; exact HH.out.drewN k1
  clear hw1
  obtain ⟨bc, oc, bi, oi, k3, d3, eA, hnx, hk3, hbc, hbi, u3, u5, u6, _, _⟩ := h2.insCells hfbx hpbx
  have hop : insAt (codeD C.x (fb : Int)).2.2.2.1 (pb : Int) = fIns C.x f := by unfold fIns; rw [hcd, hpb]
  rw [hop, hIe] at u5 u6
  obtain ⟨_, _, mv⟩ := h2.mv
  have m0 := mv.m0
  rw [eA] at m0
  obtain ⟨_, _, _, _, _, _, _, _, ho⟩ := h2.opg HJ.out
  have c1 := ho.fv.c1
  have c2 := ho.fv.c2
  rw [hfb] at c1
  rw [hpb] at c2
  have hgl := ho.fv.lt
  have hM3 := mv.lt
  have hgM := ho.fv.gM
  obtain ⟨_, _, hBw⟩ := h2.xs
  have l1 : fb < C.nx := by omega
  have l2 : (fb : Int) < (C.nx : Int) := by omega
  have l3 : pb < k3 := by omega
  have l4 : (pb : Int) < (k3 : Int) := by omega
  have hS := Lib.hid (show ∀ V', Below w1.heap.size w1 V' → V'.cell? ⟨C.M, 0, none⟩ = some (.slice (some ⟨bc, oc, none⟩) C.nx C.cx) ∧ V'.cell? ⟨g, (n - 1) * 11 + 1, none⟩ = some (.int .i64 fb) ∧ V'.cell? ⟨g, (n - 1) * 11 + 2, none⟩ = some (.int .i64 pb) ∧ V'.cell? ⟨bc, oc + fb * 5 + 3, none⟩ = some (.slice (some ⟨bi, oi, none⟩) k3 d3) ∧ V'.cell? ⟨bi, oi + pb * 2, none⟩ = some (.int .i64 12) ∧ V'.cell? ⟨bi, oi + pb * 2 + 1, none⟩ = some (.int .i64 N2) from fun V' hV => ⟨below_cell hV m0, below_cell hV c1, below_cell hV c2, below_cell hV u3, below_cell hV u5, below_cell hV u6⟩)
  have HPB := Lib.hid hpb
  have H2 := Lib.hid h2
  clear mv ho h2 hk3 hnx hcd hpb hfb hop eA hIe hK hN2 m0 c1 c2 u3 u5 u6
  go_upto_region 1 with fail
  obtain ⟨q0, q1, q2, q3, q4, q5⟩ := hS.out w1 (Below.refl _ _)
  go_region_held3 (fun V' => V'.cell? ⟨C.M, 0, none⟩ = some (.slice (some ⟨bc, oc, none⟩) C.nx C.cx) ∧ V'.cell? ⟨g, (n - 1) * 11 + 1, none⟩ = some (.int .i64 fb) ∧ V'.cell? ⟨g, (n - 1) * 11 + 2, none⟩ = some (.int .i64 pb) ∧ V'.cell? ⟨bc, oc + fb * 5 + 3, none⟩ = some (.slice (some ⟨bi, oi, none⟩) k3 d3) ∧ V'.cell? ⟨bi, oi + pb * 2, none⟩ = some (.int .i64 12) ∧ V'.cell? ⟨bi, oi + pb * 2 + 1, none⟩ = some (.int .i64 N2)) (exact hS.out _ (show Below w1.heap.size w1 _ by exact beloA)) (fail)
  obtain ⟨W, hW⟩ : ∃ W, W = (w1.alloc (.cells #[.int .i64 12, .int .i64 N2] 84)).drew := ⟨_, rfl⟩
  have hbW : Below w1.heap.size w1 W := by rw [hW]; exact belA
  have hzW : W.heap.size = w1.heap.size + 1 := by rw [hW]; simp
  have b0 : W.cell? ⟨w1.heap.size, 0, none⟩ = some (.int .i64 12) := by rw [hW]; simp [go_sem]
  have b1 : W.cell? ⟨w1.heap.size, 1, none⟩ = some (.int .i64 N2) := by rw [hW]; simp [go_sem]
  have H3 := Lib.hid (H2.out.apart hbW (Fx := [w1.heap.size]) (fun k hk => by rw [List.mem_singleton.1 hk]; omega))
  have H1 := Lib.hid H3.out.less
  rw [← hW]
  obtain ⟨X, hX⟩ : ∃ X, w1.heap.size = X := ⟨_, rfl⟩
  rw [hX] at H3 hzW b0 b1 ⊢
  have hMX : C.M < X := by omega
  have hgX : g < X := by omega
  clear hW hbW hX H2 hS q0 q1 q2 q3 q4 q5 hgl hM3
  obtain ⟨_, _, _, _, _, _, _, _, ho⟩ := H1.out.opg HJ.out
  have c2 : W.cell? ⟨g, (n - 1) * 11 + 2, none⟩ = some (.int .i64 pb) := by rw [← HPB.out]; exact ho.fv.c2
  have fz2 := ho.fv.fz ((n - 1) * 11 + 2)
  have hgW := ho.fv.lt
  clear ho
  obtain ⟨k, hk2, hkl, hks⟩ := RR.out.site (by rw [HIE.out]; simp)
  obtain rfl : N2 = (k : Int) := by rw [HIE.out] at hk2; exact hk2
  have hk6 : k ≤ 1000000 := by have := FW.out.sl; omega
  have i1 := I64_of FW.out.id
  have hno : s.notes.length ≤ 4000000 := by have := RR.out.ok.notes; have := RR.out.hN; omega
  have HF := Lib.hid (show stepF C.x C.ins C.most s = { s with fs := fFlags (fGo f ((pb : Int) + 1) (fPile f)) (f.2.2.2.2.2.1.set k true) :: rest, notes := s.notes ++ [(1, f.1, (k : Int))] } by rw [HE.out, HIE.out]; simp [stepI, HPB.out])
  go_wp2_with fail
  refine (implPlain12 C W g n c s f H1.out HJ.out k hkl hk6 i1 hno).mono ?_
  rintro e w5 ⟨rfl, h5⟩
  have hj5 : ({ (s.put (n - 1) (fFlags f (f.2.2.2.2.2.1.set k true))) with notes := s.notes ++ [(1, f.1, (k : Int))] } : MS).fs.reverse[n - 1]? = some (fFlags f (f.2.2.2.2.2.1.set k true)) := MS.put_get HJ.out
  obtain ⟨_, _, _, _, _, _, _, _, ho⟩ := h5.opg hj5
  have c2 : w5.cell? ⟨g, (n - 1) * 11 + 2, none⟩ = some (.int .i64 pb) := by rw [← HPB.out]; exact ho.fv.c2
  have fz2 := ho.fv.fz ((n - 1) * 11 + 2)
  have hg5 := ho.fv.lt
  have h6 := h5.pAt hj5 (a := (pb : Int) + 1) (by unfold I64; omega)
  rw [MS.put_top (s := { (s.put (n - 1) (fFlags f (f.2.2.2.2.2.1.set k true))) with notes := s.notes ++ [(1, f.1, (k : Int))] }) (f := fFlags f (f.2.2.2.2.2.1.set k true)) (rest := rest) (congrArg MS.fs (MS.put_top (f' := fFlags f (f.2.2.2.2.2.1.set k true)) RR.out.fs HN.out)) (HN.out.trans (MS.put_len ..).symm)] at h6
  have h7 : MM C _ _ { s with fs := fFlags (fGo f ((pb : Int) + 1) (fPile f)) (f.2.2.2.2.2.1.set k true) :: rest, notes := s.notes ++ [(1, f.1, (k : Int))] } := h6
  have H7 := Lib.hid h7
  clear ho h6 h7 h5
  go_wp2_with fail
  go_end0
  exact ⟨rfl, _, HF.out ▸ H7.out⟩
set_option maxHeartbeats 4000000 in
theorem implStep8 (C : Cfg) (w : World) (vf : Value) (s : MS) (f : Frame) (rest : List Frame) (N : Nat) (h : MM C w vf s) (R : Rdy C.x C.ins C.most N s f rest) (hK : (fIns C.x f).1 = 8) :
    Calls Tryz.prog 28 #[.pointer (some ⟨C.M, 0, none⟩)] w (RetN C (stepF C.x C.ins C.most s) w) := by
  obtain ⟨g, n, c, rfl, hn, h0, hnc, hcm, hj⟩ := h.opens R.fs
  have hn1 : n ≤ 1000000 := by have := R.ok.many; omega
  have FW := Lib.hid R.fw
  have HIW := Lib.hid R.insW
  have hpl := R.pile
  have HE := Lib.hid (show stepF C.x C.ins C.most s = stepI C.x C.ins C.most s f rest (fIns C.x f) by unfold stepF; rw [R.fs])
  obtain ⟨N2, hN2⟩ : ∃ N2, (fIns C.x f).2 = N2 := ⟨_, rfl⟩
  have i2 : I64 N2 := hN2 ▸ ins64 R.insW.1
  obtain ⟨fb, hfb⟩ := Int.eq_ofNat_of_zero_le FW.out.fn.1
  obtain ⟨pb, hpb⟩ := Int.eq_ofNat_of_zero_le FW.out.at_.1
  have hfbx : fb < C.x.length := by have := FW.out.fn.2; omega
  have hcd : fCode C.x f = codeD C.x (fb : Int) := by unfold fCode; rw [hfb]
  have hpbx : pb < (codeD C.x (fb : Int)).2.2.2.1.length := by have := FW.out.at_.2; rw [hcd, hpb] at this; omega
  have l5 : pb ≤ 1000000 := by have := FW.out.il; have := FW.out.at_.2; omega
  have l6 : fb ≤ 1000000 := by have := FW.out.xl; omega
  have hIe : fIns C.x f = (8, N2) := by rw [← hK, ← hN2]
  have HIE := Lib.hid hIe
  have HN := Lib.hid hn
  have HJ := Lib.hid hj
  have RR := Lib.hid R
  have HH := Lib.hid h
  clear hn hj R h
  go_enter Tryz.func28, Tryz.ntmps28
  go_wp2_with fail
  refine (implTop C _ g n c s HH.out h0 hn1 hnc hcm).mono ?_
  rintro e w1 ⟨rfl, k1, hw1⟩
  have h2 : MM C w1 (.slice (some ⟨g, 0, none⟩) n c) s := by rw [hw1]; exact HH.out.drewN k1
  clear hw1
  obtain ⟨bc, oc, bi, oi, k3, d3, eA, hnx, hk3, hbc, hbi, u3, u5, u6, _, _⟩ := h2.insCells hfbx hpbx
  have hop : insAt (codeD C.x (fb : Int)).2.2.2.1 (pb : Int) = fIns C.x f := by unfold fIns; rw [hcd, hpb]
  rw [hop, hIe] at u5 u6
  obtain ⟨_, _, mv⟩ := h2.mv
  have m0 := mv.m0
  rw [eA] at m0
  obtain ⟨_, _, _, _, _, _, _, _, ho⟩ := h2.opg HJ.out
  have c1 := ho.fv.c1
  have c2 := ho.fv.c2
  rw [hfb] at c1
  rw [hpb] at c2
  have hgl := ho.fv.lt
  have hM3 := mv.lt
  have hgM := ho.fv.gM
  obtain ⟨_, _, hBw⟩ := h2.xs
  have l1 : fb < C.nx := by omega
  have l2 : (fb : Int) < (C.nx : Int) := by omega
  have l3 : pb < k3 := by omega
  have l4 : (pb : Int) < (k3 : Int) := by omega
  have hS := Lib.hid (show ∀ V', Below w1.heap.size w1 V' → V'.cell? ⟨C.M, 0, none⟩ = some (.slice (some ⟨bc, oc, none⟩) C.nx C.cx) ∧ V'.cell? ⟨g, (n - 1) * 11 + 1, none⟩ = some (.int .i64 fb) ∧ V'.cell? ⟨g, (n - 1) * 11 + 2, none⟩ = some (.int .i64 pb) ∧ V'.cell? ⟨bc, oc + fb * 5 + 3, none⟩ = some (.slice (some ⟨bi, oi, none⟩) k3 d3) ∧ V'.cell? ⟨bi, oi + pb * 2, none⟩ = some (.int .i64 8) ∧ V'.cell? ⟨bi, oi + pb * 2 + 1, none⟩ = some (.int .i64 N2) from fun V' hV => ⟨below_cell hV m0, below_cell hV c1, below_cell hV c2, below_cell hV u3, below_cell hV u5, below_cell hV u6⟩)
  have HPB := Lib.hid hpb
  have H2 := Lib.hid h2
  clear mv ho h2 hk3 hnx hcd hpb hfb hop eA hIe hK hN2 m0 c1 c2 u3 u5 u6
  go_upto_region 1 with fail
  obtain ⟨q0, q1, q2, q3, q4, q5⟩ := hS.out w1 (Below.refl _ _)
  go_region_held3 (fun V' => V'.cell? ⟨C.M, 0, none⟩ = some (.slice (some ⟨bc, oc, none⟩) C.nx C.cx) ∧ V'.cell? ⟨g, (n - 1) * 11 + 1, none⟩ = some (.int .i64 fb) ∧ V'.cell? ⟨g, (n - 1) * 11 + 2, none⟩ = some (.int .i64 pb) ∧ V'.cell? ⟨bc, oc + fb * 5 + 3, none⟩ = some (.slice (some ⟨bi, oi, none⟩) k3 d3) ∧ V'.cell? ⟨bi, oi + pb * 2, none⟩ = some (.int .i64 8) ∧ V'.cell? ⟨bi, oi + pb * 2 + 1, none⟩ = some (.int .i64 N2)) (exact hS.out _ (show Below w1.heap.size w1 _ by exact beloA)) (fail)
  obtain ⟨W, hW⟩ : ∃ W, W = (w1.alloc (.cells #[.int .i64 8, .int .i64 N2] 84)).drew := ⟨_, rfl⟩
  have hbW : Below w1.heap.size w1 W := by rw [hW]; exact belA
  have hzW : W.heap.size = w1.heap.size + 1 := by rw [hW]; simp
  have b0 : W.cell? ⟨w1.heap.size, 0, none⟩ = some (.int .i64 8) := by rw [hW]; simp [go_sem]
  have b1 : W.cell? ⟨w1.heap.size, 1, none⟩ = some (.int .i64 N2) := by rw [hW]; simp [go_sem]
  have H3 := Lib.hid (H2.out.apart hbW (Fx := [w1.heap.size]) (fun k hk => by rw [List.mem_singleton.1 hk]; omega))
  have H1 := Lib.hid H3.out.less
  rw [← hW]
  obtain ⟨X, hX⟩ : ∃ X, w1.heap.size = X := ⟨_, rfl⟩
  rw [hX] at H3 hzW b0 b1 ⊢
  have hMX : C.M < X := by omega
  have hgX : g < X := by omega
  clear hW hbW hX H2 hS q0 q1 q2 q3 q4 q5 hgl hM3
  obtain ⟨_, _, _, _, _, _, _, _, ho⟩ := H1.out.opg HJ.out
  have c2 : W.cell? ⟨g, (n - 1) * 11 + 2, none⟩ = some (.int .i64 pb) := by rw [← HPB.out]; exact ho.fv.c2
  have fz2 := ho.fv.fz ((n - 1) * 11 + 2)
  have hgW := ho.fv.lt
  clear ho
  have hp0 : 0 < (fPile f).length := by have := HIW.out.2.1; rw [HIE.out, tk1 (by simp)] at this; omega
  have hsl := small_lastN FW.out.ps
  have hl64 := I64_of hsl
  have htr : s.tr.length ≤ 4000000 := by have := RR.out.ok.tr; have := RR.out.hN; omega
  have HF := Lib.hid (show stepF C.x C.ins C.most s = { s with fs := fGo f ((pb : Int) + 1) (fPile f).dropLast :: rest, tr := s.tr ++ [lastN (fPile f)] } by rw [HE.out, HIE.out]; simp [stepI, HPB.out])
  go_wp2_with fail
  refine (implPlain8 C W g n c s f H1.out HJ.out N2 hl64 htr hp0 (by omega)).mono ?_
  rintro e w5 ⟨rfl, h5⟩
  have hj5 : ({ (s.put (n - 1) (fGo f f.2.2.1 (fPile f).dropLast)) with tr := s.tr ++ [lastN (fPile f)] } : MS).fs.reverse[n - 1]? = some (fGo f f.2.2.1 (fPile f).dropLast) := MS.put_get HJ.out
  obtain ⟨_, _, _, _, _, _, _, _, ho⟩ := h5.opg hj5
  have c2 : w5.cell? ⟨g, (n - 1) * 11 + 2, none⟩ = some (.int .i64 pb) := by rw [← HPB.out]; exact ho.fv.c2
  have fz2 := ho.fv.fz ((n - 1) * 11 + 2)
  have hg5 := ho.fv.lt
  have h6 := h5.pAt hj5 (a := (pb : Int) + 1) (by unfold I64; omega)
  rw [MS.put_top (s := { (s.put (n - 1) (fGo f f.2.2.1 (fPile f).dropLast)) with tr := s.tr ++ [lastN (fPile f)] }) (f := fGo f f.2.2.1 (fPile f).dropLast) (rest := rest) (congrArg MS.fs (MS.put_top (f' := fGo f f.2.2.1 (fPile f).dropLast) RR.out.fs HN.out)) (HN.out.trans (MS.put_len ..).symm)] at h6
  have h7 : MM C _ _ { s with fs := fGo f ((pb : Int) + 1) (fPile f).dropLast :: rest, tr := s.tr ++ [lastN (fPile f)] } := h6
  have H7 := Lib.hid h7
  clear ho h6 h7 h5
  go_wp2_with fail
  go_end0
  exact ⟨rfl, _, HF.out ▸ H7.out⟩
set_option maxHeartbeats 4000000 in
theorem implStep5 (C : Cfg) (w : World) (vf : Value) (s : MS) (f : Frame) (rest : List Frame) (N : Nat) (h : MM C w vf s) (R : Rdy C.x C.ins C.most N s f rest) (hK : (fIns C.x f).1 = 5) :
    Calls Tryz.prog 28 #[.pointer (some ⟨C.M, 0, none⟩)] w (RetN C (stepF C.x C.ins C.most s) w) := by
  obtain ⟨g, n, c, rfl, hn, h0, hnc, hcm, hj⟩ := h.opens R.fs
  have hn1 : n ≤ 1000000 := by have := R.ok.many; omega
  have FW := Lib.hid R.fw
  have HIW := Lib.hid R.insW
  have hpl := R.pile
  have HE := Lib.hid (show stepF C.x C.ins C.most s = stepI C.x C.ins C.most s f rest (fIns C.x f) by unfold stepF; rw [R.fs])
  obtain ⟨N2, hN2⟩ : ∃ N2, (fIns C.x f).2 = N2 := ⟨_, rfl⟩
  have i2 : I64 N2 := hN2 ▸ ins64 R.insW.1
  obtain ⟨fb, hfb⟩ := Int.eq_ofNat_of_zero_le FW.out.fn.1
  obtain ⟨pb, hpb⟩ := Int.eq_ofNat_of_zero_le FW.out.at_.1
  have hfbx : fb < C.x.length := by have := FW.out.fn.2; omega
  have hcd : fCode C.x f = codeD C.x (fb : Int) := by unfold fCode; rw [hfb]
  have hpbx : pb < (codeD C.x (fb : Int)).2.2.2.1.length := by have := FW.out.at_.2; rw [hcd, hpb] at this; omega
  have l5 : pb ≤ 1000000 := by have := FW.out.il; have := FW.out.at_.2; omega
  have l6 : fb ≤ 1000000 := by have := FW.out.xl; omega
  have hIe : fIns C.x f = (5, N2) := by rw [← hK, ← hN2]
  have HIE := Lib.hid hIe
  have HN := Lib.hid hn
  have HJ := Lib.hid hj
  have RR := Lib.hid R
  have HH := Lib.hid h
  clear hn hj R h
  go_enter Tryz.func28, Tryz.ntmps28
  go_wp2_with fail
  refine (implTop C _ g n c s HH.out h0 hn1 hnc hcm).mono ?_
  rintro e w1 ⟨rfl, k1, hw1⟩
  have h2 : MM C w1 (.slice (some ⟨g, 0, none⟩) n c) s := by rw [hw1]; exact HH.out.drewN k1
  clear hw1
  obtain ⟨bc, oc, bi, oi, k3, d3, eA, hnx, hk3, hbc, hbi, u3, u5, u6, _, _⟩ := h2.insCells hfbx hpbx
  have hop : insAt (codeD C.x (fb : Int)).2.2.2.1 (pb : Int) = fIns C.x f := by unfold fIns; rw [hcd, hpb]
  rw [hop, hIe] at u5 u6
  obtain ⟨_, _, mv⟩ := h2.mv
  have m0 := mv.m0
  rw [eA] at m0
  obtain ⟨_, _, _, _, _, _, _, _, ho⟩ := h2.opg HJ.out
  have c1 := ho.fv.c1
  have c2 := ho.fv.c2
  rw [hfb] at c1
  rw [hpb] at c2
  have hgl := ho.fv.lt
  have hM3 := mv.lt
  have hgM := ho.fv.gM
  obtain ⟨_, _, hBw⟩ := h2.xs
  have l1 : fb < C.nx := by omega
  have l2 : (fb : Int) < (C.nx : Int) := by omega
  have l3 : pb < k3 := by omega
  have l4 : (pb : Int) < (k3 : Int) := by omega
  have hS := Lib.hid (show ∀ V', Below w1.heap.size w1 V' → V'.cell? ⟨C.M, 0, none⟩ = some (.slice (some ⟨bc, oc, none⟩) C.nx C.cx) ∧ V'.cell? ⟨g, (n - 1) * 11 + 1, none⟩ = some (.int .i64 fb) ∧ V'.cell? ⟨g, (n - 1) * 11 + 2, none⟩ = some (.int .i64 pb) ∧ V'.cell? ⟨bc, oc + fb * 5 + 3, none⟩ = some (.slice (some ⟨bi, oi, none⟩) k3 d3) ∧ V'.cell? ⟨bi, oi + pb * 2, none⟩ = some (.int .i64 5) ∧ V'.cell? ⟨bi, oi + pb * 2 + 1, none⟩ = some (.int .i64 N2) from fun V' hV => ⟨below_cell hV m0, below_cell hV c1, below_cell hV c2, below_cell hV u3, below_cell hV u5, below_cell hV u6⟩)
  have HPB := Lib.hid hpb
  have H2 := Lib.hid h2
  clear mv ho h2 hk3 hnx hcd hpb hfb hop eA hIe hK hN2 m0 c1 c2 u3 u5 u6
  go_upto_region 1 with fail
  obtain ⟨q0, q1, q2, q3, q4, q5⟩ := hS.out w1 (Below.refl _ _)
  go_region_held3 (fun V' => V'.cell? ⟨C.M, 0, none⟩ = some (.slice (some ⟨bc, oc, none⟩) C.nx C.cx) ∧ V'.cell? ⟨g, (n - 1) * 11 + 1, none⟩ = some (.int .i64 fb) ∧ V'.cell? ⟨g, (n - 1) * 11 + 2, none⟩ = some (.int .i64 pb) ∧ V'.cell? ⟨bc, oc + fb * 5 + 3, none⟩ = some (.slice (some ⟨bi, oi, none⟩) k3 d3) ∧ V'.cell? ⟨bi, oi + pb * 2, none⟩ = some (.int .i64 5) ∧ V'.cell? ⟨bi, oi + pb * 2 + 1, none⟩ = some (.int .i64 N2)) (exact hS.out _ (show Below w1.heap.size w1 _ by exact beloA)) (fail)
  obtain ⟨W, hW⟩ : ∃ W, W = (w1.alloc (.cells #[.int .i64 5, .int .i64 N2] 84)).drew := ⟨_, rfl⟩
  have hbW : Below w1.heap.size w1 W := by rw [hW]; exact belA
  have hzW : W.heap.size = w1.heap.size + 1 := by rw [hW]; simp
  have b0 : W.cell? ⟨w1.heap.size, 0, none⟩ = some (.int .i64 5) := by rw [hW]; simp [go_sem]
  have b1 : W.cell? ⟨w1.heap.size, 1, none⟩ = some (.int .i64 N2) := by rw [hW]; simp [go_sem]
  have H3 := Lib.hid (H2.out.apart hbW (Fx := [w1.heap.size]) (fun k hk => by rw [List.mem_singleton.1 hk]; omega))
  have H1 := Lib.hid H3.out.less
  rw [← hW]
  obtain ⟨X, hX⟩ : ∃ X, w1.heap.size = X := ⟨_, rfl⟩
  rw [hX] at H3 hzW b0 b1 ⊢
  have hMX : C.M < X := by omega
  have hgX : g < X := by omega
  clear hW hbW hX H2 hS q0 q1 q2 q3 q4 q5 hgl hM3
  obtain ⟨_, _, _, _, _, _, _, _, ho⟩ := H1.out.opg HJ.out
  have c2 : W.cell? ⟨g, (n - 1) * 11 + 2, none⟩ = some (.int .i64 pb) := by rw [← HPB.out]; exact ho.fv.c2
  have fz2 := ho.fv.fz ((n - 1) * 11 + 2)
  have hgW := ho.fv.lt
  clear ho
  by_cases hu : s.used < C.ins.length
  · have HF := Lib.hid (show stepF C.x C.ins C.most s = { s with fs := fGo f ((pb : Int) + 1) (fPile f ++ [C.ins.getD s.used 0]) :: rest, used := s.used + 1 } by rw [HE.out, HIE.out]; simp [stepI, HPB.out, hu])
    go_wp2_with fail
    refine (implPlain5a C W g n c s f H1.out HJ.out N2 hu (by omega)).mono ?_
    rintro e w5 ⟨rfl, h5⟩
    have hj5 : (({ s with used := s.used + 1 } : MS).put (n - 1) (fGo f f.2.2.1 (fPile f ++ [C.ins.getD s.used 0]))).fs.reverse[n - 1]? = some (fGo f f.2.2.1 (fPile f ++ [C.ins.getD s.used 0])) := MS.put_get (s := { s with used := s.used + 1 }) HJ.out
    obtain ⟨_, _, _, _, _, _, _, _, ho⟩ := h5.opg hj5
    have c2 : w5.cell? ⟨g, (n - 1) * 11 + 2, none⟩ = some (.int .i64 pb) := by rw [← HPB.out]; exact ho.fv.c2
    have fz2 := ho.fv.fz ((n - 1) * 11 + 2)
    have hg5 := ho.fv.lt
    have h6 := h5.pAt hj5 (a := (pb : Int) + 1) (by unfold I64; omega)
    rw [MS.put_put, MS.put_top (s := { s with used := s.used + 1 }) RR.out.fs HN.out] at h6
    have h7 : MM C _ _ { s with fs := fGo f ((pb : Int) + 1) (fPile f ++ [C.ins.getD s.used 0]) :: rest, used := s.used + 1 } := h6
    have H7 := Lib.hid h7
    clear ho h6 h7 h5
    go_wp2_with fail
    go_end0
    exact ⟨rfl, _, HF.out ▸ H7.out⟩
  · have HF := Lib.hid (show stepF C.x C.ins C.most s = { s with fs := fGo f ((pb : Int) + 1) (fPile f ++ [0]) :: rest } by rw [HE.out, HIE.out]; simp [stepI, HPB.out, hu])
    have hub : s.used ≤ 9223372036854775807 := by
      have := RR.out.ok.used
      obtain ⟨_, hin, _⟩ := H1.out.xs
      have := hin.lenLe
      have := hin.lenEq
      omega
    go_wp2_with fail
    refine (implPlain5c C W g n c s f H1.out HJ.out N2 (by omega) hub (by omega)).mono ?_
    rintro e w5 ⟨rfl, h5⟩
    have hj5 : (s.put (n - 1) (fGo f f.2.2.1 (fPile f ++ [0]))).fs.reverse[n - 1]? = some (fGo f f.2.2.1 (fPile f ++ [0])) := MS.put_get HJ.out
    obtain ⟨_, _, _, _, _, _, _, _, ho⟩ := h5.opg hj5
    have c2 : w5.cell? ⟨g, (n - 1) * 11 + 2, none⟩ = some (.int .i64 pb) := by rw [← HPB.out]; exact ho.fv.c2
    have fz2 := ho.fv.fz ((n - 1) * 11 + 2)
    have hg5 := ho.fv.lt
    have h6 := h5.pAt hj5 (a := (pb : Int) + 1) (by unfold I64; omega)
    rw [MS.put_put, MS.put_top RR.out.fs HN.out] at h6
    have h7 : MM C _ _ { s with fs := fGo f ((pb : Int) + 1) (fPile f ++ [0]) :: rest } := h6
    have H7 := Lib.hid h7
    clear ho h6 h7 h5
    go_wp2_with fail
    go_end0
    exact ⟨rfl, _, HF.out ▸ H7.out⟩
set_option maxHeartbeats 4000000 in
theorem implStep6 (C : Cfg) (w : World) (vf : Value) (s : MS) (f : Frame) (rest : List Frame) (N : Nat) (h : MM C w vf s) (R : Rdy C.x C.ins C.most N s f rest) (hK : (fIns C.x f).1 = 6) :
    Calls Tryz.prog 28 #[.pointer (some ⟨C.M, 0, none⟩)] w (RetN C (stepF C.x C.ins C.most s) w) := by
  obtain ⟨g, n, c, rfl, hn, h0, hnc, hcm, hj⟩ := h.opens R.fs
  have hn1 : n ≤ 1000000 := by have := R.ok.many; omega
  have FW := Lib.hid R.fw
  have HIW := Lib.hid R.insW
  have hpl := R.pile
  have HE := Lib.hid (show stepF C.x C.ins C.most s = stepI C.x C.ins C.most s f rest (fIns C.x f) by unfold stepF; rw [R.fs])
  obtain ⟨N2, hN2⟩ : ∃ N2, (fIns C.x f).2 = N2 := ⟨_, rfl⟩
  have i2 : I64 N2 := hN2 ▸ ins64 R.insW.1
  obtain ⟨fb, hfb⟩ := Int.eq_ofNat_of_zero_le FW.out.fn.1
  obtain ⟨pb, hpb⟩ := Int.eq_ofNat_of_zero_le FW.out.at_.1
  have hfbx : fb < C.x.length := by have := FW.out.fn.2; omega
  have hcd : fCode C.x f = codeD C.x (fb : Int) := by unfold fCode; rw [hfb]
  have hpbx : pb < (codeD C.x (fb : Int)).2.2.2.1.length := by have := FW.out.at_.2; rw [hcd, hpb] at this; omega
  have l5 : pb ≤ 1000000 := by have := FW.out.il; have := FW.out.at_.2; omega
  have l6 : fb ≤ 1000000 := by have := FW.out.xl; omega
  have hIe : fIns C.x f = (6, N2) := by rw [← hK, ← hN2]
  have HIE := Lib.hid hIe
  have HN := Lib.hid hn
  have HJ := Lib.hid hj
  have RR := Lib.hid R
  have HH := Lib.hid h
  clear hn hj R h
  go_enter Tryz.func28, Tryz.ntmps28
  go_wp2_with fail
  refine (implTop C _ g n c s HH.out h0 hn1 hnc hcm).mono ?_
  rintro e w1 ⟨rfl, k1, hw1⟩
  have h2 : MM C w1 (.slice (some ⟨g, 0, none⟩) n c) s := by rw [hw1]; exact HH.out.drewN k1
  clear hw1
  obtain ⟨bc, oc, bi, oi, k3, d3, eA, hnx, hk3, hbc, hbi, u3, u5, u6, _, _⟩ := h2.insCells hfbx hpbx
  have hop : insAt (codeD C.x (fb : Int)).2.2.2.1 (pb : Int) = fIns C.x f := by unfold fIns; rw [hcd, hpb]
  rw [hop, hIe] at u5 u6
  obtain ⟨_, _, mv⟩ := h2.mv
  have m0 := mv.m0
  rw [eA] at m0
  obtain ⟨_, _, _, _, _, _, _, _, ho⟩ := h2.opg HJ.out
  have c1 := ho.fv.c1
  have c2 := ho.fv.c2
  rw [hfb] at c1
  rw [hpb] at c2
  have hgl := ho.fv.lt
  have hM3 := mv.lt
  have hgM := ho.fv.gM
  obtain ⟨_, _, hBw⟩ := h2.xs
  have l1 : fb < C.nx := by omega
  have l2 : (fb : Int) < (C.nx : Int) := by omega
  have l3 : pb < k3 := by omega
  have l4 : (pb : Int) < (k3 : Int) := by omega
  have hS := Lib.hid (show ∀ V', Below w1.heap.size w1 V' → V'.cell? ⟨C.M, 0, none⟩ = some (.slice (some ⟨bc, oc, none⟩) C.nx C.cx) ∧ V'.cell? ⟨g, (n - 1) * 11 + 1, none⟩ = some (.int .i64 fb) ∧ V'.cell? ⟨g, (n - 1) * 11 + 2, none⟩ = some (.int .i64 pb) ∧ V'.cell? ⟨bc, oc + fb * 5 + 3, none⟩ = some (.slice (some ⟨bi, oi, none⟩) k3 d3) ∧ V'.cell? ⟨bi, oi + pb * 2, none⟩ = some (.int .i64 6) ∧ V'.cell? ⟨bi, oi + pb * 2 + 1, none⟩ = some (.int .i64 N2) from fun V' hV => ⟨below_cell hV m0, below_cell hV c1, below_cell hV c2, below_cell hV u3, below_cell hV u5, below_cell hV u6⟩)
  have HPB := Lib.hid hpb
  have H2 := Lib.hid h2
  clear mv ho h2 hk3 hnx hcd hpb hfb hop eA hIe hK hN2 m0 c1 c2 u3 u5 u6
  go_upto_region 1 with fail
  obtain ⟨q0, q1, q2, q3, q4, q5⟩ := hS.out w1 (Below.refl _ _)
  go_region_held3 (fun V' => V'.cell? ⟨C.M, 0, none⟩ = some (.slice (some ⟨bc, oc, none⟩) C.nx C.cx) ∧ V'.cell? ⟨g, (n - 1) * 11 + 1, none⟩ = some (.int .i64 fb) ∧ V'.cell? ⟨g, (n - 1) * 11 + 2, none⟩ = some (.int .i64 pb) ∧ V'.cell? ⟨bc, oc + fb * 5 + 3, none⟩ = some (.slice (some ⟨bi, oi, none⟩) k3 d3) ∧ V'.cell? ⟨bi, oi + pb * 2, none⟩ = some (.int .i64 6) ∧ V'.cell? ⟨bi, oi + pb * 2 + 1, none⟩ = some (.int .i64 N2)) (exact hS.out _ (show Below w1.heap.size w1 _ by exact beloA)) (fail)
  obtain ⟨W, hW⟩ : ∃ W, W = (w1.alloc (.cells #[.int .i64 6, .int .i64 N2] 84)).drew := ⟨_, rfl⟩
  have hbW : Below w1.heap.size w1 W := by rw [hW]; exact belA
  have hzW : W.heap.size = w1.heap.size + 1 := by rw [hW]; simp
  have b0 : W.cell? ⟨w1.heap.size, 0, none⟩ = some (.int .i64 6) := by rw [hW]; simp [go_sem]
  have b1 : W.cell? ⟨w1.heap.size, 1, none⟩ = some (.int .i64 N2) := by rw [hW]; simp [go_sem]
  have H3 := Lib.hid (H2.out.apart hbW (Fx := [w1.heap.size]) (fun k hk => by rw [List.mem_singleton.1 hk]; omega))
  have H1 := Lib.hid H3.out.less
  rw [← hW]
  obtain ⟨X, hX⟩ : ∃ X, w1.heap.size = X := ⟨_, rfl⟩
  rw [hX] at H3 hzW b0 b1 ⊢
  have hMX : C.M < X := by omega
  have hgX : g < X := by omega
  clear hW hbW hX H2 hS q0 q1 q2 q3 q4 q5 hgl hM3
  obtain ⟨_, _, _, _, _, _, _, _, ho⟩ := H1.out.opg HJ.out
  have c2 : W.cell? ⟨g, (n - 1) * 11 + 2, none⟩ = some (.int .i64 pb) := by rw [← HPB.out]; exact ho.fv.c2
  have fz2 := ho.fv.fz ((n - 1) * 11 + 2)
  have hgW := ho.fv.lt
  clear ho
  by_cases hoff : frOff f = true
  · cases rest with
    | nil =>
      have := RR.out.stk
      rw [hoff] at this
      exact absurd this (by simp [StackOk])
    | cons b r =>
      have hn2 : 2 ≤ n := by have := HN.out; rw [RR.out.fs] at this; simp at this; omega
      have hjb : s.fs.reverse[n - 2]? = some b := MS.get_snd RR.out.fs HN.out
      have FB := frW RR.out.hg RR.out.stk.1.1
      by_cases hmd : modeOf b = 2
      · have HF := Lib.hid (show stepF C.x C.ins C.most s = { s with fs := fGo f ((pb : Int) + 1) (fPile f ++ [valOf b]) :: fMode b (baseOf b) :: r } by rw [HE.out, HIE.out]; simp [stepI, HPB.out, hoff, hmd])
        have ib : I64 (baseOf b) := by have := FB.bs; unfold I64; omega
        go_wp2_with fail
        refine (implPlain6c C W g n c s f H1.out HJ.out N2 b hoff hn2 hn1 hnc hcm hjb (by omega) hmd (I64_of FB.vo) ib).mono ?_
        rintro e w5 ⟨rfl, h5⟩
        have hj2 : (s.put (n - 2) (fMode b (baseOf b))).fs.reverse[n - 1]? = some f := by
          rw [MS.put_rev, List.getElem?_set_ne (by omega)]; exact HJ.out
        have hj5 := MS.put_get (f := fGo f f.2.2.1 (fPile f ++ [valOf b])) hj2
        obtain ⟨_, _, _, _, _, _, _, _, ho⟩ := h5.opg hj5
        have c2 : w5.cell? ⟨g, (n - 1) * 11 + 2, none⟩ = some (.int .i64 pb) := by rw [← HPB.out]; exact ho.fv.c2
        have fz2 := ho.fv.fz ((n - 1) * 11 + 2)
        have hg5 := ho.fv.lt
        have h6 := h5.pAt hj5 (a := (pb : Int) + 1) (by unfold I64; omega)
        rw [MS.put_put, MS.put_snd RR.out.fs HN.out, MS.put_top (s := { s with fs := f :: fMode b (baseOf b) :: r }) rfl (by have := HN.out; rw [RR.out.fs] at this; simpa using this)] at h6
        have h7 : MM C _ _ { s with fs := fGo f ((pb : Int) + 1) (fPile f ++ [valOf b]) :: fMode b (baseOf b) :: r } := h6
        have H7 := Lib.hid h7
        clear ho h6 h7 h5
        go_wp2_with fail
        go_end0
        exact ⟨rfl, _, HF.out ▸ H7.out⟩
      · have HF := Lib.hid (show stepF C.x C.ins C.most s = { s with fs := fGo f ((pb : Int) + 1) (fPile f ++ [0]) :: b :: r } by rw [HE.out, HIE.out]; simp [stepI, HPB.out, hmd])
        go_wp2_with fail
        refine (implPlain6b C W g n c s f H1.out HJ.out N2 b hoff hn2 hn1 hnc hcm hjb (by omega) hmd).mono ?_
        rintro e w5 ⟨rfl, h5⟩
        have hj5 : (s.put (n - 1) (fGo f f.2.2.1 (fPile f ++ [0]))).fs.reverse[n - 1]? = some (fGo f f.2.2.1 (fPile f ++ [0])) := MS.put_get HJ.out
        obtain ⟨_, _, _, _, _, _, _, _, ho⟩ := h5.opg hj5
        have c2 : w5.cell? ⟨g, (n - 1) * 11 + 2, none⟩ = some (.int .i64 pb) := by rw [← HPB.out]; exact ho.fv.c2
        have fz2 := ho.fv.fz ((n - 1) * 11 + 2)
        have hg5 := ho.fv.lt
        have h6 := h5.pAt hj5 (a := (pb : Int) + 1) (by unfold I64; omega)
        rw [MS.put_put, MS.put_top RR.out.fs HN.out] at h6
        have h7 : MM C _ _ { s with fs := fGo f ((pb : Int) + 1) (fPile f ++ [0]) :: b :: r } := h6
        have H7 := Lib.hid h7
        clear ho h6 h7 h5
        go_wp2_with fail
        go_end0
        exact ⟨rfl, _, HF.out ▸ H7.out⟩
  · have HF := Lib.hid (show stepF C.x C.ins C.most s = { s with fs := fGo f ((pb : Int) + 1) (fPile f ++ [0]) :: rest } by rw [HE.out, HIE.out]; cases rest <;> simp [stepI, HPB.out, hoff])
    go_wp2_with fail
    refine (implPlain6a C W g n c s f H1.out HJ.out N2 (by simpa using hoff) (by omega)).mono ?_
    rintro e w5 ⟨rfl, h5⟩
    have hj5 : (s.put (n - 1) (fGo f f.2.2.1 (fPile f ++ [0]))).fs.reverse[n - 1]? = some (fGo f f.2.2.1 (fPile f ++ [0])) := MS.put_get HJ.out
    obtain ⟨_, _, _, _, _, _, _, _, ho⟩ := h5.opg hj5
    have c2 : w5.cell? ⟨g, (n - 1) * 11 + 2, none⟩ = some (.int .i64 pb) := by rw [← HPB.out]; exact ho.fv.c2
    have fz2 := ho.fv.fz ((n - 1) * 11 + 2)
    have hg5 := ho.fv.lt
    have h6 := h5.pAt hj5 (a := (pb : Int) + 1) (by unfold I64; omega)
    rw [MS.put_put, MS.put_top RR.out.fs HN.out] at h6
    have h7 : MM C _ _ { s with fs := fGo f ((pb : Int) + 1) (fPile f ++ [0]) :: rest } := h6
    have H7 := Lib.hid h7
    clear ho h6 h7 h5
    go_wp2_with fail
    go_end0
    exact ⟨rfl, _, HF.out ▸ H7.out⟩
set_option maxHeartbeats 4000000 in
theorem implStep11 (C : Cfg) (w : World) (vf : Value) (s : MS) (f : Frame) (rest : List Frame) (N : Nat) (h : MM C w vf s) (R : Rdy C.x C.ins C.most N s f rest) (hK : (fIns C.x f).1 = 11) :
    Calls Tryz.prog 28 #[.pointer (some ⟨C.M, 0, none⟩)] w (RetN C (stepF C.x C.ins C.most s) w) := by
  obtain ⟨g, n, c, rfl, hn, h0, hnc, hcm, hj⟩ := h.opens R.fs
  have hn1 : n ≤ 1000000 := by have := R.ok.many; omega
  have FW := Lib.hid R.fw
  have HIW := Lib.hid R.insW
  have hpl := R.pile
  have HE := Lib.hid (show stepF C.x C.ins C.most s = stepI C.x C.ins C.most s f rest (fIns C.x f) by unfold stepF; rw [R.fs])
  obtain ⟨N2, hN2⟩ : ∃ N2, (fIns C.x f).2 = N2 := ⟨_, rfl⟩
  have i2 : I64 N2 := hN2 ▸ ins64 R.insW.1
  obtain ⟨fb, hfb⟩ := Int.eq_ofNat_of_zero_le FW.out.fn.1
  obtain ⟨pb, hpb⟩ := Int.eq_ofNat_of_zero_le FW.out.at_.1
  have hfbx : fb < C.x.length := by have := FW.out.fn.2; omega
  have hcd : fCode C.x f = codeD C.x (fb : Int) := by unfold fCode; rw [hfb]
  have hpbx : pb < (codeD C.x (fb : Int)).2.2.2.1.length := by have := FW.out.at_.2; rw [hcd, hpb] at this; omega
  have l5 : pb ≤ 1000000 := by have := FW.out.il; have := FW.out.at_.2; omega
  have l6 : fb ≤ 1000000 := by have := FW.out.xl; omega
  have hIe : fIns C.x f = (11, N2) := by rw [← hK, ← hN2]
  have HIE := Lib.hid hIe
  have HN := Lib.hid hn
  have HJ := Lib.hid hj
  have RR := Lib.hid R
  have HH := Lib.hid h
  clear hn hj R h
  go_enter Tryz.func28, Tryz.ntmps28
  go_wp2_with fail
  refine (implTop C _ g n c s HH.out h0 hn1 hnc hcm).mono ?_
  rintro e w1 ⟨rfl, k1, hw1⟩
  have h2 : MM C w1 (.slice (some ⟨g, 0, none⟩) n c) s := by rw [hw1]; exact HH.out.drewN k1
  clear hw1
  obtain ⟨bc, oc, bi, oi, k3, d3, eA, hnx, hk3, hbc, hbi, u3, u5, u6, _, _⟩ := h2.insCells hfbx hpbx
  have hop : insAt (codeD C.x (fb : Int)).2.2.2.1 (pb : Int) = fIns C.x f := by unfold fIns; rw [hcd, hpb]
  rw [hop, hIe] at u5 u6
  obtain ⟨_, _, mv⟩ := h2.mv
  have m0 := mv.m0
  rw [eA] at m0
  obtain ⟨_, _, _, _, _, _, _, _, ho⟩ := h2.opg HJ.out
  have c1 := ho.fv.c1
  have c2 := ho.fv.c2
  rw [hfb] at c1
  rw [hpb] at c2
  have hgl := ho.fv.lt
  have hM3 := mv.lt
  have hgM := ho.fv.gM
  obtain ⟨_, _, hBw⟩ := h2.xs
  have l1 : fb < C.nx := by omega
  have l2 : (fb : Int) < (C.nx : Int) := by omega
  have l3 : pb < k3 := by omega
  have l4 : (pb : Int) < (k3 : Int) := by omega
  have hS := Lib.hid (show ∀ V', Below w1.heap.size w1 V' → V'.cell? ⟨C.M, 0, none⟩ = some (.slice (some ⟨bc, oc, none⟩) C.nx C.cx) ∧ V'.cell? ⟨g, (n - 1) * 11 + 1, none⟩ = some (.int .i64 fb) ∧ V'.cell? ⟨g, (n - 1) * 11 + 2, none⟩ = some (.int .i64 pb) ∧ V'.cell? ⟨bc, oc + fb * 5 + 3, none⟩ = some (.slice (some ⟨bi, oi, none⟩) k3 d3) ∧ V'.cell? ⟨bi, oi + pb * 2, none⟩ = some (.int .i64 11) ∧ V'.cell? ⟨bi, oi + pb * 2 + 1, none⟩ = some (.int .i64 N2) from fun V' hV => ⟨below_cell hV m0, below_cell hV c1, below_cell hV c2, below_cell hV u3, below_cell hV u5, below_cell hV u6⟩)
  have HPB := Lib.hid hpb
  have H2 := Lib.hid h2
  clear mv ho h2 hk3 hnx hcd hpb hfb hop eA hIe hK hN2 m0 c1 c2 u3 u5 u6
  go_upto_region 1 with fail
  obtain ⟨q0, q1, q2, q3, q4, q5⟩ := hS.out w1 (Below.refl _ _)
  go_region_held3 (fun V' => V'.cell? ⟨C.M, 0, none⟩ = some (.slice (some ⟨bc, oc, none⟩) C.nx C.cx) ∧ V'.cell? ⟨g, (n - 1) * 11 + 1, none⟩ = some (.int .i64 fb) ∧ V'.cell? ⟨g, (n - 1) * 11 + 2, none⟩ = some (.int .i64 pb) ∧ V'.cell? ⟨bc, oc + fb * 5 + 3, none⟩ = some (.slice (some ⟨bi, oi, none⟩) k3 d3) ∧ V'.cell? ⟨bi, oi + pb * 2, none⟩ = some (.int .i64 11) ∧ V'.cell? ⟨bi, oi + pb * 2 + 1, none⟩ = some (.int .i64 N2)) (exact hS.out _ (show Below w1.heap.size w1 _ by exact beloA)) (fail)
  obtain ⟨W, hW⟩ : ∃ W, W = (w1.alloc (.cells #[.int .i64 11, .int .i64 N2] 84)).drew := ⟨_, rfl⟩
  have hbW : Below w1.heap.size w1 W := by rw [hW]; exact belA
  have hzW : W.heap.size = w1.heap.size + 1 := by rw [hW]; simp
  have b0 : W.cell? ⟨w1.heap.size, 0, none⟩ = some (.int .i64 11) := by rw [hW]; simp [go_sem]
  have b1 : W.cell? ⟨w1.heap.size, 1, none⟩ = some (.int .i64 N2) := by rw [hW]; simp [go_sem]
  have H3 := Lib.hid (H2.out.apart hbW (Fx := [w1.heap.size]) (fun k hk => by rw [List.mem_singleton.1 hk]; omega))
  have H1 := Lib.hid H3.out.less
  rw [← hW]
  obtain ⟨X, hX⟩ : ∃ X, w1.heap.size = X := ⟨_, rfl⟩
  rw [hX] at H3 hzW b0 b1 ⊢
  have hMX : C.M < X := by omega
  have hgX : g < X := by omega
  clear hW hbW hX H2 hS q0 q1 q2 q3 q4 q5 hgl hM3
  obtain ⟨_, _, _, _, _, _, _, _, ho⟩ := H1.out.opg HJ.out
  have c2 : W.cell? ⟨g, (n - 1) * 11 + 2, none⟩ = some (.int .i64 pb) := by rw [← HPB.out]; exact ho.fv.c2
  have fz2 := ho.fv.fz ((n - 1) * 11 + 2)
  have hgW := ho.fv.lt
  clear ho
  have hp0 : 0 < (fPile f).length := by have := HIW.out.2.1; rw [HIE.out, tk1 (by simp)] at this; omega
  have hsl := small_lastN FW.out.ps
  have hl64 := I64_of hsl
  by_cases hz : lastN (fPile f) = 0
  · have HF := Lib.hid (show stepF C.x C.ins C.most s = { s with fs := fGo f N2 (fPile f).dropLast :: rest } by rw [HE.out, HIE.out]; simp [stepI, HPB.out, hz])
    go_wp2_with fail
    refine (implPop C W g n c s (n - 1) f H1.out HJ.out hp0 (by omega)).mono ?_
    rintro e w5 ⟨rfl, k4, v4, hw4, h5⟩
    have hfr : Fr [g] W w5 := by rw [hw4]; exact frcA
    have b1' := cell_fr1 hfr (by simp; omega) b1
    have hX5 : X < w5.heap.size := by have := hfr.size; omega
    have hj5 := MS.put_get (f := fGo f f.2.2.1 (fPile f).dropLast) HJ.out
    obtain ⟨_, _, _, _, _, _, _, _, ho⟩ := h5.opg hj5
    have c2 : w5.cell? ⟨g, (n - 1) * 11 + 2, none⟩ = some (.int .i64 pb) := by rw [← HPB.out]; exact ho.fv.c2
    have fz2 := ho.fv.fz ((n - 1) * 11 + 2)
    have hg5 := ho.fv.lt
    have h6 := h5.pAt hj5 i2
    rw [MS.put_put, MS.put_top RR.out.fs HN.out] at h6
    have h7 : MM C _ _ { s with fs := fGo f N2 (fPile f).dropLast :: rest } := h6
    have H7 := Lib.hid h7
    clear ho h6 h7 h5 hw4 hfr b0 b1
    rw [hz]
    go_wp2_with fail
    go_end0
    exact ⟨rfl, _, HF.out ▸ H7.out⟩
  · have HF := Lib.hid (show stepF C.x C.ins C.most s = { s with fs := fGo f ((pb : Int) + 1) (fPile f).dropLast :: rest } by rw [HE.out, HIE.out]; simp [stepI, HPB.out, hz])
    go_wp2_with fail
    refine (implPop C W g n c s (n - 1) f H1.out HJ.out hp0 (by omega)).mono ?_
    rintro e w5 ⟨rfl, k4, v4, hw4, h5⟩
    clear hw4
    have hj5 := MS.put_get (f := fGo f f.2.2.1 (fPile f).dropLast) HJ.out
    obtain ⟨_, _, _, _, _, _, _, _, ho⟩ := h5.opg hj5
    have c2 : w5.cell? ⟨g, (n - 1) * 11 + 2, none⟩ = some (.int .i64 pb) := by rw [← HPB.out]; exact ho.fv.c2
    have fz2 := ho.fv.fz ((n - 1) * 11 + 2)
    have hg5 := ho.fv.lt
    have h6 := h5.pAt hj5 (a := (pb : Int) + 1) (by unfold I64; omega)
    rw [MS.put_put, MS.put_top RR.out.fs HN.out] at h6
    have h7 : MM C _ _ { s with fs := fGo f ((pb : Int) + 1) (fPile f).dropLast :: rest } := h6
    have H7 := Lib.hid h7
    clear ho h6 h7 h5
    go_wp2_with fail
    go_end0
    exact ⟨rfl, _, HF.out ▸ H7.out⟩
set_option maxHeartbeats 4000000 in
theorem implStep16 (C : Cfg) (w : World) (vf : Value) (s : MS) (f : Frame) (rest : List Frame) (N : Nat) (h : MM C w vf s) (R : Rdy C.x C.ins C.most N s f rest) (hK : (fIns C.x f).1 = 16) :
    Calls Tryz.prog 28 #[.pointer (some ⟨C.M, 0, none⟩)] w (RetN C (stepF C.x C.ins C.most s) w) := by
  obtain ⟨g, n, c, rfl, hn, h0, hnc, hcm, hj⟩ := h.opens R.fs
  have hn1 : n ≤ 1000000 := by have := R.ok.many; omega
  have FW := Lib.hid R.fw
  have HIW := Lib.hid R.insW
  have hpl := R.pile
  have HE := Lib.hid (show stepF C.x C.ins C.most s = stepI C.x C.ins C.most s f rest (fIns C.x f) by unfold stepF; rw [R.fs])
  obtain ⟨N2, hN2⟩ : ∃ N2, (fIns C.x f).2 = N2 := ⟨_, rfl⟩
  have i2 : I64 N2 := hN2 ▸ ins64 R.insW.1
  obtain ⟨fb, hfb⟩ := Int.eq_ofNat_of_zero_le FW.out.fn.1
  obtain ⟨pb, hpb⟩ := Int.eq_ofNat_of_zero_le FW.out.at_.1
  have hfbx : fb < C.x.length := by have := FW.out.fn.2; omega
  have hcd : fCode C.x f = codeD C.x (fb : Int) := by unfold fCode; rw [hfb]
  have hpbx : pb < (codeD C.x (fb : Int)).2.2.2.1.length := by have := FW.out.at_.2; rw [hcd, hpb] at this; omega
  have l5 : pb ≤ 1000000 := by have := FW.out.il; have := FW.out.at_.2; omega
  have l6 : fb ≤ 1000000 := by have := FW.out.xl; omega
  have hIe : fIns C.x f = (16, N2) := by rw [← hK, ← hN2]
  have HIE := Lib.hid hIe
  have HN := Lib.hid hn
  have HJ := Lib.hid hj
  have RR := Lib.hid R
  have HH := Lib.hid h
  clear hn hj R h
  go_enter Tryz.func28, Tryz.ntmps28
  go_wp2_with fail
  refine (implTop C _ g n c s HH.out h0 hn1 hnc hcm).mono ?_
  rintro e w1 ⟨rfl, k1, hw1⟩
  have h2 : MM C w1 (.slice (some ⟨g, 0, none⟩) n c) s := by rw [hw1]; exact HH.out.drewN k1
  clear hw1
  obtain ⟨bc, oc, bi, oi, k3, d3, eA, hnx, hk3, hbc, hbi, u3, u5, u6, _, _⟩ := h2.insCells hfbx hpbx
  have hop : insAt (codeD C.x (fb : Int)).2.2.2.1 (pb : Int) = fIns C.x f := by unfold fIns; rw [hcd, hpb]
  rw [hop, hIe] at u5 u6
  obtain ⟨_, _, mv⟩ := h2.mv
  have m0 := mv.m0
  rw [eA] at m0
  obtain ⟨_, _, _, _, _, _, _, _, ho⟩ := h2.opg HJ.out
  have c1 := ho.fv.c1
  have c2 := ho.fv.c2
  rw [hfb] at c1
  rw [hpb] at c2
  have hgl := ho.fv.lt
  have hM3 := mv.lt
  have hgM := ho.fv.gM
  obtain ⟨_, _, hBw⟩ := h2.xs
  have l1 : fb < C.nx := by omega
  have l2 : (fb : Int) < (C.nx : Int) := by omega
  have l3 : pb < k3 := by omega
  have l4 : (pb : Int) < (k3 : Int) := by omega
  have hS := Lib.hid (show ∀ V', Below w1.heap.size w1 V' → V'.cell? ⟨C.M, 0, none⟩ = some (.slice (some ⟨bc, oc, none⟩) C.nx C.cx) ∧ V'.cell? ⟨g, (n - 1) * 11 + 1, none⟩ = some (.int .i64 fb) ∧ V'.cell? ⟨g, (n - 1) * 11 + 2, none⟩ = some (.int .i64 pb) ∧ V'.cell? ⟨bc, oc + fb * 5 + 3, none⟩ = some (.slice (some ⟨bi, oi, none⟩) k3 d3) ∧ V'.cell? ⟨bi, oi + pb * 2, none⟩ = some (.int .i64 16) ∧ V'.cell? ⟨bi, oi + pb * 2 + 1, none⟩ = some (.int .i64 N2) from fun V' hV => ⟨below_cell hV m0, below_cell hV c1, below_cell hV c2, below_cell hV u3, below_cell hV u5, below_cell hV u6⟩)
  have HPB := Lib.hid hpb
  have H2 := Lib.hid h2
  clear mv ho h2 hk3 hnx hcd hpb hfb hop eA hIe hK hN2 m0 c1 c2 u3 u5 u6
  go_upto_region 1 with fail
  obtain ⟨q0, q1, q2, q3, q4, q5⟩ := hS.out w1 (Below.refl _ _)
  go_region_held3 (fun V' => V'.cell? ⟨C.M, 0, none⟩ = some (.slice (some ⟨bc, oc, none⟩) C.nx C.cx) ∧ V'.cell? ⟨g, (n - 1) * 11 + 1, none⟩ = some (.int .i64 fb) ∧ V'.cell? ⟨g, (n - 1) * 11 + 2, none⟩ = some (.int .i64 pb) ∧ V'.cell? ⟨bc, oc + fb * 5 + 3, none⟩ = some (.slice (some ⟨bi, oi, none⟩) k3 d3) ∧ V'.cell? ⟨bi, oi + pb * 2, none⟩ = some (.int .i64 16) ∧ V'.cell? ⟨bi, oi + pb * 2 + 1, none⟩ = some (.int .i64 N2)) (exact hS.out _ (show Below w1.heap.size w1 _ by exact beloA)) (fail)
  obtain ⟨W, hW⟩ : ∃ W, W = (w1.alloc (.cells #[.int .i64 16, .int .i64 N2] 84)).drew := ⟨_, rfl⟩
  have hbW : Below w1.heap.size w1 W := by rw [hW]; exact belA
  have hzW : W.heap.size = w1.heap.size + 1 := by rw [hW]; simp
  have b0 : W.cell? ⟨w1.heap.size, 0, none⟩ = some (.int .i64 16) := by rw [hW]; simp [go_sem]
  have b1 : W.cell? ⟨w1.heap.size, 1, none⟩ = some (.int .i64 N2) := by rw [hW]; simp [go_sem]
  have H3 := Lib.hid (H2.out.apart hbW (Fx := [w1.heap.size]) (fun k hk => by rw [List.mem_singleton.1 hk]; omega))
  have H1 := Lib.hid H3.out.less
  rw [← hW]
  obtain ⟨X, hX⟩ : ∃ X, w1.heap.size = X := ⟨_, rfl⟩
  rw [hX] at H3 hzW b0 b1 ⊢
  have hMX : C.M < X := by omega
  have hgX : g < X := by omega
  clear hW hbW hX H2 hS q0 q1 q2 q3 q4 q5 hgl hM3
  obtain ⟨_, _, _, _, _, _, _, _, ho⟩ := H1.out.opg HJ.out
  have c2 : W.cell? ⟨g, (n - 1) * 11 + 2, none⟩ = some (.int .i64 pb) := by rw [← HPB.out]; exact ho.fv.c2
  have fz2 := ho.fv.fz ((n - 1) * 11 + 2)
  have hgW := ho.fv.lt
  clear ho
  have hpd := padW RR.out.hg RR.out.top.1 (top_ge RR.out.top) (by rw [HIE.out]; rfl)
  have HF := Lib.hid (show stepF C.x C.ins C.most s = { s with fs := fMode (fGo f (padFr C.x f) (fPile f)) 1 :: rest } by rw [HE.out, HIE.out]; simp [stepI])
  obtain ⟨_, _, _, _, _, _, _, _, ho⟩ := H1.out.opg HJ.out
  have c7 := ho.fv.c7
  have fz7 := ho.fv.fz ((n - 1) * 11 + 7)
  have h4 := H1.out.pMode HJ.out (a := 1) (by unfold I64; omega)
  have hj4 := MS.put_get (f := fMode f 1) HJ.out
  have H4 := Lib.hid h4
  clear ho h4
  go_wp2_with fail
  refine (show Calls _ _ _ _ (RetIx (padFr C.x f) _) from implPadAt C _ g n c _ (n - 1) (fMode f 1) H4.out hj4 FW.out.fn hpd.1 (by have := FW.out.xl; omega) (show (fCode C.x f).2.2.2.2.length ≤ 1048576 by have := FW.out.rl; omega)).mono ?_
  rintro e w5 ⟨rfl, hb5⟩
  have h5 := H4.out.keep hb5
  obtain ⟨_, _, _, _, _, _, _, _, ho⟩ := h5.opg hj4
  have c2' := ho.fv.c2
  have fz2' := ho.fv.fz ((n - 1) * 11 + 2)
  have hg5 := ho.fv.lt
  have h6 := h5.pAt hj4 hpd.2
  rw [MS.put_put, MS.put_top RR.out.fs HN.out] at h6
  have h7 : MM C _ _ { s with fs := fMode (fGo f (padFr C.x f) (fPile f)) 1 :: rest } := h6
  have H7 := Lib.hid h7
  clear ho h6 h7 h5 hb5 c2 fz2 c7 fz7 hgW
  go_wp2_with fail
  go_end0
  exact ⟨rfl, _, HF.out ▸ H7.out⟩
end Go.Proofs.YtgdeclmciflmpaaGreat
