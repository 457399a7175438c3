/- Several texts in one: StepS1, StepS2, StepS3, StepS4. -/
import Derived.Test.YtgdeclmciflmpaaGreatStA
import Derived.Deep.RegionHeld3
import Derived.Deep.QuietTactic
import Derived.BigQuiet
import Derived.Test.YtgdeclmciflmpaaGreatStC

/- The machine's short methods, the reference's side: walks. -/
set_option linter.unusedVariables false
set_option linter.unusedSimpArgs false
set_option maxRecDepth 100000
namespace Go.Proofs.YtgdeclmciflmpaaGreat
open Go.RowKit
attribute [local irreducible] wpList
theorem specTop (C : Cfg) (w : World) (g n c : Nat) (s : MS) (h : MM C w (.slice (some ⟨g, 0, none⟩) n c) s) (h0 : 0 < n) (h1 : n ≤ 1000000) (hnc : n ≤ c) (hcm : c ≤ 9223372036854775807) :
    Calls Tryz.prog 68 #[.pointer (some ⟨C.M, 0, none⟩)] w (RetQ (.pointer (some ⟨g, (n - 1) * 11, none⟩)) w) := by
  obtain ⟨vt, vn, hv⟩ := h.mv
  have c3 := hv.m3
  have hM := hv.lt
  have e1 : ((n : Int) - 1) = ((n - 1 : Nat) : Int) := by omega
  have e2 : n - 1 < n := by omega
  go_enter Tryz.func68, Tryz.ntmps68
  go_wp2_with fail
  go_quiet (fail)
  go_wp2_with fail
  go_ret
  exact ⟨rfl, _, rfl⟩
theorem specPop (C : Cfg) (w : World) (g n c : Nat) (s : MS) (f : Frame) (h : MM C w (.slice (some ⟨g, 0, none⟩) n c) s) (hj : s.fs.reverse[n - 1]? = some f) (hn0 : 0 < n) (hn1 : n ≤ 1000000) (hnc : n ≤ c) (hcm : c ≤ 9223372036854775807) (h0 : 0 < (fPile f).length) (h1 : (fPile f).length ≤ 1000000) :
    Calls Tryz.prog 72 #[.pointer (some ⟨C.M, 0, none⟩)] w (RetPop C g n c s (n - 1) f w) := by
  go_enter Tryz.func72, Tryz.ntmps72
  go_wp2_with fail
  refine (specTop C w g n c s h hn0 hn1 hnc hcm).mono ?_
  rintro e w1 ⟨rfl, k1, rfl⟩
  have h2 := h.drewN k1
  obtain ⟨v3, v4, v5, F3, F4, F5, pre, post, ho⟩ := h2.opg hj
  obtain ⟨A3, n3, c3, rfl, hl⟩ := ho.o3.form
  have hv := ho.fv
  have r3 := hv.c3
  have fz := hv.fz ((n - 1) * 11 + 3)
  have hg := hv.lt
  have hsl := ho.o3.sl
  obtain ⟨b, o, rfl, q1, q2, hc1, hi1⟩ := hsl.int_at (k := n3 - 1) (by omega)
  obtain ⟨_, hx, hb, _⟩ := ho.o3.row'
  obtain ⟨_, ⟨h0', _⟩ | ⟨g3, e3, q3, q4⟩⟩ := ownsRow_cases hx
  · cases h0'
  simp only [Option.some.injEq, Addr.mk.injEq, and_true] at e3
  obtain ⟨rfl, rfl⟩ := e3
  have e1 : ((n3 : Int) - 1) = ((n3 - 1 : Nat) : Int) := by omega
  have e2 : n3 - 1 < n3 := by omega
  rw [lastN_at (by omega) (by omega)] at hc1
  have hM := Lib.hid h2
  have hL := Lib.hid hl
  have h00 : 0 < n3 := by omega
  have h11 : n3 ≤ 1000000 := by omega
  rw [Nat.zero_add] at hc1
  clear hi1 hv hsl hx hb ho h h2 h0 h1
  clear hl
  go_wp2_with fail
  go_ret
  refine ⟨rfl, k1, .slice (some ⟨b, 0, none⟩) (n3 - 1) c3, rfl, ?_⟩
  have hl := hL.out
  exact hM.out.setCut hj r3 (m := n3 - 1) (by omega) (by rw [List.reverse_reverse, List.dropLast_eq_take, hl])
theorem specPush (C : Cfg) (w : World) (g n c : Nat) (s : MS) (f : Frame) (a : Int) (ha : I64 a) (h : MM C w (.slice (some ⟨g, 0, none⟩) n c) s) (hj : s.fs.reverse[n - 1]? = some f) (hn0 : 0 < n) (hn1 : n ≤ 1000000) (hnc : n ≤ c) (hcm : c ≤ 9223372036854775807) (h1 : (fPile f).length ≤ 1000000) :
    Calls Tryz.prog 95 #[.pointer (some ⟨C.M, 0, none⟩), .int .i64 a] w (RetPush C g n c s (n - 1) f a w) := by
  obtain ⟨inf, hif, hz0, hz1, hz2⟩ := info_parts Tryz.infoInt
  go_enter Tryz.func95, Tryz.ntmps95
  go_wp2_with fail
  refine (specTop C w g n c s h hn0 hn1 hnc hcm).mono ?_
  rintro e w1 ⟨rfl, k1, rfl⟩
  go_wp2_with fail
  refine (specTop C _ g n c s (h.drewN k1) hn0 hn1 hnc hcm).mono ?_
  rintro e w1 ⟨rfl, k2, rfl⟩
  obtain ⟨W, hW⟩ : ∃ W, W = (w.drewN k1).drewN k2 := ⟨_, rfl⟩
  have h2 : MM C W (.slice (some ⟨g, 0, none⟩) n c) s := hW ▸ (h.drewN k1).drewN k2
  rw [← hW]
  clear h hW
  obtain ⟨v3, v4, v5, F3, F4, F5, pre, post, ho⟩ := h2.opg hj
  have hv := ho.fv
  have fz := hv.fz ((n - 1) * 11 + 3)
  have hg := hv.lt
  clear hv ho
  have hA : MM C (W.alloc (.cells #[.int .i64 a] 3)) (.slice (some ⟨g, 0, none⟩) n c) s := h2.keep (Below.alloc (Below.refl _ _) (Nat.le_refl _) _)
  obtain ⟨v3', xs, r3', hx, hng, put⟩ := hA.pushed hj
  have r3 : W.cell? ⟨g, (n - 1) * 11 + 3, none⟩ = some v3' := by rw [← r3']; exact (World.cell?_of_block (a := ⟨g, (n - 1) * 11 + 3, none⟩) (alloc_lt hg)).symm
  have HX := Lib.hid hx
  have PUT := Lib.hid put
  clear hx put h2 hA r3'
  go_wp2_with (at_builtin; refine wpList_append_own_at _ rfl _ _ 25 rfl 0 3 inf (.int .i64 0) 1 8 Tryz.underlying25 hif hz0 hz1 hz2 rfl (by decide) v3' (fPile f).length xs rfl HX.out ⟨W.heap.size, 0, none⟩ 1 1 [.int .i64 a] rfl rfl (cell_new1 _ _ _ rfl) (by simp [Value.oneCell']) (by unfold maxLen; omega) (by omega) (Nat.zero_le _) ?_)
  intro v' wk hown hgr hnil hblk
  have hbk : wk.heap[g]? = W.heap[g]? := by
    rw [hgr.block g (by simp; omega) (fun e => hng e.symm)]; exact alloc_lt hg
  have hgk : g < wk.heap.size := Nat.lt_of_lt_of_le hg (Nat.le_trans (by simp) hgr.size)
  have r3k : wk.cell? ⟨g, (n - 1) * 11 + 3, none⟩ = some v3' := by rw [World.cell?_of_block (a := ⟨g, (n - 1) * 11 + 3, none⟩) hbk]; exact r3
  have fzk : wk.frozen? ⟨g, (n - 1) * 11 + 3, none⟩ = false := by rw [World.frozen?_of_block (a := ⟨g, (n - 1) * 11 + 3, none⟩) hbk]; exact fz
  obtain ⟨Av, nv, cv, rfl⟩ := slice_form hown
  have HO := Lib.hid hown
  have HG := Lib.hid hgr
  have HB := Lib.hid hblk
  clear hown hgr hblk hnil hbk
  go_wp2_with fail
  go_end0
  exact ⟨rfl, PUT.out a wk _ _ ha HO.out HG.out (by have := HB.out; rwa [size_alloc]) (s.put_rev ..)⟩
set_option maxHeartbeats 4000000 in
theorem specPad (C : Cfg) (w : World) (g n c : Nat) (s : MS) (f : Frame) (h : MM C w (.slice (some ⟨g, 0, none⟩) n c) s) (hj : s.fs.reverse[n - 1]? = some f) (hn0 : 0 < n) (hn1 : n ≤ 1000000) (hnc : n ≤ c) (hcm : c ≤ 9223372036854775807) (hfn : 0 ≤ f.2.1 ∧ f.2.1 < (C.x.length : Int))
    (hr : ∃ r, r < (fCode C.x f).2.2.2.2.length ∧ idxW (inRow f.2.2.1) (fCode C.x f).2.2.2.2 = (r : Int)) (hr0 : ∀ r, r ∈ (fCode C.x f).2.2.2.2 → 0 ≤ r.2.1) (hz : C.x.length ≤ 1048576) (hz2 : (fCode C.x f).2.2.2.2.length ≤ 1048576) :
    Calls Tryz.prog 74 #[.pointer (some ⟨C.M, 0, none⟩)] w (RetIx (padFr C.x f) w) := by
  obtain ⟨v3, v4, v5, F3, F4, F5, pre, post, ho⟩ := h.opg hj
  have fv := ho.fv
  have c1 := fv.c1
  have c2 := fv.c2
  have hg := fv.lt
  obtain ⟨vt, vn, mv⟩ := h.mv
  have m0 := mv.m0
  have hM := mv.lt
  obtain ⟨hx, _, hB⟩ := h.xs
  have hxl := hx.lenEq
  obtain ⟨fn, e⟩ := Int.eq_ofNat_of_zero_le hfn.1
  have hfx : fn < C.x.length := by omega
  have hfn' : fn < C.nx := by omega
  have hfI : (fn : Int) < (C.nx : Int) := by omega
  obtain ⟨bc, oc, z0, z1, D2, k2, d2, t2, D3, k3, d3, t3, D4, k4, d4, t4, eA, _, hbb, hlc, _, _, kS2, kS3, kS4, u0, u1, u2, u3, u4⟩ := Code_at hx hfn'
  have ec : fCode C.x f = (z0, z1, t2, t3, t4) := by unfold fCode; rw [e, codeD_at hfx, hlc]
  rw [eA] at m0
  rw [e] at c1
  obtain ⟨r, hrl, hri⟩ := hr
  rw [ec] at hrl hri hz2 hr0
  simp only at hrl hri hz2 hr0
  have L4 := kS4.lenEq
  have hrm : r < k4 := by omega
  have hrI : (r : Int) < (k4 : Int) := by omega
  have HP := Lib.hid (show padFr C.x f = padOf t4 (r : Int) by unfold padFr; rw [ec]; simp only; rw [hri])
  have hbw : bc < w.heap.size := by omega
  have kW := kS4.keep (lo' := 0) (hi' := w.heap.size) (w' := w) (Nat.le_refl _) (by omega) (fun _ _ _ => rfl)
  obtain ⟨b4, o4, a0, a1, a2, eD, _, hb4l, hl4, _, _, ia2, d0, d1, dd2⟩ := Row_at kW hrm
  have hpv : padOf t4 (r : Int) = a2 := by unfold padOf; rw [show ((r : Int)).toNat = r from rfl]; simp [List.getD, hrl, hl4]
  replace HP := Lib.hid (HP.out.trans hpv)
  subst eD
  have hS := Lib.hid (show ∀ V', Below w.heap.size w V' → V'.cell? ⟨C.M, 0, none⟩ = some (.slice (some ⟨bc, oc, none⟩) C.nx C.cx) ∧ V'.cell? ⟨g, (n - 1) * 11 + 1, none⟩ = some (.int .i64 fn) ∧ V'.cell? ⟨bc, oc + fn * 5 + 4, none⟩ = some (.slice (some ⟨b4, o4, none⟩) k4 d4) from fun V' hV => ⟨below_cell hV m0, below_cell hV c1, below_cell hV u4⟩)
  have hS2 := Lib.hid (show ∀ V', Below w.heap.size w V' → V'.cell? ⟨g, (n - 1) * 11 + 2, none⟩ = some (.int .i64 f.2.2.1) ∧ V'.cell? ⟨b4, o4 + r * 3 + 2, none⟩ = some (.int .i64 a2) from fun V' hV => ⟨below_cell hV c2, below_cell hV dd2⟩)
  have HRI := Lib.hid hri
  have HR0 := Lib.hid hr0
  have HH := Lib.hid h
  clear hri hr0 ec e hlc hxl L4 fv ho mv hx h u0 u1 u2 u3 u4 d0 d1 dd2 hpv hl4 m0 c1 c2
  go_enter Tryz.func74, Tryz.ntmps74
  go_wp2_with fail
  obtain ⟨q0, q1, q2⟩ := hS.out w (Below.refl _ _)
  go_region_held3 (fun V' => V'.cell? ⟨C.M, 0, none⟩ = some (.slice (some ⟨bc, oc, none⟩) C.nx C.cx) ∧ V'.cell? ⟨g, (n - 1) * 11 + 1, none⟩ = some (.int .i64 fn) ∧ V'.cell? ⟨bc, oc + fn * 5 + 4, none⟩ = some (.slice (some ⟨b4, o4, none⟩) k4 d4)) (exact hS.out _ (show Below w.heap.size w _ by exact beloA))
    (first | (go_at_call 68; ((with_reducible refine (specTop C _ g n c s (HH.out.keep (show Below w.heap.size w _ by exact beloA)) hn0 hn1 hnc hcm).mono ?_); rintro e w5 ⟨rfl, k1, rfl⟩)))
  clear q0 q1 q2
  obtain ⟨W, hW⟩ : ∃ W, W = w.drewN (1 + k1) := ⟨_, rfl⟩
  have hbW : Below w.heap.size w W := by rw [hW]; exact belA
  rw [← hW]
  clear hW
  have hzW := hbW.size
  have h2 := HH.out.keep hbW
  have kW2 := kW.below hbW (Nat.le_refl _)
  go_wp2_with fail
  refine (specTop C _ g n c s h2 hn0 hn1 hnc hcm).mono ?_
  rintro e w1 ⟨rfl, k2, rfl⟩
  obtain ⟨q0, q1⟩ := hS2.out (W.drewN k2) (by exact beloA)
  go_wp2_with fail
  refine (specL5RowAt _ 0 w.heap.size (some ⟨b4, o4, none⟩) k4 d4 t4 f.2.2.1 (kW2.below (show Below W.heap.size W _ by exact beloA) (by omega)) (by first | omega | (simp; done) | (simp; omega)) HR0.out).mono ?_
  rintro e w5 ⟨rfl, hb5⟩
  rw [HRI.out]
  have bb : Below W.heap.size W w5 := by exact beloA
  have z5 := bb.size
  obtain ⟨q0, q1⟩ := hS2.out w5 (by exact beloA)
  go_wp2_with fail
  go_ret
  exact ⟨by rw [HP.out]; rfl, below_tr hbW (bb.mono hzW)⟩
end Go.Proofs.YtgdeclmciflmpaaGreat

/- The reference's machine: note, raise, input, recover, reckon. Walks. Printed by steps2gen.py. -/
set_option linter.unusedVariables false
set_option linter.unusedSimpArgs false
set_option maxRecDepth 100000
namespace Go.Proofs.YtgdeclmciflmpaaGreat
open Go.RowKit
attribute [local irreducible] wpList
/-- A note more on a row: a step of a drawn region. -/
theorem step_note1 {ops : Array Oper} {o : Oper} {a : Act} {w : World} {K : Act → World → Prop} {Q : Exit → Act → World → Prop} {E : Prop} (hgd : o.guard = none) (s x : Operand)
    (ho : o.op = .call { callee := .builtin .append, args := #[s, x], argTypes := #[28, 28] })
    (vf : Value) (n : Nat) (xs : List Value) (hs : a.eval s = vf) (hown : w.ownsRow 0 97 3 vf n xs) (X : Nat) (b0 b1 b2 : Int) (t : TypeId) (hx : a.eval x = .slice (some ⟨X, 0, none⟩) 1 1) (hX : w.heap[X]? = some (.cells #[.int .i64 b0, .int .i64 b1, .int .i64 b2] t)) (hn : n ≤ 4000000)
    (h : ∀ Av nv cv wk, Hid (wk.ownsRow 0 97 3 (.slice Av nv cv) (n + 1) (xs ++ [.int .i64 b0, .int .i64 b1, .int .i64 b2])) → Hid (w.grownBy wk vf.ownBlock) → Hid ((Value.slice Av nv cv).ownBlock = vf.ownBlock ∨ (Value.slice Av nv cv).ownBlock = some w.heap.size) → K (a.put o.dst (.slice Av nv cv)) wk) :
    if Region.wanted o (yielded ops a.tmps) = true then Oper.wp Tryz.prog o a w K Q else E := by
  obtain ⟨inf, hif, hz0, hz1, hz2⟩ := info_parts Tryz.infoNote
  refine step_append_src w hgd s x _ ho 0 97 inf _ 3 24 Tryz.underlying28 hif hz0 hz1 hz2 rfl (by decide) vf n xs hs hown (some ⟨X, 0, none⟩) 1 1 [.int .i64 b0, .int .i64 b1, .int .i64 b2] hx ⟨rfl, (fun h => by cases h), fun ad e j u hu => ?_⟩ (by intro u hu; simp at hu; rcases hu with rfl | rfl | rfl <;> rfl) (by unfold maxLen; omega) (by omega) (Nat.zero_le _) ?_
  · injection e with e
    subst e
    exact World.news_of_block (fr := (0, 0)) hX j u (by simpa using hu)
  · intro v' w' h2 h3 h4
    obtain ⟨A, m, c, rfl⟩ := slice_form h2
    exact h A m c w' (Lib.hid h2) (Lib.hid h3) (Lib.hid h4)
theorem MM.lowM {C : Cfg} {w : World} {vf : Value} {s : MS} (h : MM C w vf s) : C.B ≤ C.M := by
  obtain ⟨Ff, Ft, Fn, vt, vn, h⟩ := h
  exact h.low _ (List.mem_cons_self ..)
theorem MM.gN {C : Cfg} {w : World} {s : MS} {g n c : Nat} (h : MM C w (.slice (some ⟨g, 0, none⟩) n c) s) {vn : Value} (hc : w.cell? ⟨C.M, 9, none⟩ = some vn) : vn.ownBlock ≠ some g := by
  obtain ⟨Ff, Ft, Fn, vt, vn', h⟩ := h
  have e := h.mv.m9
  rw [hc] at e
  injection e with e
  subst e
  intro e
  have h1 := h.notes.ownB g e
  have h2 := h.frs.ownB g rfl
  exact (h.ndF.1 g h2).2.2 h1
theorem MM.gT {C : Cfg} {w : World} {s : MS} {g n c : Nat} (h : MM C w (.slice (some ⟨g, 0, none⟩) n c) s) {vn : Value} (hc : w.cell? ⟨C.M, 4, none⟩ = some vn) : vn.ownBlock ≠ some g := by
  obtain ⟨Ff, Ft, Fn, vt, vn', h⟩ := h
  have e := h.mv.m4
  rw [hc] at e
  injection e with e
  subst e
  intro e
  have h1 := h.tr.ownB g e
  have h2 := h.frs.ownB g rfl
  exact (h.ndF.1 g h2).2.1 h1
theorem specNote (C : Cfg) (w : World) (g n c : Nat) (s : MS) (f : Frame) (a d : Int) (ia : I64 a) (ib : I64 f.1) (id : I64 d) (h : MM C w (.slice (some ⟨g, 0, none⟩) n c) s) (hj : s.fs.reverse[n - 1]? = some f) (hn0 : 0 < n) (hn1 : n ≤ 1000000) (hnc : n ≤ c) (hcm : c ≤ 9223372036854775807) (hl : s.notes.length ≤ 4000000) :
    Calls Tryz.prog 98 #[.pointer (some ⟨C.M, 0, none⟩), .int .i64 a, .int .i64 d] w (RetM C (.slice (some ⟨g, 0, none⟩) n c) { s with notes := s.notes ++ [(a, f.1, d)] } w) := by
  obtain ⟨vt, vn, mv⟩ := h.mv
  have m9 := mv.m9
  have hM := mv.lt
  obtain ⟨_, _, _, _, _, _, _, _, ho⟩ := h.opg hj
  have c0 := ho.fv.c0
  have hgl := ho.fv.lt
  have hgN := h.gN m9
  have HH := Lib.hid h
  have HD := Lib.hid (show ∀ k, k ∈ C.D → k < w.heap.size ∧ k ≠ C.M ∧ vn.ownBlock ≠ some k from fun k hk => ⟨(h.apM hk).1, (h.apM hk).2, h.apN hk m9⟩)
  have hS := Lib.hid (show ∀ V', Below w.heap.size w V' → V'.cell? ⟨C.M, 9, none⟩ = some vn ∧ V'.cell? ⟨g, (n - 1) * 11, none⟩ = some (.int .i64 f.1) from fun V' hV => ⟨below_cell hV m9, below_cell hV c0⟩)
  clear mv ho m9 c0 h
  go_enter Tryz.func98, Tryz.ntmps98
  go_upto_region 0 with fail
  refine wp_region_noPanic ?_
  refine wp_region_cut (S := (fun V' => V'.cell? ⟨C.M, 9, none⟩ = some vn ∧ V'.cell? ⟨g, (n - 1) * 11, none⟩ = some (.int .i64 f.1))) 19 (by kernel_rfl) (by kernel_rfl) (hS.out _ (show Below w.heap.size w _ by exact beloA)) (fun hR0 => ?_)
  simp only [headOps, List.take_succ_cons, List.take_zero]
  refine takeH 0 ?_
  refine takeH 1 ?_
  refine takeH 2 ?_
  refine takeH 3 ?_
  refine takeH 4 ?_
  refine takeH 5 ?_
  refine takeH 6 ?_
  refine takeH 7 ?_
  refine takeH 12 ?_
  refine wpAnyH_ready (rs := [8]) (by kernel_rfl) (by simp) ?_
  refine AllReadyH.cons (i := 8) rfl (fun K hK => ?_) AllReadyH.nil
  go_simp
  refine (specTop C _ g n c s (HH.out.keep (show Below w.heap.size w _ by exact beloA)) hn0 hn1 hnc hcm).mono ?_
  rintro e w1 ⟨rfl, k1, hw1⟩
  have hb1 : Below w.heap.size w w1 := by rw [hw1]; exact belA
  clear hw1
  have hz1 := hb1.size
  refine hK.out _ _ (hS.out _ hb1) (fun hR7 => ?_)
  clear hK K
  try simp only [Act.put, List.getElem_toArray, List.getElem_cons_zero, List.getElem_cons_succ, List.setIfInBounds_toArray, List.set_cons_zero, List.set_cons_succ]
  refine takeH 9 ?_
  refine takeH 10 ?_
  refine takeH 11 ?_
  refine takeH 13 ?_
  refine wpAnyH_ready (rs := [14]) (by kernel_rfl) (by simp) ?_
  refine AllReadyH.cons (i := 14) rfl (fun K hK => ?_) AllReadyH.nil
  go_simp
  refine hK.out _ _ (hS.out _ (below_tr hb1 (Below.mono (show Below w1.heap.size w1 _ by exact beloA) hz1))) (fun hR8 => ?_)
  clear hK K
  try simp only [Act.put, List.getElem_toArray, List.getElem_cons_zero, List.getElem_cons_succ, List.setIfInBounds_toArray, List.set_cons_zero, List.set_cons_succ]
  refine wpAnyH_ready (rs := [15]) (by kernel_rfl) (by simp) ?_
  refine AllReadyH.cons (i := 15) rfl (fun K hK => ?_) AllReadyH.nil
  obtain ⟨VA, hVA⟩ : ∃ VA, VA = w1.alloc (.cells #[.int .i64 a, .int .i64 f.1, .int .i64 d] 97) := ⟨_, rfl⟩
  have hbA : Below w1.heap.size w1 VA := by rw [hVA]; exact belA
  have hXA : VA.heap[w1.heap.size]? = some (.cells #[.int .i64 a, .int .i64 f.1, .int .i64 d] 97) := by rw [hVA]; exact alloc_new' (w := w1) rfl
  have hszA : VA.heap.size = w1.heap.size + 1 := by rw [hVA]; simp
  rw [← hVA]
  clear hVA
  have hbA0 : Below w.heap.size w VA := below_tr hb1 (hbA.mono hz1)
  have hA := HH.out.keep hbA0
  obtain ⟨vn', xs, r9', hxs, hng, put⟩ := hA.noted
  obtain rfl : vn' = vn := (by have := r9'.symm.trans (hS.out VA hbA0).1; simpa using this)
  have HPUT := Lib.hid put
  refine step_note1 (by rfl) _ _ (by rfl) vn' s.notes.length xs (by rfl) hxs w1.heap.size a f.1 d _ (by rfl) hXA hl ?_
  intro Av nv cv wk HO HG HBK
  have kM : wk.heap[C.M]? = VA.heap[C.M]? := HG.out.block C.M (by omega) (fun e => hng e.symm)
  have kg : wk.heap[g]? = VA.heap[g]? := HG.out.block g (by omega) (fun e => hgN e.symm)
  have hS9 : wk.cell? ⟨C.M, 9, none⟩ = some vn' ∧ wk.cell? ⟨g, (n - 1) * 11, none⟩ = some (.int .i64 f.1) := ⟨(World.cell?_of_block (a := ⟨C.M, 9, none⟩) kM).trans r9', (World.cell?_of_block (a := ⟨g, (n - 1) * 11, none⟩) kg).trans (hS.out VA hbA0).2⟩
  have fzk : wk.frozen? ⟨C.M, 9, none⟩ = false := (by rw [World.frozen?_of_block (a := ⟨C.M, 9, none⟩) kM]; obtain ⟨_, _, mvA⟩ := hA.mv; exact mvA.fz 9)
  have hMk : C.M < wk.heap.size := (by have := HG.out.size; omega)
  have HAP := Lib.hid (show Apart C w wk from fun q hq => (HG.out.block q (by have := HD.out q hq; omega) (fun e => (HD.out q hq).2.2 e.symm)).trans (hbA0.block q (HD.out q hq).1))
  clear hA put hxs hng kM kg hXA r9'
  refine hK.out _ _ (hS9) (fun hR9 => ?_)
  clear hK K
  try simp only [Act.put, List.getElem_toArray, List.getElem_cons_zero, List.getElem_cons_succ, List.setIfInBounds_toArray, List.set_cons_zero, List.set_cons_succ]
  refine takeH 16 ?_
  refine takeH 17 ?_
  refine takeH 18 ?_
  refine wpAnyH_done (by kernel_rfl) ?_ _
  refine lastQ_op rfl (fun K hK => ?_)
  rw [if_pos (by rfl)]
  go_simp
  refine hK _ _ ?_
  clear hK K
  refine NoPanic.normal ?_
  go_wp2_with fail
  go_end0
  exact ⟨rfl, HPUT.out _ _ _ wk _ ia ib id HO.out HG.out HBK.out, fun q hq => (heap_setCell_ne _ _ _ (HD.out q hq).2.1).trans (HAP.out q hq)⟩
set_option maxHeartbeats 4000000 in
theorem specRaise (C : Cfg) (w : World) (g n c : Nat) (s : MS) (f : Frame) (m a : Int) (hm : m = 2 ∨ m = 3) (ha : I64 a) (h : MM C w (.slice (some ⟨g, 0, none⟩) n c) s) (hj : s.fs.reverse[n - 1]? = some f) (hn0 : 0 < n) (hn1 : n ≤ 1000000) (hnc : n ≤ c) (hcm : c ≤ 9223372036854775807) (hfn : 0 ≤ f.2.1 ∧ f.2.1 < (C.x.length : Int))
    (hr : ∃ r, r < (fCode C.x f).2.2.2.2.length ∧ idxW (inRow f.2.2.1) (fCode C.x f).2.2.2.2 = (r : Int)) (hr0 : ∀ r, r ∈ (fCode C.x f).2.2.2.2 → 0 ≤ r.2.1) (hz : C.x.length ≤ 1048576) (hz2 : (fCode C.x f).2.2.2.2.length ≤ 1048576) (hpa : I64 (padFr C.x f)) :
    Calls Tryz.prog 73 #[.pointer (some ⟨C.M, 0, none⟩), .int .i64 m, .int .i64 a] w (RetPut C g n c (s.put (n - 1) (raiseFr C.x f m a)) w) := by
  go_enter Tryz.func73, Tryz.ntmps73
  go_wp2_with fail
  refine (specTop C w g n c s h hn0 hn1 hnc hcm).mono ?_
  rintro e w1 ⟨rfl, k1, hw1⟩
  have h2 : MM C w1 (.slice (some ⟨g, 0, none⟩) n c) s := by rw [hw1]; exact h.drewN k1
  obtain ⟨v3, v4, v5, F3, F4, F5, pre, post, ho⟩ := h2.opg hj
  have fv := ho.fv
  have fz3 := fv.fz ((n - 1) * 11 + 3)
  have fz7 := fv.fz ((n - 1) * 11 + 7)
  have fz8 := fv.fz ((n - 1) * 11 + 8)
  have fz9 := fv.fz ((n - 1) * 11 + 9)
  have fz2 := fv.fz ((n - 1) * 11 + 2)
  have c3 := fv.c3
  have c7 := fv.c7
  have c8 := fv.c8
  have c9 := fv.c9
  have c2 := fv.c2
  have hgl := fv.lt
  clear ho fv hw1
  have i2 : I64 2 := by unfold I64; omega
  have i3 : I64 3 := by unfold I64; omega
  have H2 := Lib.hid h2
  clear h h2
  rcases hm with rfl | rfl
  · have h3 := ((H2.out.pMode hj i2).pVal (MS.put_get hj) ha).pNil (MS.put_get (MS.put_get hj))
    rw [MS.put_put, MS.put_put] at h3
    have hj3 := MS.put_get (f := (fGo (fVal (fMode f 2) a) f.2.2.1 [])) hj
    have H3 := Lib.hid h3
    clear h3
    go_wp2_with fail
    refine (show Calls _ _ _ _ (RetIx (padFr C.x f) _) from specPad C _ g n c _ (fGo (fVal (fMode f 2) a) f.2.2.1 []) H3.out hj3 hn0 hn1 hnc hcm hfn hr hr0 hz hz2).mono ?_
    rintro e w2 ⟨rfl, hb⟩
    have h5 := H3.out.keep hb
    obtain ⟨u3, u4, u5, E3, E4, E5, pre', post', ho⟩ := h5.opg hj3
    have fv := ho.fv
    have y2 := fv.c2
    have z2 := fv.fz ((n - 1) * 11 + 2)
    have hg5 := fv.lt
    have h4 := h5.pAt hj3 (a := padFr C.x f) hpa
    rw [MS.put_put] at h4
    have H4 := Lib.hid h4
    clear h4 h5 hb ho fv hj3 c2 c3 c7 c8 c9 fz2 fz3 fz7 fz8 fz9
    go_wp2_with fail
    go_end0
    exact ⟨rfl, H4.out⟩
  · have h3 := (((H2.out.pMode hj i3).pVal (MS.put_get hj) ha).pBase (MS.put_get (MS.put_get hj)) i3).pNil (MS.put_get (MS.put_get (MS.put_get hj)))
    rw [MS.put_put, MS.put_put, MS.put_put] at h3
    have hj3 := MS.put_get (f := (fGo (fBase (fVal (fMode f 3) a) 3) f.2.2.1 [])) hj
    have H3 := Lib.hid h3
    clear h3
    go_wp2_with fail
    refine (show Calls _ _ _ _ (RetIx (padFr C.x f) _) from specPad C _ g n c _ (fGo (fBase (fVal (fMode f 3) a) 3) f.2.2.1 []) H3.out hj3 hn0 hn1 hnc hcm hfn hr hr0 hz hz2).mono ?_
    rintro e w2 ⟨rfl, hb⟩
    have h5 := H3.out.keep hb
    obtain ⟨u3, u4, u5, E3, E4, E5, pre', post', ho⟩ := h5.opg hj3
    have fv := ho.fv
    have y2 := fv.c2
    have z2 := fv.fz ((n - 1) * 11 + 2)
    have hg5 := fv.lt
    have h4 := h5.pAt hj3 (a := padFr C.x f) hpa
    rw [MS.put_put] at h4
    have H4 := Lib.hid h4
    clear h4 h5 hb ho fv hj3 c2 c3 c7 c8 c9 fz2 fz3 fz7 fz8 fz9
    go_wp2_with fail
    go_end0
    exact ⟨rfl, H4.out⟩
/-- A number told; the machine as told. -/
def RetI (C : Cfg) (vf : Value) (s : MS) (a : Int) (w : World) (e : Ending) (w' : World) : Prop := e = .returned (.int .i64 a) ∧ MM C w' vf s
theorem specInputA (C : Cfg) (w : World) (vf : Value) (s : MS) (h : MM C w vf s) (hlt : s.used < C.ins.length) :
    Calls Tryz.prog 96 #[.pointer (some ⟨C.M, 0, none⟩)] w (RetI C vf { s with used := s.used + 1 } (C.ins.getD s.used 0) w) := by
  have HH := Lib.hid h
  obtain ⟨_, hin, hB⟩ := h.xs
  have hni := hin.lenEq
  have hun : s.used < C.ni := by omega
  obtain ⟨bi, oi, eA, _, q2, hc1, hi1⟩ := hin.int_at (k := s.used) hun
  obtain ⟨y, hy⟩ : ∃ y, y = C.ins[s.used]'hlt := ⟨_, rfl⟩
  have HG := Lib.hid (show C.ins.getD s.used 0 = y by rw [hy]; simp [List.getD, hlt])
  rw [← hy] at hc1 hi1
  obtain ⟨_, _, mv⟩ := h.mv
  have m1 := mv.m1
  have m5 := mv.m5
  have hM := mv.lt
  rw [eA] at m1
  have hd2 : (s.used : Int) < (C.ni : Int) := by omega
  have hd3 : ¬ (C.ni : Int) ≤ (s.used : Int) := by omega
  have hub : s.used ≤ 9223372036854775806 := by have := hin.lenLe; omega
  have e9 : (s.used : Int) + 1 - 1 = (s.used : Int) := by omega
  have hS := Lib.hid (show ∀ V', Below w.heap.size w V' → V'.cell? ⟨C.M, 1, none⟩ = some (.slice (some ⟨bi, oi, none⟩) C.ni C.ci) ∧ V'.cell? ⟨C.M, 5, none⟩ = some (.int .i64 s.used) ∧ V'.cell? ⟨bi, oi + s.used, none⟩ = some (.int .i64 y) from fun V' hV => ⟨below_cell hV m1, below_cell hV m5, below_cell hV hc1⟩)
  have hBM : bi ≠ C.M := by have := h.lowM; omega
  clear hy hin hni eA h m1 m5 hc1 mv
  go_enter Tryz.func96, Tryz.ntmps96
  go_upto_region 1 with fail
  obtain ⟨q0, q1, q2'⟩ := hS.out w (Below.refl _ _)
  go_quiet (fail)
  go_upto_region 3 with fail
  obtain ⟨V, hV⟩ : ∃ V, V = w.drewN nq := ⟨_, rfl⟩
  have hbV : Below w.heap.size w V := by rw [hV]; exact belA
  rw [← hV]
  clear hV q0 q1 q2'
  obtain ⟨q0, q1, q2'⟩ := hS.out V hbV
  have h2 := HH.out.keep hbV
  obtain ⟨_, _, mv⟩ := h2.mv
  have fz5 := mv.fz 5
  have hMV := mv.lt
  have h3 := h2.setUsed (s.used + 1)
  rw [show ((s.used + 1 : Nat) : Int) = (s.used : Int) + 1 by omega] at h3
  have H3 := Lib.hid h3
  clear h2 h3 mv
  go_upto_region 4 with fail
  obtain ⟨V2, hV2⟩ : ∃ V2, V2 = V.setCell ⟨C.M, 5, none⟩ (.int .i64 ((s.used : Int) + 1)) := ⟨_, rfl⟩
  have r0 : V2.cell? ⟨C.M, 1, none⟩ = some (.slice (some ⟨bi, oi, none⟩) C.ni C.ci) := by rw [hV2]; simp [go_sem, q0]
  have r1 : V2.cell? ⟨C.M, 5, none⟩ = some (.int .i64 ((s.used : Int) + 1)) := by rw [hV2]; simp [go_sem, q1]
  have r2 : V2.cell? ⟨bi, oi + s.used, none⟩ = some (.int .i64 y) := cell_fr1 (F := [C.M]) (by rw [hV2]; exact frcA) (by simp; exact hBM) q2'
  rw [← hV2] at H3 ⊢
  clear hV2 q0 q1 q2'
  go_quiet (fail)
  go_wp2_with fail
  go_ret
  exact ⟨by have h1 := HG.out; have h2 : C.ins.getD s.used 0 = C.ins[s.used]'hlt := (by simp [List.getD, hlt]); rw [← h2, h1]; rfl, H3.out.drewN _⟩
theorem specInputB (C : Cfg) (w : World) (vf : Value) (s : MS) (h : MM C w vf s) (hlt : C.ins.length ≤ s.used) :
    Calls Tryz.prog 96 #[.pointer (some ⟨C.M, 0, none⟩)] w (RetI C vf s 0 w) := by
  have HH := Lib.hid h
  obtain ⟨_, hin, hB⟩ := h.xs
  have hni := hin.lenEq
  obtain ⟨_, _, mv⟩ := h.mv
  have m1 := mv.m1
  have m5 := mv.m5
  have hM := mv.lt
  have hd3 : (C.ni : Int) ≤ (s.used : Int) := by omega
  clear hin hni h mv hlt
  go_enter Tryz.func96, Tryz.ntmps96
  go_upto_region 1 with fail
  go_quiet (fail)
  go_wp2_with fail
  go_ret
  exact ⟨rfl, HH.out.drewN _⟩
theorem specRecoverA (C : Cfg) (w : World) (g n c : Nat) (s : MS) (f : Frame) (h : MM C w (.slice (some ⟨g, 0, none⟩) n c) s) (hj : s.fs.reverse[n - 1]? = some f) (hn0 : 0 < n) (hn1 : n ≤ 1000000) (hnc : n ≤ c) (hcm : c ≤ 9223372036854775807) (hoff : frOff f = false) :
    Calls Tryz.prog 97 #[.pointer (some ⟨C.M, 0, none⟩)] w (RetI C (.slice (some ⟨g, 0, none⟩) n c) s 0 w) := by
  have HH := Lib.hid h
  obtain ⟨_, _, mv⟩ := h.mv
  have m3 := mv.m3
  have hM := mv.lt
  have HS := Lib.hid (show ∀ V', Below w.heap.size w V' → V'.cell? ⟨C.M, 3, none⟩ = some (.slice (some ⟨g, 0, none⟩) n c) from fun V' hV => below_cell hV m3)
  clear mv
  go_enter Tryz.func97, Tryz.ntmps97
  go_wp2_with fail
  refine (specTop C _ g n c s HH.out hn0 hn1 hnc hcm).mono ?_
  rintro e w1 ⟨rfl, k1, hw1⟩
  have h2 : MM C w1 (.slice (some ⟨g, 0, none⟩) n c) s := by rw [hw1]; exact HH.out.drewN k1
  have m3' := HS.out w1 (by rw [hw1]; exact belA)
  clear m3 hw1 h
  obtain ⟨_, _, _, _, _, _, _, _, ho⟩ := h2.opg hj
  have c10 := ho.fv.c10
  rw [hoff] at c10
  have hgl := ho.fv.lt
  have H2 := Lib.hid h2
  obtain ⟨_, _, mv⟩ := h2.mv
  have hM1 := mv.lt
  clear ho mv hoff hM
  clear h2 hj
  go_wp2_with fail
  go_ret
  exact ⟨rfl, H2.out⟩
theorem specRecoverB (C : Cfg) (w : World) (g n c : Nat) (s : MS) (f : Frame) (h : MM C w (.slice (some ⟨g, 0, none⟩) n c) s) (hj : s.fs.reverse[n - 1]? = some f) (hn0 : 0 < n) (hn1 : n ≤ 1000000) (hnc : n ≤ c) (hcm : c ≤ 9223372036854775807) (hoff : frOff f = true) (hn2 : 2 ≤ n) (b : Frame) (hb : s.fs.reverse[n - 2]? = some b) (hmd : ¬ modeOf b = 2) :
    Calls Tryz.prog 97 #[.pointer (some ⟨C.M, 0, none⟩)] w (RetI C (.slice (some ⟨g, 0, none⟩) n c) s 0 w) := by
  have HH := Lib.hid h
  obtain ⟨_, _, mv⟩ := h.mv
  have m3 := mv.m3
  have hM := mv.lt
  have HB := Lib.hid hb
  have e1 : ((n : Int) - 2) = ((n - 2 : Nat) : Int) := by omega
  have e2 : n - 2 < n := by omega
  have hnI : ¬ (n : Int) < 2 := by omega
  have hnN : ¬ n < 2 := by omega
  have hnD : decide ((n : Int) < 2) = false := decide_eq_false (by omega)
  have HS := Lib.hid (show ∀ V', Below w.heap.size w V' → V'.cell? ⟨C.M, 3, none⟩ = some (.slice (some ⟨g, 0, none⟩) n c) from fun V' hV => below_cell hV m3)
  clear mv
  go_enter Tryz.func97, Tryz.ntmps97
  go_wp2_with fail
  refine (specTop C _ g n c s HH.out hn0 hn1 hnc hcm).mono ?_
  rintro e w1 ⟨rfl, k1, hw1⟩
  have h2 : MM C w1 (.slice (some ⟨g, 0, none⟩) n c) s := by rw [hw1]; exact HH.out.drewN k1
  have m3' := HS.out w1 (by rw [hw1]; exact belA)
  clear m3 hw1 h
  obtain ⟨_, _, _, _, _, _, _, _, ho⟩ := h2.opg hj
  have c10 := ho.fv.c10
  rw [hoff] at c10
  have hgl := ho.fv.lt
  have H2 := Lib.hid h2
  obtain ⟨_, _, mv⟩ := h2.mv
  have hM1 := mv.lt
  clear ho mv hoff hM
  obtain ⟨_, _, _, _, _, _, _, _, hob⟩ := h2.opg hb
  have b7 := hob.fv.c7
  have b8 := hob.fv.c8
  have b9 := hob.fv.c9
  have fz7 := hob.fv.fz ((n - 2) * 11 + 7)
  clear h2 hj hb hob
  go_wp2_with fail
  go_ret
  exact ⟨rfl, H2.out⟩
theorem specRecoverC (C : Cfg) (w : World) (g n c : Nat) (s : MS) (f : Frame) (h : MM C w (.slice (some ⟨g, 0, none⟩) n c) s) (hj : s.fs.reverse[n - 1]? = some f) (hn0 : 0 < n) (hn1 : n ≤ 1000000) (hnc : n ≤ c) (hcm : c ≤ 9223372036854775807) (hoff : frOff f = true) (hn2 : 2 ≤ n) (b : Frame) (hb : s.fs.reverse[n - 2]? = some b) (hmd : modeOf b = 2) (hv9 : I64 (baseOf b)) :
    Calls Tryz.prog 97 #[.pointer (some ⟨C.M, 0, none⟩)] w (RetI C (.slice (some ⟨g, 0, none⟩) n c) (s.put (n - 2) (fMode b (baseOf b))) (valOf b) w) := by
  have HH := Lib.hid h
  obtain ⟨_, _, mv⟩ := h.mv
  have m3 := mv.m3
  have hM := mv.lt
  have HB := Lib.hid hb
  have e1 : ((n : Int) - 2) = ((n - 2 : Nat) : Int) := by omega
  have e2 : n - 2 < n := by omega
  have hnI : ¬ (n : Int) < 2 := by omega
  have hnN : ¬ n < 2 := by omega
  have hnD : decide ((n : Int) < 2) = false := decide_eq_false (by omega)
  have HS := Lib.hid (show ∀ V', Below w.heap.size w V' → V'.cell? ⟨C.M, 3, none⟩ = some (.slice (some ⟨g, 0, none⟩) n c) from fun V' hV => below_cell hV m3)
  clear mv
  go_enter Tryz.func97, Tryz.ntmps97
  go_wp2_with fail
  refine (specTop C _ g n c s HH.out hn0 hn1 hnc hcm).mono ?_
  rintro e w1 ⟨rfl, k1, hw1⟩
  have h2 : MM C w1 (.slice (some ⟨g, 0, none⟩) n c) s := by rw [hw1]; exact HH.out.drewN k1
  have m3' := HS.out w1 (by rw [hw1]; exact belA)
  clear m3 hw1 h
  obtain ⟨_, _, _, _, _, _, _, _, ho⟩ := h2.opg hj
  have c10 := ho.fv.c10
  rw [hoff] at c10
  have hgl := ho.fv.lt
  have H2 := Lib.hid h2
  obtain ⟨_, _, mv⟩ := h2.mv
  have hM1 := mv.lt
  clear ho mv hoff hM
  obtain ⟨_, _, _, _, _, _, _, _, hob⟩ := h2.opg hb
  have b7 := hob.fv.c7
  have b8 := hob.fv.c8
  have b9 := hob.fv.c9
  have fz7 := hob.fv.fz ((n - 2) * 11 + 7)
  rw [hmd] at b7
  have h3 := h2.pMode hb hv9
  have H3 := Lib.hid h3
  clear h2 hj hb hob h3
  go_wp2_with fail
  go_ret
  exact ⟨rfl, H3.out⟩
end Go.Proofs.YtgdeclmciflmpaaGreat

/- The reference's end of a frame: walk. Printed by steps3gen.py. -/
set_option linter.unusedVariables false
set_option linter.unusedSimpArgs false
set_option maxRecDepth 100000
namespace Go.Proofs.YtgdeclmciflmpaaGreat
open Go.RowKit
attribute [local irreducible] wpList
set_option maxHeartbeats 4000000 in
theorem specEnd (C : Cfg) (w : World) (vf : Value) (s : MS) (f : Frame) (rest : List Frame) (N : Nat) (h : MM C w vf s) (R : Rdy C.x C.ins C.most N s f rest) :
    Calls Tryz.prog 76 #[.pointer (some ⟨C.M, 0, none⟩)] w (RetN C (endM C.x s f rest) w) := by
  obtain ⟨g, n, c, rfl, hn, h0, hnc, hcm, hj⟩ := h.opens R.fs
  have hn1 : n ≤ 1000000 := by have := R.ok.many; omega
  have FW := Lib.hid R.fw
  have i1 := I64_of FW.out.id
  have hno : s.notes.length ≤ 4000000 := by have := R.ok.notes; have := R.hN; omega
  have HN := Lib.hid hn
  have HJ := Lib.hid hj
  have RR := Lib.hid R
  have HH := Lib.hid h
  have HC0 := Lib.hid R.c0
  clear hn hj R h
  go_enter Tryz.func76, Tryz.ntmps76
  go_wp2_with fail
  refine (specNote C w g n c s f 3 0 (by unfold I64; omega) i1 (by unfold I64; omega) HH.out HJ.out h0 hn1 hnc hcm hno).mono ?_
  rintro e w0 ⟨rfl, hs1, _⟩
  have HS1 := Lib.hid hs1
  clear hs1
  go_wp2_with fail
  refine (specTop C _ g n c _ HS1.out h0 hn1 hnc hcm).mono ?_
  rintro e w1 ⟨rfl, k1, hw1⟩
  have h2 : MM C w1 (.slice (some ⟨g, 0, none⟩) n c) { s with notes := s.notes ++ [(3, f.1, 0)] } := by rw [hw1]; exact HS1.out.drewN k1
  clear hw1
  obtain ⟨v3, v4, v5, F3, F4, F5, pre, post, ho⟩ := h2.opg HJ.out
  obtain ⟨A3, n3, c3', rfl, hx3⟩ := ho.o3.form
  obtain ⟨A4, n4, c4', rfl, hx4⟩ := ho.o4.form
  obtain ⟨A5, n5, c5', rfl, hx5⟩ := ho.o5.form
  clear hx3 hx4 hx5
  obtain ⟨y0, y1, y2, y3, y4, y5, y6, y7, y8, y9, y10, yf, ygM, ygB, ygl⟩ := ho.fv
  obtain ⟨_, _, mv⟩ := h2.mv
  have hMl := mv.lt
  have H2 := Lib.hid h2
  clear ho h2 mv
  go_upto_region 2 with fail
  obtain ⟨w2, hW⟩ : ∃ W, W = w1.alloc (.cells #[.int .i64 f.1, .int .i64 f.2.1, .int .i64 f.2.2.1, .slice A3 n3 c3', .slice A4 n4 c4', .slice A5 n5 c5', .int .i64 (resOf f), .int .i64 (modeOf f), .int .i64 (valOf f), .int .i64 (baseOf f), .bool (frOff f)] 74) := ⟨_, rfl⟩
  have hbW : Below w1.heap.size w1 w2 := by rw [hW]; exact belA
  have hXW : w2.heap[w1.heap.size]? = some (.cells #[.int .i64 f.1, .int .i64 f.2.1, .int .i64 f.2.2.1, .slice A3 n3 c3', .slice A4 n4 c4', .slice A5 n5 c5', .int .i64 (resOf f), .int .i64 (modeOf f), .int .i64 (valOf f), .int .i64 (baseOf f), .bool (frOff f)] 74) := by rw [hW]; exact alloc_new' (w := w1) rfl
  have hzW : w2.heap.size = w1.heap.size + 1 := by rw [hW]; simp
  have h3 := H2.out.keep hbW
  rw [← hW]
  obtain ⟨X, hX⟩ : ∃ X, w1.heap.size = X := ⟨_, rfl⟩
  rw [hX] at hXW hzW ⊢
  have hMX : C.M < X := by omega
  clear hW hbW hX H2 y0 y1 y2 y3 y4 y5 y6 y7 y8 y9 y10 yf ygl hMl
  have hX2l : X < w2.heap.size := blk_lt hXW
  have hX2 : X = X := rfl
  obtain ⟨_, _, _, _, _, _, z6, z7, z8, _, _⟩ := ele_cells hXW
  obtain ⟨_, _, mv⟩ := h3.mv
  have m3 := mv.m3
  have fz3 := mv.fz 3
  have hMl := mv.lt
  have hS := Lib.hid (show ∀ V', Below w2.heap.size w2 V' → V'.cell? ⟨C.M, 3, none⟩ = some (.slice (some ⟨g, 0, none⟩) n c) from fun V' hV => below_cell hV m3)
  have e1 : ((n : Int) - 1) = ((n - 1 : Nat) : Int) := by omega
  have e2 : n - 1 ≤ n := by omega
  have e3 : IntKind.i64.wrap ((n - 1 : Nat) : Int) = ((n - 1 : Nat) : Int) := IntWalk.i64_in _ (by omega)
  have e4 : n - 1 ≤ c := by omega
  have e5 : (0 : Int) ≤ ((n - 1 : Nat) : Int) := by omega
  have e6 : ((n - 1 : Nat) : Int) ≤ (c : Int) := by omega
  have h4 := h3.cutF (m := n - 1) (by have := HN.out; show n - 1 ≤ s.fs.length; omega) (fs' := rest) (by
    have := HN.out
    show rest.reverse = s.fs.reverse.take (n - 1)
    rw [this, RR.out.fs]; simp)
  have H4 := Lib.hid h4
  clear h3 h4 mv m3
  go_upto_region 2 with fail
  refine wp_region_noPanic ?_
  refine wp_region_cut (S := (fun V' => V'.cell? ⟨C.M, 3, none⟩ = some (.slice (some ⟨g, 0, none⟩) n c))) 17 (by kernel_rfl) (by kernel_rfl) (hS.out _ (show Below w2.heap.size w2 _ by exact beloA)) (fun hR0 => ?_)
  simp only [headOps, List.take_succ_cons, List.take_zero]
  refine takeH 0 ?_
  refine takeH 1 ?_
  refine takeH 2 ?_
  refine takeH 3 ?_
  refine takeH 4 ?_
  refine takeH 5 ?_
  refine takeH 6 ?_
  refine takeH 7 ?_
  refine takeH 8 ?_
  refine takeH 9 ?_
  refine takeH 10 ?_
  refine takeH 11 ?_
  refine takeH 12 ?_
  refine takeH 13 ?_
  refine takeH 14 ?_
  refine takeH 15 ?_
  refine takeH 16 ?_
  refine wpAnyH_done (by kernel_rfl) ?_ _
  refine lastQ_op rfl (fun K hK => ?_)
  rw [if_pos (by rfl)]
  go_simp
  refine hK _ _ ?_
  clear hK K
  refine NoPanic.normal ?_
  obtain ⟨V, hV⟩ : ∃ V, V = (w2.setCell ⟨C.M, 3, none⟩ (.slice (some ⟨g, 0, none⟩) (n - 1) c)).drew := ⟨_, rfl⟩
  have H5 : Hid (MM C V (.slice (some ⟨g, 0, none⟩) (n - 1) c) { s with notes := s.notes ++ [(3, f.1, 0)], fs := rest }) := Lib.hid (by rw [hV]; exact H4.out.keep (by exact beloA))
  have hfV : Fr [C.M] w2 V := by rw [hV]; exact frcA
  have hX3 : V.heap[X]? = w2.heap[X]? := hfV.block X hX2l (by simp; omega)
  have cX := fun o v (h : w2.cell? ⟨X, o, none⟩ = some v) => (World.cell?_of_block (a := ⟨X, o, none⟩) hX3).trans h
  have x6 := cX _ _ z6
  have x7 := cX _ _ z7
  have x8 := cX _ _ z8
  have hzV := hfV.size
  have hXV : X < V.heap.size := by omega
  rw [← hV]
  clear hV cX z6 z7 z8 hX2 hX3 hS fz3 hXW H4
  obtain ⟨_, _, mv⟩ := H5.out.mv
  have m3 := mv.m3
  have m0 := mv.m0
  have m6 := mv.m6
  have m7 := mv.m7
  have fz6 := mv.fz 6
  have fz7 := mv.fz 7
  have hMV := mv.lt
  clear mv
  have hxS := fun W' (hW' : Fr [C.M] V W') => (⟨(World.cell?_of_block (a := ⟨X, 6, none⟩) (hW'.block X hXV (by simp; omega))).trans x6, (World.cell?_of_block (a := ⟨X, 7, none⟩) (hW'.block X hXV (by simp; omega))).trans x7, (World.cell?_of_block (a := ⟨X, 8, none⟩) (hW'.block X hXV (by simp; omega))).trans x8⟩ : W'.cell? ⟨X, 6, none⟩ = some (.int .i64 (resOf f)) ∧ W'.cell? ⟨X, 7, none⟩ = some (.int .i64 (modeOf f)) ∧ W'.cell? ⟨X, 8, none⟩ = some (.int .i64 (valOf f)))
  have HXS := Lib.hid hxS
  clear hxS
  cases rest with
  | nil =>
    obtain rfl : n = 1 := by have := HN.out; rw [RR.out.fs] at this; simpa using this
    have d0 : ((1 : Nat) : Int) - 1 = 0 := rfl
    by_cases md2 : modeOf f = 2
    · have hE : endM C.x s f [] = { s with notes := s.notes ++ [(3, f.1, 0)], fs := [], code := 2, val := valOf f } := by unfold endM; simp only; rw [if_pos md2]
      have h6 := (H5.out.setCode 2).setValue (valOf f)
      have H6 := Lib.hid h6
      have HE := Lib.hid hE
      rw [md2] at x7
      clear h6 hE
      go_wp2_with fail
      go_end0
      exact ⟨rfl, _, HE.out ▸ H6.out.keep (by exact beloA)⟩
    · by_cases md3 : modeOf f = 3
      · have hE : endM C.x s f [] = { s with notes := s.notes ++ [(3, f.1, 0)], fs := [], code := 3 } := by
          have hv := RR.out.ok.val0 RR.out.c0
          unfold endM
          simp only
          rw [if_neg md2, if_pos md3, hv]
        have H6 := Lib.hid (H5.out.setCode 3)
        have HE := Lib.hid hE
        rw [md3] at x7
        clear hE
        go_wp2_with fail
        go_end0
        exact ⟨rfl, _, HE.out ▸ H6.out⟩
      · have hE : endM C.x s f [] = { s with notes := s.notes ++ [(3, f.1, 0)], fs := [], code := 1, val := resOf f } := by unfold endM; simp only; rw [if_neg md2, if_neg md3]
        have H6 := Lib.hid ((H5.out.setCode 1).setValue (resOf f))
        have HE := Lib.hid hE
        clear hE
        go_wp2_with fail
        go_end0
        exact ⟨rfl, _, HE.out ▸ H6.out.keep (by exact beloA)⟩
  | cons b r =>
    have hw := RR.out.stk.1
    have hn2 : 2 ≤ n := by have := HN.out; rw [RR.out.fs] at this; simp at this; omega
    have d0 : ¬ ((n - 1 : Nat) : Int) = 0 := by omega
    have hnl : n - 1 = (b :: r).length := by have := HN.out; rw [RR.out.fs] at this; simp at this ⊢; omega
    have hjb : (b :: r).reverse[n - 1 - 1]? = some b := by rw [hnl]; simp
    have hops : (fIns C.x b).1 = 7 ∨ (fIns C.x b).1 = 17 := hw.2.2.imp (fun h => h.1) (fun h => h.1)
    have FB := frW RR.out.hg hw.1
    have hpd := padW RR.out.hg hw.1 hw.2.1 (by rcases hops with e | e <;> rw [e] <;> rfl)
    have hbp := (stack_lens RR.out.hg (off := frOff f) (fn := f.2.1) RR.out.stk b (List.mem_cons_self ..)).2
    by_cases md2 : modeOf f = 2
    · have hE : endM C.x s f (b :: r) = { s with notes := s.notes ++ [(3, f.1, 0)], fs := raiseFr C.x b 2 (valOf f) :: r } := by unfold endM; simp only; rw [if_pos md2]
      have HE := Lib.hid hE
      rw [md2] at x7
      have iv := I64_of FW.out.vo
      have HNL := Lib.hid hnl
      clear hE hops hnl
      go_wp2_with fail
      refine (specRaise C V g (n - 1) c { s with notes := s.notes ++ [(3, f.1, 0)], fs := b :: r } b 2 (valOf f) (Or.inl rfl) iv H5.out hjb (by omega) (by omega) (by omega) hcm FB.fn hpd.1 (rowEnd RR.out.hg hw.1) (by have := FB.xl; omega) (by have := FB.rl; omega) hpd.2).mono ?_
      rintro e w3 ⟨rfl, h7⟩
      rw [MS.put_top rfl HNL.out] at h7
      go_wp2_with fail
      go_end0
      exact ⟨rfl, _, HE.out ▸ h7⟩
    · by_cases md3 : modeOf f = 3
      · have hE : endM C.x s f (b :: r) = { s with notes := s.notes ++ [(3, f.1, 0)], fs := raiseFr C.x b 3 0 :: r } := by unfold endM; simp only; rw [if_neg md2, if_pos md3]
        have HE := Lib.hid hE
        rw [md3] at x7
        have HNL := Lib.hid hnl
        clear hE hops hnl
        go_wp2_with fail
        refine (specRaise C V g (n - 1) c { s with notes := s.notes ++ [(3, f.1, 0)], fs := b :: r } b 3 0 (Or.inr rfl) (by unfold I64; omega) H5.out hjb (by omega) (by omega) (by omega) hcm FB.fn hpd.1 (rowEnd RR.out.hg hw.1) (by have := FB.xl; omega) (by have := FB.rl; omega) hpd.2).mono ?_
        rintro e w3 ⟨rfl, h7⟩
        rw [MS.put_top rfl HNL.out] at h7
        go_wp2_with fail
        go_end0
        exact ⟨rfl, _, HE.out ▸ h7⟩
      · have hE : endM C.x s f (b :: r) = { s with notes := s.notes ++ [(3, f.1, 0)], fs := fGo b (b.2.2.1 + 1) (if (fIns C.x b).1 = 7 then fPile b ++ [resOf f] else fPile b) :: r } := by unfold endM; simp only; rw [if_neg md2, if_neg md3]
        have HE := Lib.hid hE
        have HNL := Lib.hid hnl
        have HOPS := Lib.hid hops
        clear hE hw hnl hops
        go_upto_region 4 with fail
        go_upto_region 5 with fail
        refine (specTop C V g (n - 1) c { s with notes := s.notes ++ [(3, f.1, 0)], fs := b :: r } H5.out (by omega) (by omega) (by omega) hcm).mono ?_
        rintro e w3 ⟨rfl, k3, hw3⟩
        have h6 : MM C w3 (.slice (some ⟨g, 0, none⟩) (n - 1) c) { s with notes := s.notes ++ [(3, f.1, 0)], fs := b :: r } := by rw [hw3]; exact H5.out.drewN k3
        have x6' := (HXS.out w3 (by rw [hw3]; exact frcA)).1
        have hX3 : X < w3.heap.size := by rw [hw3]; exact hXV
        clear hw3 x6 x7 x8 m3 m0 m6 m7 fz6 fz7
        obtain ⟨fb, hfb⟩ := Int.eq_ofNat_of_zero_le FB.fn.1
        obtain ⟨pb, hpb⟩ := Int.eq_ofNat_of_zero_le FB.at_.1
        have hfbx : fb < C.x.length := by have := FB.fn.2; omega
        have hcd : fCode C.x b = codeD C.x (fb : Int) := by unfold fCode; rw [hfb]
        have hpbx : pb < (codeD C.x (fb : Int)).2.2.2.1.length := by have := FB.at_.2; rw [hcd, hpb] at this; omega
        obtain ⟨bc, oc, bi, oi, k3', d3, eA, hnx, hk3, hbc, hbi, u3, u5, _, _, _⟩ := h6.insCells hfbx hpbx
        have hop : insAt (codeD C.x (fb : Int)).2.2.2.1 (pb : Int) = fIns C.x b := by unfold fIns; rw [hcd, hpb]
        rw [hop] at u5
        obtain ⟨_, _, mv⟩ := h6.mv
        have m0 := mv.m0
        rw [eA] at m0
        obtain ⟨_, _, _, _, _, _, _, _, ho⟩ := h6.opg hjb
        have c1 := ho.fv.c1
        have c2 := ho.fv.c2
        rw [hfb] at c1
        rw [hpb] at c2
        have hgl := ho.fv.lt
        have hM3 := mv.lt
        obtain ⟨_, _, hBw⟩ := h6.xs
        have l1 : fb < C.nx := by omega
        have l2 : (fb : Int) < (C.nx : Int) := by omega
        have l3 : pb < k3' := by omega
        have l4 : (pb : Int) < (k3' : Int) := by omega
        have l5 : pb ≤ 1000000 := by have := FB.il; have := FB.at_.2; omega
        have l6 : fb ≤ 1000000 := by have := FB.xl; omega
        have HPB := Lib.hid hpb
        have H7 := Lib.hid h6
        have HJB := Lib.hid hjb
        have ir := I64_of FW.out.rs
        clear mv ho h6 hk3 hnx hcd hfb hpb hop eA hjb
        rcases HOPS.out with h7 | h17
        · rw [h7] at u5
          have HE2 := Lib.hid (show (if (fIns C.x b).1 = 7 then fPile b ++ [resOf f] else fPile b) = fPile b ++ [resOf f] from if_pos h7)
          clear h7
          go_upto_region 5 with fail
          go_quiet (fail)
          obtain ⟨V2, hV2⟩ : ∃ V2, V2 = w3.drewN nq := ⟨_, rfl⟩
          have h8 : MM C V2 (.slice (some ⟨g, 0, none⟩) (n - 1) c) { s with notes := s.notes ++ [(3, f.1, 0)], fs := b :: r } := by rw [hV2]; exact H7.out.drewN nq
          have x6v : V2.cell? ⟨X, 6, none⟩ = some (.int .i64 (resOf f)) := by rw [hV2]; exact x6'
          have hX4 : X < V2.heap.size := by rw [hV2]; exact hX3
          rw [← hV2]
          clear hV2 x6' u3 u5 c1 c2 m0
          have H8 := Lib.hid h8
          clear h8
          go_wp2_with fail
          refine (specPush C V2 g (n - 1) c { s with notes := s.notes ++ [(3, f.1, 0)], fs := b :: r } b (resOf f) ir H8.out HJB.out (by omega) (by omega) (by omega) hcm (by omega)).mono ?_
          rintro e w4 ⟨rfl, h9⟩
          have hj9 := MS.put_get (s := { s with notes := s.notes ++ [(3, f.1, 0)], fs := b :: r }) (f := fGo b b.2.2.1 (fPile b ++ [resOf f])) HJB.out
          obtain ⟨_, _, _, _, _, _, _, _, ho⟩ := h9.opg hj9
          have c2 : w4.cell? ⟨g, (n - 1 - 1) * 11 + 2, none⟩ = some (.int .i64 (pb : Int)) := by rw [← HPB.out]; exact ho.fv.c2
          have fz2 := ho.fv.fz ((n - 1 - 1) * 11 + 2)
          have hg4 := ho.fv.lt
          have h10 := h9.pAt hj9 (a := (pb : Int) + 1) (by unfold I64; omega)
          rw [MS.put_put, MS.put_top rfl HNL.out] at h10
          have e7 : fGo (fGo b b.2.2.1 (fPile b ++ [resOf f])) ((pb : Int) + 1) (fPile (fGo b b.2.2.1 (fPile b ++ [resOf f]))) = fGo b (b.2.2.1 + 1) (if (fIns C.x b).1 = 7 then fPile b ++ [resOf f] else fPile b) := by rw [HE2.out, HPB.out]; rfl
          rw [e7] at h10
          have H10 := Lib.hid h10
          clear h9 hj9 ho h10 e7
          go_wp2_with fail
          go_end0
          exact ⟨rfl, _, HE.out ▸ H10.out⟩
        · rw [h17] at u5
          have HE2 := Lib.hid (show (if (fIns C.x b).1 = 7 then fPile b ++ [resOf f] else fPile b) = fPile b from if_neg (by omega))
          clear h17
          go_upto_region 5 with fail
          go_quiet (fail)
          obtain ⟨V2, hV2⟩ : ∃ V2, V2 = w3.drewN nq := ⟨_, rfl⟩
          have h8 : MM C V2 (.slice (some ⟨g, 0, none⟩) (n - 1) c) { s with notes := s.notes ++ [(3, f.1, 0)], fs := b :: r } := by rw [hV2]; exact H7.out.drewN nq
          have x6v : V2.cell? ⟨X, 6, none⟩ = some (.int .i64 (resOf f)) := by rw [hV2]; exact x6'
          have hX4 : X < V2.heap.size := by rw [hV2]; exact hX3
          rw [← hV2]
          clear hV2 x6' u3 u5 c1 c2 m0
          obtain ⟨_, _, _, _, _, _, _, _, ho⟩ := h8.opg HJB.out
          have c2 : V2.cell? ⟨g, (n - 1 - 1) * 11 + 2, none⟩ = some (.int .i64 (pb : Int)) := by rw [← HPB.out]; exact ho.fv.c2
          have fz2 := ho.fv.fz ((n - 1 - 1) * 11 + 2)
          have hg4 := ho.fv.lt
          have h10 := h8.pAt HJB.out (a := (pb : Int) + 1) (by unfold I64; omega)
          rw [MS.put_top rfl HNL.out] at h10
          have e7 : fGo b ((pb : Int) + 1) (fPile b) = fGo b (b.2.2.1 + 1) (if (fIns C.x b).1 = 7 then fPile b ++ [resOf f] else fPile b) := by rw [HE2.out, HPB.out]
          rw [e7] at h10
          have H10 := Lib.hid h10
          clear h8 ho h10 e7
          go_wp2_with fail
          go_end0
          exact ⟨rfl, _, HE.out ▸ H10.out⟩
end Go.Proofs.YtgdeclmciflmpaaGreat

/- The reference's call: walk. Printed by steps4gen.py. -/
set_option linter.unusedVariables false
set_option linter.unusedSimpArgs false
set_option maxRecDepth 100000
namespace Go.Proofs.YtgdeclmciflmpaaGreat
open Go.RowKit
attribute [local irreducible] wpList
/-- The variables of a new frame while the given numbers are put, from above. -/
def giveL (gl : List Int) (N j : Nat) : List Int := List.replicate j 0 ++ gl.drop j ++ List.replicate (N - gl.length) 0
theorem giveL_len {gl : List Int} {N j : Nat} (h1 : j ≤ gl.length) (h2 : gl.length ≤ N) : (giveL gl N j).length = N := by
  unfold giveL; simp; omega
theorem giveL_top (gl : List Int) (N : Nat) (h : gl.length ≤ N) : giveL gl N gl.length = List.replicate N 0 := by
  unfold giveL
  rw [List.drop_length, List.append_nil, List.replicate_append_replicate]
  congr 1
  omega
theorem giveL_zero (gl : List Int) (N : Nat) : giveL gl N 0 = gl ++ List.replicate (N - gl.length) 0 := by unfold giveL; simp
theorem giveL_set {gl : List Int} {N j : Nat} (hj : j < gl.length) : (giveL gl N (j + 1)).set j (gl[j]) = giveL gl N j := by
  unfold giveL
  rw [List.replicate_succ', List.append_assoc, List.append_assoc, List.append_assoc, List.set_append_right _ _ (by simp), List.length_replicate, Nat.sub_self]
  simp only [List.singleton_append, List.set_cons_zero, List.append_assoc]
  rw [show gl.drop j = gl[j] :: gl.drop (j + 1) from List.drop_eq_getElem_cons hj]
  rfl
theorem five5 {w : World} {b : Nat} {v0 v1 v2 v3 v4 : Value} {t : TypeId} (h : w.heap[b]? = some (.cells #[v0, v1, v2, v3, v4] t)) : w.cell? ⟨b, 0, none⟩ = some v0 ∧ w.cell? ⟨b, 1, none⟩ = some v1 ∧ w.cell? ⟨b, 2, none⟩ = some v2 ∧ w.cell? ⟨b, 3, none⟩ = some v3 ∧ w.cell? ⟨b, 4, none⟩ = some v4 :=
  ⟨cell_of_row w b 0 _ _ _ h, cell_of_row w b 1 _ _ _ h, cell_of_row w b 2 _ _ _ h, cell_of_row w b 3 _ _ _ h, cell_of_row w b 4 _ _ _ h⟩
/-- Stores to blocks that the machine does not hold. -/
theorem MM.other {C : Cfg} {w w' : World} {vf : Value} {s : MS} {G : List Nat} (h : MM C w vf s) (hf : Fr G w w') (hG : ∀ k, k ∈ G → k ∈ C.D ∧ C.B ≤ k) : MM C w' vf s := by
  obtain ⟨Ff, Ft, Fn, vt, vn, h⟩ := h
  have hn : ∀ k, k ∈ C.M :: (Ff ++ (Ft ++ Fn)) → k ∉ G := fun k hk hm => (h.ap k (hG k hm).1).2 hk
  obtain ⟨b1, b2, b3, b4⟩ := h.base hf (fun k hk => (hG k hk).2)
  exact ⟨Ff, Ft, Fn, vt, vn, ⟨(hf.block C.M h.ltM (hn _ (List.mem_cons_self ..))).trans h.blk, h.frs.fr hf (fun k hk => hn k (List.mem_cons_of_mem _ (List.mem_append_left _ hk))), h.tr.fr hf (fun k hk => hn k (List.mem_cons_of_mem _ (List.mem_append_right _ (List.mem_append_left _ hk)))), h.notes.fr hf (fun k hk => hn k (List.mem_cons_of_mem _ (List.mem_append_right _ (List.mem_append_right _ hk)))), h.nd, h.low, b1, b2, b3, b4, fun k hk => ⟨Nat.lt_of_lt_of_le (h.ap k hk).1 hf.size, (h.ap k hk).2⟩⟩⟩
theorem lastN_take {p : List Int} {m : Nat} (h0 : 0 < m) (hm : m ≤ p.length) : lastN (p.take m) = p[m - 1]'(by omega) := by
  have hl : (p.take m).length = m := by rw [List.length_take]; omega
  rw [← lastN_at (l := p.take m) (k := m - 1) (by rw [hl]; omega) (by rw [hl]), List.getElem_take]
set_option maxHeartbeats 4000000 in
theorem specCall (C : Cfg) (w : World) (vf : Value) (s : MS) (f : Frame) (rest : List Frame) (fn : Nat) (k : Nat) (off : Bool) (h : MM C w vf s) (hfs : s.fs = f :: rest) (h1 : s.fs.length ≤ 1000000) (hp : (fPile f).length ≤ 1000000) (hk : k ≤ (fPile f).length)
    (hfn : fn < C.x.length) (hz : codeSz (codeD C.x (fn : Int)) = true) (hkp : (codeD C.x (fn : Int)).1 = (k : Int)) (hkv : k ≤ (codeD C.x (fn : Int)).2.1.toNat) (hm : 0 ≤ s.made ∧ s.made ≤ 1000000) :
    Calls Tryz.prog 71 #[.pointer (some ⟨C.M, 0, none⟩), .int .i64 fn, .bool off] w (RetCall C (callM C.x C.most s f rest fn k off) (decide ((s.fs.length : Int) < C.most)) w) := by
  obtain ⟨g, n, c, rfl, hn, h0, hnc, hcm, hj⟩ := h.opens hfs
  obtain ⟨vt, vn, mv⟩ := h.mv
  have c3 := mv.m3
  have c2 := mv.m2
  have fz6 := mv.fz 6
  have c6 := mv.m6
  have hM := mv.lt
  by_cases hle : C.most ≤ (n : Int)
  · have e1 : callM C.x C.most s f rest fn k off = { s with code := 4 } := by unfold callM; rw [if_pos (by omega)]
    have e2 : decide ((s.fs.length : Int) < C.most) = false := decide_eq_false (by omega)
    rw [e1, e2]
    have H := Lib.hid h
    have hd : decide ((n : Int) ≥ C.most) = true := decide_eq_true hle
    clear h hfs hj hn e1 e2 mv
    go_enter Tryz.func71, Tryz.ntmps71
    go_wp2_with fail
    go_quiet (fail)
    have h2 := H.out.drewN nq
    obtain ⟨_, _, mq⟩ := h2.mv
    have fzq := mq.fz 6
    have h3 := h2.setCode 4
    have H3 := Lib.hid h3
    have H4 := Lib.hid (show Apart C w ((w.drewN nq).setCell ⟨C.M, 6, none⟩ (.int .i64 4)) from fun k hk => heap_setCell_ne _ _ _ (H.out.apM hk).2)
    clear mq h2 h3
    go_wp2_with fail
    go_ret
    exact ⟨rfl, _, H3.out, H4.out⟩
  · have e2 : decide ((s.fs.length : Int) < C.most) = true := decide_eq_true (by omega)
    rw [e2]
    have H := Lib.hid h
    have hd : decide ((n : Int) ≥ C.most) = false := decide_eq_false hle
    have hd2 : ¬ (n : Int) ≥ C.most := hle
    obtain ⟨hx, _, hB⟩ := h.xs
    have hxl := hx.lenEq
    obtain ⟨bc, oc, z0, z1, D2, k2, d2, t2, D3, k3, d3, t3, D4, k4, d4, t4, eA, _, hbb, hlc, _, _, kS2, kS3, kS4, u0, u1, u2, u3, u4⟩ := Code_at hx (k := fn) (by omega)
    have ec : codeD C.x (fn : Int) = (z0, z1, t2, t3, t4) := by rw [codeD_at hfn, hlc]
    have HEC := Lib.hid ec
    rw [ec] at hkp hkv hz
    simp only at hkp hkv
    subst hkp
    have hzz := codeSz_all hz
    obtain ⟨x1, hx1⟩ := Int.eq_ofNat_of_zero_le (show 0 ≤ z1 by have := hzz.1; have := hzz.2.1; simp only at this; omega)
    subst hx1
    have hkv' : k ≤ x1 := by simpa using hkv
    have hx16 : x1 ≤ 6 := by have := hzz.2.1.2; simp only at this; omega
    have hk2l : k2 = t2.length := kS2.lenEq.symm
    have HK2 := Lib.hid hk2l
    have hk24 : k2 ≤ 4 := by have := hzz.2.2.1; simp only at this; omega
    have m0 := mv.m0
    rw [eA] at m0
    have m8 := mv.m8
    have HN := Lib.hid hn
    have HFS := Lib.hid hfs
    have HJ := Lib.hid hj
    have hn1 : n ≤ 1000000 := by omega
    have l1 : fn < C.nx := by omega
    have l2 : (fn : Int) < (C.nx : Int) := by omega
    have hB' : C.B ≤ w.heap.size := hB
    have hfnm : fn ≤ 9223372036854775806 := by have := hx.lenLe; omega
    obtain ⟨_, _, _, _, _, _, _, _, hog⟩ := h.opg hj
    have hgl := hog.fv.lt
    have HGM := Lib.hid hog.fv.gM
    have HP64 := Lib.hid (own64 hog.o3)
    have hS := Lib.hid (show ∀ V', Below w.heap.size w V' → V'.cell? ⟨C.M, 0, none⟩ = some (.slice (some ⟨bc, oc, none⟩) C.nx C.cx) ∧ V'.cell? ⟨bc, oc + fn * 5, none⟩ = some (.int .i64 k) ∧ V'.cell? ⟨bc, oc + fn * 5 + 1, none⟩ = some (.int .i64 x1) ∧ V'.cell? ⟨bc, oc + fn * 5 + 2, none⟩ = some (.slice D2 k2 d2) ∧ V'.cell? ⟨bc, oc + fn * 5 + 3, none⟩ = some (.slice D3 k3 d3) ∧ V'.cell? ⟨bc, oc + fn * 5 + 4, none⟩ = some (.slice D4 k4 d4) from fun V' hV => ⟨below_cell hV m0, below_cell hV u0, below_cell hV u1, below_cell hV u2, below_cell hV u3, below_cell hV u4⟩)
    clear mv h hn hfs hj e2 h1 hx hxl eA hlc ec kS2 kS3 kS4 hzz hkv m0 m8 hog hk2l hz u0 u1 u2 u3 u4
    go_enter Tryz.func71, Tryz.ntmps71
    go_wp2_with fail
    go_quiet (fail)
    obtain ⟨W, hW⟩ : ∃ W, W = w.drewN nq := ⟨_, rfl⟩
    have hbW : Below w.heap.size w W := by rw [hW]; exact belA
    rw [← hW]
    clear hW c2 c3 c6 fz6
    have hzW := hbW.size
    obtain ⟨q0, q1, q2, q3, q4, q5⟩ := hS.out W hbW
    go_upto_region 5 with fail
    obtain ⟨W1, hW1⟩ : ∃ W1, W1 = W.alloc (.cells #[.int .i64 k, .int .i64 x1, .slice D2 k2 d2, .slice D3 k3 d3, .slice D4 k4 d4] 78) := ⟨_, rfl⟩
    have hb1 : Below W.heap.size W W1 := by rw [hW1]; exact belA
    have hX1 : W1.heap[W.heap.size]? = some (.cells #[.int .i64 k, .int .i64 x1, .slice D2 k2 d2, .slice D3 k3 d3, .slice D4 k4 d4] 78) := by rw [hW1]; exact alloc_new' (w := W) rfl
    have hz1 : W1.heap.size = W.heap.size + 1 := by rw [hW1]; simp
    rw [← hW1]
    obtain ⟨Y, hY⟩ : ∃ Y, W.heap.size = Y := ⟨_, rfl⟩
    rw [hY] at hX1 hz1 ⊢
    have hYi : w.heap.size ≤ Y := by omega
    have hWY : W.heap.size ≤ Y := by omega
    have hzW1 : W.heap.size ≤ W1.heap.size := by omega
    clear hW1 q0 q1 q2 q3 q4 q5 hz1 hY
    obtain ⟨p0, p1, p2, p3, p4⟩ := five5 hX1
    have hYl := blk_lt hX1
    go_wp2_with fail
    refine (specL8Frame W1 fn k x1 (.slice D3 k3 d3) (.slice D4 k4 d4) D2 D3 D4 k2 d2 k3 d3 k4 d4 (by omega) (by omega)).mono ?_
    rintro e w2 ⟨A4, n4, c4, A5, n5, c5, rfl, hrows, hb2⟩
    have hz2 := hb2.size
    have hY2 : w2.heap[Y]? = some (.cells #[.int .i64 k, .int .i64 x1, .slice D2 k2 d2, .slice D3 k3 d3, .slice D4 k4 d4] 78) := (hb2.block Y hYl).trans hX1
    obtain ⟨r0, _, _, _, _⟩ := five5 hY2
    have hYl2 := blk_lt hY2
    clear p0 p1 p2 p3 p4 hX1 hY2
    have hbw2 : Below w.heap.size w w2 := below_tr hbW (Below.mono (below_tr hb1 (hb2.mono (by omega))) hzW)
    have h2 := H.out.keep hbw2
    obtain ⟨_, _, mv⟩ := h2.mv
    have m8 := mv.m8
    have fz8 := mv.fz 8
    have hM2 := mv.lt
    clear mv h2
    go_upto_region 9 with fail
    obtain ⟨V0, hV0⟩ : ∃ V0, V0 = (w2.setCell ⟨C.M, 8, none⟩ (.int .i64 (s.made + 1))).alloc (.cells #[.int .i64 s.made, .int .i64 fn, .int .i64 0, .slice none 0 0, .slice A4 n4 c4, .slice A5 n5 c5, .int .i64 0, .int .i64 0, .int .i64 0, .int .i64 1, .bool off] 74) := ⟨_, rfl⟩
    have hX0 : V0.heap[w2.heap.size]? = some (.cells #[.int .i64 s.made, .int .i64 fn, .int .i64 0, .slice none 0 0, .slice A4 n4 c4, .slice A5 n5 c5, .int .i64 0, .int .i64 0, .int .i64 0, .int .i64 1, .bool off] 74) := by rw [hV0]; exact alloc_new' (by simp [World.setCell])
    have hf0 : Fr [C.M] w2 V0 := by rw [hV0]; exact frcA
    have hz0 : w2.heap.size < V0.heap.size := blk_lt hX0
    have HM0 := Lib.hid (show MM { C with D := ([] ++ ((Value.slice A4 n4 c4).ownBlock.toList ++ (Value.slice A5 n5 c5).ownBlock.toList)) ++ C.D } V0 (.slice (some ⟨g, 0, none⟩) n c) { s with made := s.made + 1 } from by
      have hq1 := (H.out.keep (below_tr hbW (Below.mono hb1 hzW))).apart hb2 (Fx := [] ++ ((Value.slice A4 n4 c4).ownBlock.toList ++ (Value.slice A5 n5 c5).ownBlock.toList)) (fun q hq => by
        simp only [List.nil_append, List.mem_append, Option.mem_toList] at hq
        rcases hq with hq | hq
        · exact World.ownsRow.lt hrows.1 q hq
        · exact World.ownsRow.lt hrows.2.1 q hq)
      rw [hV0]
      exact (hq1.setMade (s.made + 1)).keep (Below.alloc (Below.refl _ _) (Nat.le_refl _) _))
    obtain ⟨X, hX⟩ : ∃ X, w2.heap.size = X := ⟨_, rfl⟩
    have hcY : V0.cell? ⟨Y, 0, none⟩ = some (.int .i64 k) := cell_fr1 hf0 (by simp; omega) r0
    have hrows0 : FrRows V0 W1.heap.size (.slice A4 n4 c4) (.slice A5 n5 c5) (List.replicate x1 0) (List.replicate k2 false) := hrows.fr hf0 (by simp; omega)
    have HAP0 := Lib.hid (show Apart C w V0 from fun q hq => (hf0.block q (by have := H.out.apM hq; have := hbw2.size; omega) (by simp; exact (H.out.apM hq).2)).trans (hbw2.block q (H.out.apM hq).1))
    rw [← hV0]
    have hlt0 : ∀ q, q ∈ ([] ++ ((Value.slice A4 n4 c4).ownBlock.toList ++ (Value.slice A5 n5 c5).ownBlock.toList)) → W1.heap.size ≤ q ∧ q < w2.heap.size := fun q hq => by
      simp only [List.nil_append, List.mem_append, Option.mem_toList] at hq
      rcases hq with hq | hq
      · exact World.ownsRow.lt hrows.1 q hq
      · exact World.ownsRow.lt hrows.2.1 q hq
    rw [hX] at hX0 hz0 hlt0 ⊢
    have HLT := Lib.hid hlt0
    clear hlt0
    have hXB : W1.heap.size ≤ X := by omega
    have hYX : Y < V0.heap.size := by omega
    have hMB : C.M < W1.heap.size := by omega
    have hgB : g < W1.heap.size := by omega
    have hBB : C.B ≤ W1.heap.size := by omega
    have hMV : C.M < V0.heap.size := by omega
    have hVB : W1.heap.size ≤ V0.heap.size := by omega
    clear hV0 hf0 hbw2 hX r0 m8 fz8 hrows hb2 hb1
    have HR0 := Lib.hid hrows0
    have HX0 := Lib.hid hX0
    clear hrows0 hX0
    have HGL := Lib.hid (show ((fPile f).drop ((fPile f).length - k)).length = k by rw [List.length_drop]; omega)
    have HM1 : Hid (MM { C with D := ([] ++ ((Value.slice A4 n4 c4).ownBlock.toList ++ (Value.slice A5 n5 c5).ownBlock.toList)) ++ C.D } V0 (.slice (some ⟨g, 0, none⟩) n c) { (s.put (n - 1) (fGo f f.2.2.1 ((fPile f).take ((fPile f).length - (k - k))))) with made := s.made + 1 }) := Lib.hid (by
      have e : (s.put (n - 1) (fGo f f.2.2.1 ((fPile f).take ((fPile f).length - (k - k))))) = s := by
        rw [MS.put_top HFS.out HN.out, Nat.sub_self, Nat.sub_zero, List.take_length]
        have := HFS.out
        cases s
        simp only at this ⊢
        rw [this]
        rfl
      rw [e]
      exact HM0.out)
    have HR1 : Hid (FrRows V0 W1.heap.size (.slice A4 n4 c4) (.slice A5 n5 c5) (giveL ((fPile f).drop ((fPile f).length - k)) x1 k) (List.replicate k2 false)) := Lib.hid (by
      have e := giveL_top ((fPile f).drop ((fPile f).length - k)) x1 (by rw [HGL.out]; exact hkv')
      rw [HGL.out] at e
      rw [e]
      exact HR0.out)
    go_wp2_with fail
    go_loopw [9] (fun v wr => ∃ j : Nat, j ≤ k ∧ v = .int .i64 ((j : Int) - 1) ∧ Hid (MM { C with D := ([] ++ ((Value.slice A4 n4 c4).ownBlock.toList ++ (Value.slice A5 n5 c5).ownBlock.toList)) ++ C.D } wr (.slice (some ⟨g, 0, none⟩) n c) { (s.put (n - 1) (fGo f f.2.2.1 ((fPile f).take ((fPile f).length - (k - j))))) with made := s.made + 1 }) ∧ Hid (FrRows wr W1.heap.size (.slice A4 n4 c4) (.slice A5 n5 c5) (giveL ((fPile f).drop ((fPile f).length - k)) x1 j) (List.replicate k2 false)) ∧ Fr (g :: (Value.slice A4 n4 c4).ownBlock.toList) V0 wr) (fun v _ => (intOf v + 1).toNat)
    case atStart => exact ⟨k, Nat.le_refl _, rfl, HM1, HR1, Fr.refl _ _⟩
    case round =>
      obtain ⟨j, hj, rfl, HMr, HRr, hFr⟩ := hrel
      have hszr := hFr.size
      have hXr : X < wr.heap.size := by omega
      have hXn : X ∉ g :: (Value.slice A4 n4 c4).ownBlock.toList := by
        intro hm
        rcases List.mem_cons.1 hm with hm | hm
        · omega
        · have := (HLT.out X (List.mem_append_right _ (List.mem_append_left _ hm))).2; omega
      have hXw : wr.heap[X]? = V0.heap[X]? := hFr.block X hz0 hXn
      rcases j with _ | i
      · have hv : ((0 : Nat) : Int) - 1 = -1 := rfl
        rw [hv]
        have hXX := hXw.trans HX0.out
        obtain ⟨y0, y1, y2, y3, y4, y5, y6, y7, y8, y9, y10⟩ := ele_cells hXX
        have H3 : Hid (MM { C with D := ([] ++ ((Value.slice A4 n4 c4).ownBlock.toList ++ (Value.slice A5 n5 c5).ownBlock.toList)) ++ C.D } wr (.slice (some ⟨g, 0, none⟩) n c) { (s.put (n - 1) (fGo f f.2.2.1 ((fPile f).take ((fPile f).length - k)))) with made := s.made + 1 }) := HMr
        obtain ⟨_, _, mv⟩ := H3.out.mv
        have m3 := mv.m3
        have hMc := mv.lt
        clear mv
        have hS7 := Lib.hid (show ∀ V', Below wr.heap.size wr V' → V'.cell? ⟨C.M, 3, none⟩ = some (.slice (some ⟨g, 0, none⟩) n c) ∧ V'.cell? ⟨X, 0, none⟩ = some (.int .i64 s.made) ∧ V'.cell? ⟨X, 1, none⟩ = some (.int .i64 fn) ∧ V'.cell? ⟨X, 2, none⟩ = some (.int .i64 0) ∧ V'.cell? ⟨X, 3, none⟩ = some (.slice none 0 0) ∧ V'.cell? ⟨X, 4, none⟩ = some (.slice A4 n4 c4) ∧ V'.cell? ⟨X, 5, none⟩ = some (.slice A5 n5 c5) ∧ V'.cell? ⟨X, 6, none⟩ = some (.int .i64 0) ∧ V'.cell? ⟨X, 7, none⟩ = some (.int .i64 0) ∧ V'.cell? ⟨X, 8, none⟩ = some (.int .i64 0) ∧ V'.cell? ⟨X, 9, none⟩ = some (.int .i64 1) ∧ V'.cell? ⟨X, 10, none⟩ = some (.bool off) from fun V' hV' => ⟨below_cell hV' m3, below_cell hV' y0, below_cell hV' y1, below_cell hV' y2, below_cell hV' y3, below_cell hV' y4, below_cell hV' y5, below_cell hV' y6, below_cell hV' y7, below_cell hV' y8, below_cell hV' y9, below_cell hV' y10⟩)
        have HRV : Hid (FrRows wr W1.heap.size (.slice A4 n4 c4) (.slice A5 n5 c5) (((fPile f).drop ((fPile f).length - k)) ++ List.replicate ((codeD C.x (fn : Int)).2.1.toNat - ((fPile f).drop ((fPile f).length - k)).length) 0) (List.replicate (codeD C.x (fn : Int)).2.2.1.length false)) := Lib.hid (by
          have h1 := HRr.out
          rw [giveL_zero] at h1
          rw [HEC.out]
          show FrRows wr W1.heap.size _ _ (((fPile f).drop ((fPile f).length - k)) ++ List.replicate ((x1 : Int).toNat - ((fPile f).drop ((fPile f).length - k)).length) 0) (List.replicate t2.length false)
          rw [← HK2.out]
          exact h1)
        have HDX := Lib.hid (show ∀ q, q ∈ C.D → q ∉ ([] ++ ((Value.slice A4 n4 c4).ownBlock.toList ++ (Value.slice A5 n5 c5).ownBlock.toList)) from fun q hq hm => by have := (H.out.apM hq).1; have := (HLT.out q hm).1; omega)
        have HBX := Lib.hid (show ∀ q, q ∈ ([] ++ ((Value.slice A4 n4 c4).ownBlock.toList ++ (Value.slice A5 n5 c5).ownBlock.toList)) → C.B ≤ q from fun q hm => by have := (HLT.out q hm).1; omega)
        have HI64 := Lib.hid (show ∀ q, q ∈ ((fPile f).drop ((fPile f).length - k)) ++ List.replicate ((codeD C.x (fn : Int)).2.1.toNat - ((fPile f).drop ((fPile f).length - k)).length) 0 → I64 q from fun q hq => by
          rcases List.mem_append.1 hq with hq | hq
          · exact HP64.out q (List.mem_of_mem_drop hq)
          · rw [(List.mem_replicate.1 hq).2]; unfold I64; omega)
        have HFI := Lib.hid (show FrI (newFrm C.x s.made (fn : Int) ((fPile f).drop ((fPile f).length - k)) off) from by
          refine ⟨?_, ?_, ?_, ?_, ?_, ?_, ?_⟩ <;> simp only [newFrm, resOf, modeOf, valOf, baseOf] <;> unfold I64 <;> omega)
        have HgM := Lib.hid (show ¬ g = C.M from HGM.out)
        have HAV := Lib.hid (show Apart C w wr from fun q hq => (hFr.block q (by have := H.out.apM hq; omega) (fun hm => by
          have h1 := H.out.apM hq
          rcases List.mem_cons.1 hm with rfl | hm
          · exact H.out.apF hq rfl
          · have := (HLT.out q (List.mem_append_right _ (List.mem_append_left _ hm))).1; omega)).trans (HAP0.out q hq))
        have hgX : g ≠ X := by omega
        clear m3 y0 y1 y2 y3 y4 y5 y6 y7 y8 y9 y10 hXX hXw HMr HRr hFr
        go_upto_region 13 with fail
        refine wp_region_noPanic ?_
        refine wp_region_cut (S := (fun wr' => wr'.cell? ⟨C.M, 3, none⟩ = some (.slice (some ⟨g, 0, none⟩) n c) ∧ wr'.cell? ⟨X, 0, none⟩ = some (.int .i64 s.made) ∧ wr'.cell? ⟨X, 1, none⟩ = some (.int .i64 fn) ∧ wr'.cell? ⟨X, 2, none⟩ = some (.int .i64 0) ∧ wr'.cell? ⟨X, 3, none⟩ = some (.slice none 0 0) ∧ wr'.cell? ⟨X, 4, none⟩ = some (.slice A4 n4 c4) ∧ wr'.cell? ⟨X, 5, none⟩ = some (.slice A5 n5 c5) ∧ wr'.cell? ⟨X, 6, none⟩ = some (.int .i64 0) ∧ wr'.cell? ⟨X, 7, none⟩ = some (.int .i64 0) ∧ wr'.cell? ⟨X, 8, none⟩ = some (.int .i64 0) ∧ wr'.cell? ⟨X, 9, none⟩ = some (.int .i64 1) ∧ wr'.cell? ⟨X, 10, none⟩ = some (.bool off))) 12 (by kernel_rfl) (by kernel_rfl) (hS7.out _ (show Below wr.heap.size wr _ by exact beloA)) (fun hR0 => ?_)
        simp only [headOps, List.take_succ_cons, List.take_zero]
        refine takeH 0 ?_
        refine takeH 1 ?_
        refine takeH 2 ?_
        refine takeH 3 ?_
        refine takeH 4 ?_
        refine takeH 5 ?_
        refine takeH 6 ?_
        refine wpAnyH_ready (rs := [7]) (by kernel_rfl) (by simp) ?_
        refine AllReadyH.cons (i := 7) rfl (fun K hK => ?_) AllReadyH.nil
        refine step_box (by rfl) _ (by rfl) s.made fn 0 0 0 0 1 none A4 A5 0 0 n4 c4 n5 c5 off (by rfl) ?_
        refine hK.out _ _ (hS7.out _ (show Below wr.heap.size wr _ by exact beloA)) (fun hR7 => ?_)
        clear hK K
        try simp only [Act.put, List.getElem_toArray, List.getElem_cons_zero, List.getElem_cons_succ, List.setIfInBounds_toArray, List.set_cons_zero, List.set_cons_succ]
        refine wpAnyH_ready (rs := [8]) (by kernel_rfl) (by simp) ?_
        refine AllReadyH.cons (i := 8) rfl (fun K hK => ?_) AllReadyH.nil
        obtain ⟨VA, hVA⟩ : ∃ VA, VA = wr.drew.alloc (.cells #[.int .i64 s.made, .int .i64 fn, .int .i64 0, .slice none 0 0, .slice A4 n4 c4, .slice A5 n5 c5, .int .i64 0, .int .i64 0, .int .i64 0, .int .i64 1, .bool off] 74) := ⟨_, rfl⟩
        have hbA : Below wr.heap.size wr VA := by rw [hVA]; exact belA
        have hXA : VA.heap[wr.heap.size]? = some (.cells (frCells (newFrm C.x s.made (fn : Int) ((fPile f).drop ((fPile f).length - k)) off) (.slice none 0 0) (.slice A4 n4 c4) (.slice A5 n5 c5)).toArray 74) := by rw [hVA]; exact alloc_new' (w := wr.drew) rfl
        have hszA : VA.heap.size = wr.heap.size + 1 := by rw [hVA]; simp
        rw [← hVA]
        clear hVA
        have hA := H3.out.keep hbA
        obtain ⟨xs, hxs, hng, put⟩ := hA.framed (D := C.D) HDX.out HBX.out
        have HPUT := Lib.hid put
        have HL2 := Lib.hid (show (s.put (n - 1) (fGo f f.2.2.1 ((fPile f).take ((fPile f).length - k)))).fs.length = n from (MS.put_len ..).trans HN.out.symm)
        have hRA : FrRows VA W1.heap.size (.slice A4 n4 c4) (.slice A5 n5 c5) (((fPile f).drop ((fPile f).length - k)) ++ List.replicate ((codeD C.x (fn : Int)).2.1.toNat - ((fPile f).drop ((fPile f).length - k)).length) 0) (List.replicate (codeD C.x (fn : Int)).2.2.1.length false) := HRV.out.fr (Fr.of_below (F := []) hbA) (by simp)
        have hOwn : FrameR.own VA ([] ++ ((Value.slice A4 n4 c4).ownBlock.toList ++ (Value.slice A5 n5 c5).ownBlock.toList)) (frCells (newFrm C.x s.made (fn : Int) ((fPile f).drop ((fPile f).length - k)) off) (.slice none 0 0) (.slice A4 n4 c4) (.slice A5 n5 c5)) (newFrm C.x s.made (fn : Int) ((fPile f).drop ((fPile f).length - k)) off) := own_frCells (OwnSl.nil_ ..) (own_ints hRA.1 HI64.out) (own_bools hRA.2.1) HFI.out (fr_nodup hRA.2.2)
        refine step_frm (by rfl) _ _ (by rfl) (.slice (some ⟨g, 0, none⟩) n c) n xs (by rfl) (Eq.mp (congrArg (fun q => VA.ownsRow 0 74 11 (.slice (some ⟨g, 0, none⟩) n c) q xs) HL2.out) hxs) wr.heap.size (frCells (newFrm C.x s.made (fn : Int) ((fPile f).drop ((fPile f).length - k)) off) (.slice none 0 0) (.slice A4 n4 c4) (.slice A5 n5 c5)) _ (by rfl) hXA rfl (fun u hu => frCells_one _ _ _ _ _ _ _ _ _ _ u hu) hn1 ?_
        intro Av nv cv wk HO HG HBK
        have hgX' : g ≠ X := hgX
        have kM : wk.heap[C.M]? = VA.heap[C.M]? := HG.out.block C.M (by omega) (fun e => by simp [Value.ownBlock] at e; exact HgM.out e.symm)
        have kX : wk.heap[X]? = VA.heap[X]? := HG.out.block X (by omega) (fun e => by simp [Value.ownBlock] at e; exact hgX e.symm)
        have hS8 : wk.cell? ⟨C.M, 3, none⟩ = some (.slice (some ⟨g, 0, none⟩) n c) ∧ wk.cell? ⟨X, 0, none⟩ = some (.int .i64 s.made) ∧ wk.cell? ⟨X, 1, none⟩ = some (.int .i64 fn) ∧ wk.cell? ⟨X, 2, none⟩ = some (.int .i64 0) ∧ wk.cell? ⟨X, 3, none⟩ = some (.slice none 0 0) ∧ wk.cell? ⟨X, 4, none⟩ = some (.slice A4 n4 c4) ∧ wk.cell? ⟨X, 5, none⟩ = some (.slice A5 n5 c5) ∧ wk.cell? ⟨X, 6, none⟩ = some (.int .i64 0) ∧ wk.cell? ⟨X, 7, none⟩ = some (.int .i64 0) ∧ wk.cell? ⟨X, 8, none⟩ = some (.int .i64 0) ∧ wk.cell? ⟨X, 9, none⟩ = some (.int .i64 1) ∧ wk.cell? ⟨X, 10, none⟩ = some (.bool off) := by
          obtain ⟨z0, z1, z2, z3, z4, z5, z6, z7, z8, z9, z10, z11⟩ := hS7.out VA hbA
          have cM := fun o v (h : VA.cell? ⟨C.M, o, none⟩ = some v) => (World.cell?_of_block (a := ⟨C.M, o, none⟩) kM).trans h
          have cX := fun o v (h : VA.cell? ⟨X, o, none⟩ = some v) => (World.cell?_of_block (a := ⟨X, o, none⟩) kX).trans h
          exact ⟨cM _ _ z0, cX _ _ z1, cX _ _ z2, cX _ _ z3, cX _ _ z4, cX _ _ z5, cX _ _ z6, cX _ _ z7, cX _ _ z8, cX _ _ z9, cX _ _ z10, cX _ _ z11⟩
        have fzk : wk.frozen? ⟨C.M, 3, none⟩ = false := by
          rw [World.frozen?_of_block (a := ⟨C.M, 3, none⟩) kM]
          obtain ⟨_, _, mvA⟩ := hA.mv
          exact mvA.fz 3
        have hMk : C.M < wk.heap.size := by have := HG.out.size; omega
        have HOWN := Lib.hid hOwn
        have HAP := Lib.hid (show Apart C w wk from fun q hq => (HG.out.block q (by have := H.out.apM hq; omega) (fun e => by simp [Value.ownBlock] at e; exact H.out.apF hq (by simp [Value.ownBlock]; exact e.symm))).trans ((hbA.block q (by have := H.out.apM hq; omega)).trans (HAV.out q hq)))
        clear hA put hxs hng hRA hOwn kM kX hXA
        refine hK.out _ _ (hS8) (fun hR8 => ?_)
        clear hK K
        try simp only [Act.put, List.getElem_toArray, List.getElem_cons_zero, List.getElem_cons_succ, List.setIfInBounds_toArray, List.set_cons_zero, List.set_cons_succ]
        refine takeH 9 ?_
        refine takeH 10 ?_
        refine takeH 11 ?_
        refine wpAnyH_done (by kernel_rfl) ?_ _
        refine lastQ_op rfl (fun K hK => ?_)
        rw [if_pos (by rfl)]
        go_simp
        refine hK _ _ ?_
        clear hK K
        refine NoPanic.normal ?_
        go_wp2_with fail
        go_ret
        refine ⟨rfl, .slice Av nv cv, ?_, fun q hq => (heap_setCell_ne _ _ _ (H.out.apM hq).2).trans (HAP.out q hq)⟩
        have hE : callM C.x C.most s f rest (fn : Int) k off = { s with fs := newFrm C.x s.made (fn : Int) ((fPile f).drop ((fPile f).length - k)) off :: fGo f f.2.2.1 ((fPile f).take ((fPile f).length - k)) :: rest, made := s.made + 1 } := by
          unfold callM
          rw [if_neg (by have := HN.out; omega)]
        rw [hE]
        have hP := HPUT.out _ _ wk _ HOWN.out (by have := HL2.out; show wk.ownsRow 0 74 11 _ ((s.put (n - 1) (fGo f f.2.2.1 ((fPile f).take ((fPile f).length - k)))).fs.length + 1) _; rw [this]; exact HO.out) HG.out HBK.out
        rw [MS.put_top HFS.out HN.out] at hP
        exact hP
      · have hv : ((i + 1 : Nat) : Int) - 1 = (i : Int) := by omega
        have hv0 : (0 : Int) ≤ (i : Int) := by omega
        rw [hv]
        have hLL := giveL_len (gl := ((fPile f).drop ((fPile f).length - k))) (N := x1) (j := i + 1) (by rw [HGL.out]; omega) (by rw [HGL.out]; exact hkv')
        obtain ⟨hn4, hA4⟩ := ownsRow_cases (World.ownsRow.mono HRr.out.1 (Nat.zero_le _))
        rw [hLL] at hn4 hA4
        obtain ⟨g4, rfl⟩ : ∃ g4, A4 = some ⟨g4, 0, none⟩ := by
          rcases hA4 with ⟨_, h0', _⟩ | ⟨g4, e, _⟩
          · omega
          · exact ⟨g4, e⟩
        clear hA4
        have hin4 : i < n4 := by omega
        have hiI : (i : Int) < (n4 : Int) := by omega
        have hpl1 : (fPile (fGo f f.2.2.1 ((fPile f).take ((fPile f).length - (k - (i + 1)))))).length = (fPile f).length - (k - (i + 1)) := by show ((fPile f).take _).length = _; rw [List.length_take]; omega
        have hg4l := HLT.out g4 (List.mem_append_right _ (List.mem_append_left _ (by simp [Value.ownBlock])))
        have HGI := Lib.hid (show ∀ q, q ∈ giveL ((fPile f).drop ((fPile f).length - k)) x1 (i + 1) → I64 q from fun q hq => by
          unfold giveL at hq
          rcases List.mem_append.1 hq with hq | hq
          · rcases List.mem_append.1 hq with hq | hq
            · rw [(List.mem_replicate.1 hq).2]; unfold I64; omega
            · exact HP64.out q (List.mem_of_mem_drop (List.mem_of_mem_drop hq))
          · rw [(List.mem_replicate.1 hq).2]; unfold I64; omega)
        have hS12 := Lib.hid (show ∀ V', Below wr.heap.size wr V' → V'.cell? ⟨X, 4, none⟩ = some (.slice (some ⟨g4, 0, none⟩) n4 c4) from fun V' hV' => below_cell hV' ((World.cell?_of_block (a := ⟨X, 4, none⟩) hXw).trans (ele_cells HX0.out).2.2.2.2.1))
        have HN4 := Lib.hid hn4
        have HLL := Lib.hid hLL
        clear hn4 hLL
        go_upto_region 12 with fail
        refine wp_region_noPanic ?_
        refine wp_region_cut (S := (fun V' => V'.cell? ⟨X, 4, none⟩ = some (.slice (some ⟨g4, 0, none⟩) n4 c4))) 6 (by kernel_rfl) (by kernel_rfl) (hS12.out _ (show Below wr.heap.size wr _ by exact beloA)) (fun hR0 => ?_)
        simp only [headOps, List.take_succ_cons, List.take_zero]
        refine takeH 0 ?_
        refine takeH 1 ?_
        refine takeH 2 ?_
        refine takeH 3 ?_
        refine wpAnyH_ready (rs := [4]) (by kernel_rfl) (by simp) ?_
        refine AllReadyH.cons (i := 4) rfl (fun K hK => ?_) AllReadyH.nil
        go_simp
        refine (specPop { C with D := ([] ++ ((Value.slice (some ⟨g4, 0, none⟩) n4 c4).ownBlock.toList ++ (Value.slice A5 n5 c5).ownBlock.toList)) ++ C.D } _ g n c { (s.put (n - 1) (fGo f f.2.2.1 ((fPile f).take ((fPile f).length - (k - (i + 1)))))) with made := s.made + 1 } (fGo f f.2.2.1 ((fPile f).take ((fPile f).length - (k - (i + 1))))) (HMr.out.keep (show Below wr.heap.size wr _ by exact beloA)) (MS.put_get HJ.out) h0 hn1 hnc hcm (by have := hpl1; omega) (by have := hpl1; omega)).mono ?_
        rintro e w5 ⟨rfl, k5, v5, hw5, h5⟩
        have hfr5 : Fr [g] wr w5 := by rw [hw5]; exact frcA
        clear hw5
        have hX5 : w5.heap[X]? = wr.heap[X]? := hfr5.block X hXr (by simp; omega)
        have hS5 : w5.cell? ⟨X, 4, none⟩ = some (.slice (some ⟨g4, 0, none⟩) n4 c4) := (World.cell?_of_block (a := ⟨X, 4, none⟩) hX5).trans (hS12.out wr (Below.refl _ _))
        have hR5 := HRr.out.fr hfr5 (by simp; omega)
        have ho5 := own_ints hR5.1 HGI.out
        obtain ⟨bq, oq, eq, _, _, hcq, hiq⟩ := ho5.sl.int_at (k := i) (by omega)
        simp only [Option.some.injEq, Addr.mk.injEq, and_true] at eq
        obtain ⟨rfl, rfl⟩ := eq
        rw [Nat.zero_add] at hcq
        have hro : w5.ownsRow W1.heap.size 3 1 (.slice (some ⟨g4, 0, none⟩) n4 c4) n4 ((giveL ((fPile f).drop ((fPile f).length - k)) x1 (i + 1)).map (Value.int .i64)) := (by have h9 := hR5.1; unfold IntRow at h9; rwa [HLL.out.trans HN4.out.symm] at h9)
        have hfq := World.ownsRow.frozenAt hro i
        have HRO := Lib.hid hro
        have hg45 : g4 < w5.heap.size := (World.ownsRow.lt hR5.1 g4 rfl).2
        obtain ⟨y, hy⟩ : ∃ y, y = (fPile f)[(fPile f).length - (k - (i + 1)) - 1]'(by omega) := ⟨_, rfl⟩
        have iy : I64 y := by rw [hy]; exact HP64.out _ (List.getElem_mem _)
        have HYG := Lib.hid (show y = ((fPile f).drop ((fPile f).length - k))[i]'(by rw [HGL.out]; omega) by rw [hy, List.getElem_drop]; congr 1; omega)
        obtain ⟨yq, hyq⟩ : ∃ yq, w5.cell? ⟨g4, i, none⟩ = some (.int .i64 yq) := ⟨_, hcq⟩
        rw [show lastN (fPile (fGo f f.2.2.1 ((fPile f).take ((fPile f).length - (k - (i + 1)))))) = y from (lastN_take (p := fPile f) (m := (fPile f).length - (k - (i + 1))) (by omega) (by omega)).trans hy.symm]
        have H5 := Lib.hid h5
        have HR5 := Lib.hid hR5
        clear hy h5 hR5 hiq hcq ho5 hro
        refine hK.out _ _ (hS5) (fun hR5 => ?_)
        clear hK K
        try simp only [Act.put, List.getElem_toArray, List.getElem_cons_zero, List.getElem_cons_succ, List.setIfInBounds_toArray, List.set_cons_zero, List.set_cons_succ]
        refine takeH 5 ?_
        refine wpAnyH_done (by kernel_rfl) ?_ _
        refine lastQ_op rfl (fun K hK => ?_)
        rw [if_pos (by rfl)]
        go_simp
        refine hK _ _ ?_
        clear hK K
        refine NoPanic.normal ?_
        have hfq4 : Fr [g4] w5 (w5.setCell ⟨g4, i, none⟩ (.int .i64 y)) := by exact frcA
        have HMn : Hid (MM { C with D := ([] ++ ((Value.slice (some ⟨g4, 0, none⟩) n4 c4).ownBlock.toList ++ (Value.slice A5 n5 c5).ownBlock.toList)) ++ C.D } (w5.setCell ⟨g4, i, none⟩ (.int .i64 y)) (.slice (some ⟨g, 0, none⟩) n c) { (s.put (n - 1) (fGo f f.2.2.1 ((fPile f).take ((fPile f).length - (k - i))))) with made := s.made + 1 }) := Lib.hid (by
          have h6 := (H5.out.other hfq4 (fun q hq => by
            rw [List.mem_singleton.1 hq]
            exact ⟨List.mem_append_left _ (List.mem_append_right _ (List.mem_append_left _ (by simp [Value.ownBlock]))), (show C.B ≤ g4 by omega)⟩)).keep (w' := (w5.setCell ⟨g4, i, none⟩ (.int .i64 y))) (by exact beloA)
          have e : (({ (s.put (n - 1) (fGo f f.2.2.1 ((fPile f).take ((fPile f).length - (k - (i + 1)))))) with made := s.made + 1 } : MS).put (n - 1) (fGo (fGo f f.2.2.1 ((fPile f).take ((fPile f).length - (k - (i + 1))))) f.2.2.1 ((fPile f).take ((fPile f).length - (k - (i + 1)))).dropLast)) = { (s.put (n - 1) (fGo f f.2.2.1 ((fPile f).take ((fPile f).length - (k - i))))) with made := s.made + 1 } := by
            show ({ ((s.put (n - 1) (fGo f f.2.2.1 ((fPile f).take ((fPile f).length - (k - (i + 1)))))).put (n - 1) (fGo (fGo f f.2.2.1 ((fPile f).take ((fPile f).length - (k - (i + 1))))) f.2.2.1 ((fPile f).take ((fPile f).length - (k - (i + 1)))).dropLast)) with made := s.made + 1 } : MS) = _
            rw [MS.put_put, List.dropLast_eq_take, List.take_take, List.length_take, show min (min ((fPile f).length - (k - (i + 1))) (fPile f).length - 1) ((fPile f).length - (k - (i + 1))) = (fPile f).length - (k - i) by
              have q1 : (fPile f).length - (k - (i + 1)) ≤ (fPile f).length := Nat.sub_le _ _
              rw [Nat.min_eq_left q1, Nat.min_eq_left (Nat.sub_le _ _)]
              clear HMr HRr
              have q2 : k - i = (k - (i + 1)) + 1 := by omega
              omega]
            rfl
          exact e ▸ h6)
        have HRn : Hid (FrRows (w5.setCell ⟨g4, i, none⟩ (.int .i64 y)) W1.heap.size (.slice (some ⟨g4, 0, none⟩) n4 c4) (.slice A5 n5 c5) (giveL ((fPile f).drop ((fPile f).length - k)) x1 i) (List.replicate k2 false)) := Lib.hid (by
          have h1 := (HRO.out.stored i (.int .i64 y)).1
          have hi9 : i < ((fPile f).drop ((fPile f).length - k)).length := by rw [HGL.out]; omega
          have e := giveL_set (gl := ((fPile f).drop ((fPile f).length - k))) (N := x1) (j := i) hi9
          rw [← HYG.out] at e
          rw [← List.map_set, e] at h1
          have h2 := HR5.out
          refine ⟨?_, (h2.2.1.keepR fun q h3 h4 h5 => (hfq4.block q h4 (by
            intro hm
            rw [List.mem_singleton.1 hm] at h5
            exact h2.2.2 g4 rfl h5))), h2.2.2⟩
          unfold IntRow
          rw [show (giveL ((fPile f).drop ((fPile f).length - k)) x1 i).length = n4 from (giveL_len (by rw [HGL.out]; omega) (by rw [HGL.out]; exact hkv')).trans HN4.out.symm]
          exact h1)
        have hFn : Fr (g :: (Value.slice (some ⟨g4, 0, none⟩) n4 c4).ownBlock.toList) V0 (w5.setCell ⟨g4, i, none⟩ (.int .i64 y)) := (hFr.trans (hfr5.more fun q hq => by rw [List.mem_singleton.1 hq]; exact List.mem_cons_self ..)).trans (hfq4.more fun q hq => by rw [List.mem_singleton.1 hq]; simp [Value.ownBlock])
        clear hFr HRO HR5 H5 hfq4 hyq
        go_wp2_with fail
        go_roundw
        case rel => exact ⟨i, by omega, by go_num, HMn, HRn, hFn⟩
        case measure => simp [intOf]
end Go.Proofs.YtgdeclmciflmpaaGreat
