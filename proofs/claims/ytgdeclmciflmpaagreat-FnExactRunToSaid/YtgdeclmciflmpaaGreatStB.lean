/- Several texts in one: StepI3, StepR, StepI5. -/
import Derived.Test.YtgdeclmciflmpaaGreatStA
import Derived.Test.YtgdeclmciflmpaaGreatNewFG
import Derived.Test.YtgdeclmciflmpaaGreatRegCut
import Derived.Test.YtgdeclmciflmpaaGreatKit1
import Derived.Deep.DeepCutAuto
import Derived.Deep.RegionHeld3
import Derived.Deep.QuietTactic
import Derived.BigQuiet
import Derived.Test.YtgdeclmciflmpaaGreatStepP

/- The machine's method call, our side: walk. -/
set_option linter.unusedVariables false
set_option linter.unusedSimpArgs false
set_option maxRecDepth 100000
namespace Go.Proofs.YtgdeclmciflmpaaGreat
open Go.RowKit
attribute [local irreducible] wpList
section
variable {C : Cfg} {w w' : World} {vf : Value} {s : MS} {f b : Frame} {rest : List Frame}
/-- The frames' slice of a machine with a frame. -/
theorem MM.opens (h : MM C w vf s) (e : s.fs = f :: rest) : ∃ g n c, vf = .slice (some ⟨g, 0, none⟩) n c ∧ n = s.fs.length ∧ 0 < n ∧ n ≤ c ∧ c ≤ 9223372036854775807 ∧ s.fs.reverse[n - 1]? = some f := by
  obtain ⟨Ff, Ft, Fn, vt, vn, h⟩ := h
  obtain ⟨A, n, c, rfl, hn⟩ := h.frs.form
  obtain ⟨_, hx, hb, _⟩ := h.frs.row'
  rw [List.length_reverse] at hn
  have hp : 0 < n := by rw [hn, e]; simp
  obtain ⟨_, ⟨h0', h0⟩ | ⟨g3, e3, q3, q4⟩⟩ := ownsRow_cases hx
  · exact absurd hp (by omega)
  subst e3
  refine ⟨g3, n, c, rfl, hn, hp, by omega, by omega, ?_⟩
  rw [hn, e]
  simp
theorem MS.put_top {n : Nat} {f' : Frame} (e : s.fs = f :: rest) (hn : n = s.fs.length) : s.put (n - 1) f' = { s with fs := f' :: rest } := by
  subst hn
  unfold MS.put
  rw [e]
  simp [List.set_append]
theorem MS.put_snd {n : Nat} {b' : Frame} (e : s.fs = f :: b :: rest) (hn : n = s.fs.length) : s.put (n - 2) b' = { s with fs := f :: b' :: rest } := by
  subst hn
  unfold MS.put
  rw [e]
  simp [List.set_append]
theorem MS.get_snd {n : Nat} (e : s.fs = f :: b :: rest) (hn : n = s.fs.length) : s.fs.reverse[n - 2]? = some b := by
  subst hn
  rw [e]
  simp [List.getElem?_append]
end
theorem own64 {w : World} {e : TypeId} {F : List Nat} {v : Value} {l : List Int} (h : OwnSl intR w e F v l) : ∀ x, x ∈ l → I64 x := by
  intro x hx
  obtain ⟨A, n, c, rfl, hn⟩ := h.form
  obtain ⟨i, hi, rfl⟩ := List.getElem_of_mem hx
  obtain ⟨b, o, _, _, _, _, h1⟩ := h.sl.int_at (k := i) (by omega)
  exact h1
/-- Eleven cells. -/
structure FC (w : World) (X : Nat) (v0 v1 v2 v3 v4 v5 v6 v7 v8 v9 v10 : Value) : Prop where
  c0 : w.cell? ⟨X, 0, none⟩ = some v0
  c1 : w.cell? ⟨X, 1, none⟩ = some v1
  c2 : w.cell? ⟨X, 2, none⟩ = some v2
  c3 : w.cell? ⟨X, 3, none⟩ = some v3
  c4 : w.cell? ⟨X, 4, none⟩ = some v4
  c5 : w.cell? ⟨X, 5, none⟩ = some v5
  c6 : w.cell? ⟨X, 6, none⟩ = some v6
  c7 : w.cell? ⟨X, 7, none⟩ = some v7
  c8 : w.cell? ⟨X, 8, none⟩ = some v8
  c9 : w.cell? ⟨X, 9, none⟩ = some v9
  c10 : w.cell? ⟨X, 10, none⟩ = some v10
theorem FC.lt {w : World} {X : Nat} {v0 v1 v2 v3 v4 v5 v6 v7 v8 v9 v10 : Value} (h : FC w X v0 v1 v2 v3 v4 v5 v6 v7 v8 v9 v10) : X < w.heap.size := World.block_lt_of_cell? w _ h.c0
theorem FC.keep {w w' : World} {X : Nat} {v0 v1 v2 v3 v4 v5 v6 v7 v8 v9 v10 : Value} (h : FC w X v0 v1 v2 v3 v4 v5 v6 v7 v8 v9 v10) (hk : w'.heap[X]? = w.heap[X]?) : FC w' X v0 v1 v2 v3 v4 v5 v6 v7 v8 v9 v10 := by
  have c := fun o v (h : w.cell? ⟨X, o, none⟩ = some v) => (World.cell?_of_block (a := ⟨X, o, none⟩) hk).trans h
  exact ⟨c _ _ h.c0, c _ _ h.c1, c _ _ h.c2, c _ _ h.c3, c _ _ h.c4, c _ _ h.c5, c _ _ h.c6, c _ _ h.c7, c _ _ h.c8, c _ _ h.c9, c _ _ h.c10⟩
/-- A new frame in a box. -/
def FBox (B : Nat) (w : World) (X : Nat) (k fn : Int) (gl : List Int) (n m : Nat) (b : Bool) : Prop :=
  ∃ A4 n4 c4 A5 n5 c5, FC w X (.int .i64 k) (.int .i64 fn) (.int .i64 0) (.slice none 0 0) (.slice A4 n4 c4) (.slice A5 n5 c5) (.int .i64 0) (.int .i64 0) (.int .i64 0) (.int .i64 1) (.bool b) ∧
    FrRows w B (.slice A4 n4 c4) (.slice A5 n5 c5) (gl ++ List.replicate (n - gl.length) 0) (List.replicate m false) ∧ B ≤ X
/-- A new frame, its code by number. -/
theorem implNewFr (w : World) (lo hi glo ghi : Nat) (Ag : Option Addr) (kg cg : Nat) (gl : List Int) (hgv : Sl intR w glo ghi Ag kg cg gl) (hgh : ghi ≤ w.heap.size) (A : Option Addr) (n c : Nat) (x : List Code) (k : Int) (j : Nat) (b : Bool) (h : Sl CodeR w lo hi A n c x) (hh : hi ≤ w.heap.size) (hj : j < x.length) (hz : codeSz (codeD x (j : Int)) = true) (hkm : kg ≤ (codeD x (j : Int)).2.1.toNat) :
    Calls Tryz.prog 49 #[.agg #[.slice A n c], .int .i64 k, .int .i64 j, .slice Ag kg cg, .bool b] w (RetFrG k j gl (codeD x (j : Int)).2.1.toNat (codeD x (j : Int)).2.2.1.length b w) := by
  rw [codeD_at hj] at hz hkm ⊢
  exact implNewFrame w lo hi glo ghi Ag kg cg gl hgv hgh A n c x k j b h hh (by have := h.lenEq; omega) hz hkm
theorem Tryz.infoFrameG : (Tryz.prog.info? 74).map (fun i => (i.zero, i.size, i.bytes)) = some (some (.agg #[.int .i64 0, .int .i64 0, .int .i64 0, .slice none 0 0, .slice none 0 0, .slice none 0 0, .int .i64 0, .int .i64 0, .int .i64 0, .int .i64 0, .bool false]), 11, 136) := by kernel_rfl
/-- A frame more on the frames' slice: a step of a drawn region. -/
theorem step_frm {ops : Array Oper} {o : Oper} {a : Act} {w : World} {K : Act → World → Prop} {Q : Exit → Act → World → Prop} {E : Prop} (hgd : o.guard = none) (s x : Operand)
    (ho : o.op = .call { callee := .builtin .append, args := #[s, x], argTypes := #[27, 27] })
    (vf : Value) (n : Nat) (xs : List Value) (hs : a.eval s = vf) (hown : w.ownsRow 0 74 11 vf n xs) (X : Nat) (cs : List Value) (t : TypeId) (hx : a.eval x = .slice (some ⟨X, 0, none⟩) 1 1) (hX : w.heap[X]? = some (.cells cs.toArray t)) (hl : cs.length = 11) (h1 : ∀ u ∈ cs, u.oneCell' = true) (hn : n ≤ 1000000)
    (h : ∀ Av nv cv wk, Hid (wk.ownsRow 0 74 11 (.slice Av nv cv) (n + 1) (xs ++ cs)) → Hid (w.grownBy wk vf.ownBlock) → Hid ((Value.slice Av nv cv).ownBlock = vf.ownBlock ∨ (Value.slice Av nv cv).ownBlock = some w.heap.size) → K (a.put o.dst (.slice Av nv cv)) wk) :
    if Region.wanted o (yielded ops a.tmps) = true then Oper.wp Tryz.prog o a w K Q else E := by
  obtain ⟨inf, hif, hz0, hz1, hz2⟩ := info_parts Tryz.infoFrameG
  refine step_append_src w hgd s x _ ho 0 74 inf _ 11 136 Tryz.underlying27 hif hz0 hz1 hz2 rfl (by decide) vf n xs hs hown (some ⟨X, 0, none⟩) 1 1 cs hx ⟨by rw [hl], (fun h => by cases h), fun ad e j u hu => ?_⟩ h1 (by unfold maxLen; omega) (by omega) (Nat.zero_le _) ?_
  · injection e with e
    subst e
    exact World.news_of_block (fr := (0, 0)) hX j u (by simpa using hu)
  · intro v' w' h2 h3 h4
    obtain ⟨A, m, c, rfl⟩ := slice_form h2
    exact h A m c w' (Lib.hid h2) (Lib.hid h3) (Lib.hid h4)
/-- One frame's slice is built: a step of a drawn region. -/
theorem step_box {ops : Array Oper} {o : Oper} {a : Act} {w : World} {K : Act → World → Prop} {Q : Exit → Act → World → Prop} {E : Prop} (hgd : o.guard = none) (x : Operand)
    (ho : o.op = .buildSlice 27 1 #[(0, x)]) (x0 x1 x2 x6 x7 x8 x9 : Int) (A3 A4 A5 : Option Addr) (n3 c3 n4 c4 n5 c5 : Nat) (b : Bool) (hx : a.eval x = .agg #[.int .i64 x0, .int .i64 x1, .int .i64 x2, .slice A3 n3 c3, .slice A4 n4 c4, .slice A5 n5 c5, .int .i64 x6, .int .i64 x7, .int .i64 x8, .int .i64 x9, .bool b])
    (h : K (a.put o.dst (.slice (some ⟨w.heap.size, 0, none⟩) 1 1)) (w.alloc (.cells #[.int .i64 x0, .int .i64 x1, .int .i64 x2, .slice A3 n3 c3, .slice A4 n4 c4, .slice A5 n5 c5, .int .i64 x6, .int .i64 x7, .int .i64 x8, .int .i64 x9, .bool b] 74))) :
    if Region.wanted o (yielded ops a.tmps) = true then Oper.wp Tryz.prog o a w K Q else E := by
  have hw : Region.wanted o (yielded ops a.tmps) = true := by simp [Region.wanted, hgd]
  rw [if_pos hw]
  unfold Oper.wp execOp
  simp only [ho, hx, List.map_toArray, List.map_cons, List.map_nil]
  go_simp
  exact h
theorem fr_nodup {v4 v5 : Value} (h : ∀ g, v4.ownBlock = some g → v5.ownBlock = some g → False) : ([] ++ (v4.ownBlock.toList ++ v5.ownBlock.toList)).Nodup := by
  rw [List.nil_append, List.nodup_append]
  refine ⟨by cases v4.ownBlock <;> simp, by cases v5.ownBlock <;> simp, fun a ha b hb e => ?_⟩
  subst e
  exact h a (by simpa using ha) (by simpa using hb)
theorem frCells_one (f : Frame) (A3 A4 A5 : Option Addr) (n3 n4 n5 c3 c4 c5 : Nat) : ∀ u ∈ frCells f (.slice A3 n3 c3) (.slice A4 n4 c4) (.slice A5 n5 c5), u.oneCell' = true := by
  intro u hu
  simp only [frCells, List.mem_cons, List.mem_nil_iff, or_false] at hu
  rcases hu with rfl | rfl | rfl | rfl | rfl | rfl | rfl | rfl | rfl | rfl | rfl <;> rfl
/-- The call tells a bool; the machine is as told. -/
def RetCall (C : Cfg) (s : MS) (b : Bool) (w : World) (e : Ending) (w' : World) : Prop := e = .returned (.bool b) ∧ ∃ vf, MM C w' vf s ∧ Apart C w w'
set_option maxHeartbeats 4000000 in
theorem implCall (C : Cfg) (w : World) (vf : Value) (s : MS) (f : Frame) (rest : List Frame) (fn : Nat) (k : Nat) (off : Bool) (h : MM C w vf s) (hfs : s.fs = f :: rest) (h1 : s.fs.length ≤ 1000000) (hp : (fPile f).length ≤ 1000000) (hk : k ≤ (fPile f).length)
    (hfn : fn < C.x.length) (hz : codeSz (codeD C.x (fn : Int)) = true) (hkv : k ≤ (codeD C.x (fn : Int)).2.1.toNat) (hm : 0 ≤ s.made ∧ s.made ≤ 1000000) :
    Calls Tryz.prog 56 #[.pointer (some ⟨C.M, 0, none⟩), .int .i64 fn, .int .i64 k, .bool off] w (RetCall C (callM C.x C.most s f rest fn k off) (decide ((s.fs.length : Int) < C.most)) w) := by
  obtain ⟨g, n, c, rfl, hn, h0, hnc, hcm, hj⟩ := h.opens hfs
  obtain ⟨vt, vn, mv⟩ := h.mv
  have c3 := mv.m3
  have c2 := mv.m2
  have fz6 := mv.fz 6
  have c6 := mv.m6
  have hM := mv.lt
  by_cases hle : C.most ≤ (n : Int)
  · have e1 : callM C.x C.most s f rest fn k off = { s with code := 4 } := by unfold callM; rw [if_pos (by omega)]
    have e2 : decide ((s.fs.length : Int) < C.most) = false := decide_eq_false (by omega)
    rw [e1, e2]
    have H := Lib.hid h
    have hd : decide ((n : Int) ≥ C.most) = true := decide_eq_true hle
    clear h hfs hj hn e1 e2 mv
    go_enter Tryz.func56, Tryz.ntmps56
    go_wp2_with fail
    go_quiet (fail)
    have h2 := H.out.drewN nq
    obtain ⟨_, _, mq⟩ := h2.mv
    have fzq := mq.fz 6
    have h3 := h2.setCode 4
    have H3 := Lib.hid h3
    have H4 := Lib.hid (show Apart C w ((w.drewN nq).setCell ⟨C.M, 6, none⟩ (.int .i64 4)) from fun k hk => heap_setCell_ne _ _ _ (H.out.apM hk).2)
    clear mq h2 h3
    go_wp2_with fail
    go_ret
    exact ⟨rfl, _, H3.out, H4.out⟩
  · have e2 : decide ((s.fs.length : Int) < C.most) = true := decide_eq_true (by omega)
    rw [e2]
    have H := Lib.hid h
    have hd : decide ((n : Int) ≥ C.most) = false := decide_eq_false hle
    obtain ⟨v3, v4, v5, F3, F4, F5, pre, post, ho⟩ := h.opg hj
    obtain ⟨A3, n3, c3', rfl, hl⟩ := ho.o3.form
    have hA3 : (A3 = none ∧ n3 = 0 ∧ c3' = 0) ∨ ∃ g3, A3 = some ⟨g3, 0, none⟩ := by
      obtain ⟨_, hx', _, _⟩ := ho.o3.row'
      obtain ⟨_, ⟨h0', hz0⟩ | ⟨g3, e3, q3, q4⟩⟩ := ownsRow_cases hx'
      · refine Or.inl ⟨h0', ?_, ?_⟩ <;> first | omega | (simp_all)
      · exact Or.inr ⟨g3, e3⟩
    have fv := ho.fv
    have r3 := fv.c3
    have hg := fv.lt
    have HP64 := Lib.hid (own64 ho.o3)
    have HGM := Lib.hid fv.gM
    have hsl := ho.o3.sl
    have hsl3 : n3 ≤ c3' := hsl.2.1
    have hsl4 := hsl.2.2.1
    unfold maxLen at hsl4
    obtain ⟨hx, _, hB⟩ := h.xs
    have hxl := hx.lenEq
    have m0 := mv.m0
    have m8 := mv.m8
    have m3 := mv.m3
    have HL := Lib.hid hl
    have HI64 := Lib.hid (show ∀ q, q ∈ ((fPile f).drop (n3 - k)) ++ List.replicate ((codeD C.x (fn : Int)).2.1.toNat - ((fPile f).drop (n3 - k)).length) 0 → I64 q from fun q hq => by
      rcases List.mem_append.1 hq with hq | hq
      · exact HP64.out q (List.mem_of_mem_drop hq)
      · rw [(List.mem_replicate.1 hq).2]; unfold I64; omega)
    have HFI := Lib.hid (show FrI (newFrm C.x s.made (fn : Int) ((fPile f).drop (n3 - k)) off) from by
      have : fn ≤ 9223372036854775807 := by have := hx.lenLe; omega
      refine ⟨?_, ?_, ?_, ?_, ?_, ?_, ?_⟩ <;> simp only [newFrm, resOf, modeOf, valOf, baseOf] <;> unfold I64 <;> omega)
    have e3 : ((n3 : Int) - (k : Int)) = ((n3 - k : Nat) : Int) := by omega
    have e4 : n3 - k ≤ n3 := by omega
    have hn1 : n ≤ 1000000 := by omega
    have hk3 : k ≤ n3 := by omega
    have h31 : n3 ≤ 1000000 := by omega
    have HN := Lib.hid hn
    have HFS := Lib.hid hfs
    have HJ := Lib.hid hj
    clear fv mv hl h ho hn hfs hj e2 hk hp h1
    go_enter Tryz.func56, Tryz.ntmps56
    go_wp2_with fail
    go_quiet (fail)
    go_wp2_with fail
    refine (implTop C _ g n c s (H.out.drewN nq) h0 hn1 hnc hcm).mono ?_
    rintro e w1 ⟨rfl, k1, rfl⟩
    obtain ⟨W, hW⟩ : ∃ W, W = (w.drewN nq).drewN k1 := ⟨_, rfl⟩
    have hbW : Below w.heap.size w W := by rw [hW]; exact belA
    rw [← hW]
    clear hW
    have hS := Lib.hid (show ∀ V', Below w.heap.size w V' → V'.cell? ⟨C.M, 0, none⟩ = some (.slice C.ax C.nx C.cx) ∧ V'.cell? ⟨C.M, 8, none⟩ = some (.int .i64 s.made) ∧ V'.cell? ⟨g, (n - 1) * 11 + 3, none⟩ = some (.slice A3 n3 c3') from fun V' hV => ⟨below_cell hV m0, below_cell hV m8, below_cell hV r3⟩)
    obtain ⟨q0, q1, q2⟩ := hS.out W hbW
    go_wp2_with fail
    go_cut [11] (fun v wx => ∃ X, v = .pointer (some ⟨X, 0, none⟩) ∧ FBox W.heap.size wx X s.made fn ((fPile f).drop (n3 - k)) (codeD C.x (fn : Int)).2.1.toNat (codeD C.x (fn : Int)).2.2.1.length off ∧ Below W.heap.size W wx)
    case first =>
      have hzW := hbW.size
      clear m0 m8 m3 r3
      rcases hA3 with ⟨rfl, rfl, rfl⟩ | ⟨g3, rfl⟩
      · obtain rfl : k = 0 := by omega
        have hG : Sl intR w 0 w.heap.size none 0 0 ((fPile f).drop (0 - 0)) := hsl.more (Nat.le_refl _) (Nat.le_refl _)
        go_region_held3 (fun V' => V'.cell? ⟨C.M, 0, none⟩ = some (.slice C.ax C.nx C.cx) ∧ V'.cell? ⟨C.M, 8, none⟩ = some (.int .i64 s.made) ∧ V'.cell? ⟨g, (n - 1) * 11 + 3, none⟩ = some (.slice none 0 0)) (exact hS.out _ (show Below w.heap.size w _ by exact beloA))
          (first | (go_at_call 49; ((with_reducible refine (implNewFr _ 0 C.B 0 w.heap.size _ _ _ _ (hG.below (show Below w.heap.size w _ by exact beloA) (Nat.le_refl _)) (by first | omega | (simp; done) | (simp; omega)) C.ax C.nx C.cx C.x s.made fn off (hx.below (show Below w.heap.size w _ by exact beloA) hB) (by first | omega | (simp; done) | (simp; omega)) hfn hz (by omega)).mono ?_); rintro e w5 ⟨A4, n4, c4, A5, n5, c5, rfl, hrows, hb5⟩; have bb : Below W.heap.size W w5 := (by exact beloA); have z5 := bb.size; have z6 := hb5.size; (first | (have xa := below_at hb5 (by simp) (alloc_new' (w := W.drew) (X := W.heap.size) rfl); obtain ⟨u0, u1, u2, u3, u4, u5, u6, u7, u8, u9, u10⟩ := ele_cells xa; have xf := blk_frozen xa; have xz := blk_size xa) | skip))))
        · go_wp2_with fail
          go_meet
          case rel => exact ⟨_, rfl, ⟨A4, n4, c4, A5, n5, c5, ⟨by simp [go_sem], by simp [go_sem], by simp [go_sem], by simp [go_sem], by simp [go_sem], by simp [go_sem], by simp [go_sem], by simp [go_sem], by simp [go_sem], by simp [go_sem], by simp [go_sem]⟩, (hrows.fr (G := []) (Fr.alloc (Fr.refl _ _) _) (by simp)).mono (by simp), z5⟩, by exact beloA⟩
        · go_wp2_with fail
          go_meet
          case rel => exact ⟨_, rfl, ⟨A4, n4, c4, A5, n5, c5, ⟨by simp [go_sem, u0, u1, u2, u3, u4, u5, u6, u7, u8, u9, u10, xf, xz], by simp [go_sem, u0, u1, u2, u3, u4, u5, u6, u7, u8, u9, u10, xf, xz], by simp [go_sem, u0, u1, u2, u3, u4, u5, u6, u7, u8, u9, u10, xf, xz], by simp [go_sem, u0, u1, u2, u3, u4, u5, u6, u7, u8, u9, u10, xf, xz], by simp [go_sem, u0, u1, u2, u3, u4, u5, u6, u7, u8, u9, u10, xf, xz], by simp [go_sem, u0, u1, u2, u3, u4, u5, u6, u7, u8, u9, u10, xf, xz], by simp [go_sem, u0, u1, u2, u3, u4, u5, u6, u7, u8, u9, u10, xf, xz], by simp [go_sem, u0, u1, u2, u3, u4, u5, u6, u7, u8, u9, u10, xf, xz], by simp [go_sem, u0, u1, u2, u3, u4, u5, u6, u7, u8, u9, u10, xf, xz], by simp [go_sem, u0, u1, u2, u3, u4, u5, u6, u7, u8, u9, u10, xf, xz], by simp [go_sem, u0, u1, u2, u3, u4, u5, u6, u7, u8, u9, u10, xf, xz]⟩, (hrows.fr (G := [W.heap.size]) (by exact frcA) (by simp)).mono (by simp), Nat.le_refl _⟩, by exact beloA⟩
      · by_cases hc : c3' = n3 - k
        · obtain rfl : k = 0 := by omega
          obtain rfl : c3' = n3 := by omega
          have hG : Sl intR w 0 w.heap.size (some ⟨g3, 0, none⟩) 0 0 ((fPile f).drop (c3' - 0)) := by
            have := hsl.from_ c3' (Nat.le_refl _) (A := some ⟨g3, 0, none⟩) (fun h => absurd h (Nat.lt_irrefl _))
            rwa [Nat.sub_self] at this
          clear hc e3 e4 hsl3 hsl4
          go_region_held3 (fun V' => V'.cell? ⟨C.M, 0, none⟩ = some (.slice C.ax C.nx C.cx) ∧ V'.cell? ⟨C.M, 8, none⟩ = some (.int .i64 s.made) ∧ V'.cell? ⟨g, (n - 1) * 11 + 3, none⟩ = some (.slice (some ⟨g3, 0, none⟩) c3' c3')) (exact hS.out _ (show Below w.heap.size w _ by exact beloA))
            (first | (go_at_call 49; ((with_reducible refine (implNewFr _ 0 C.B 0 w.heap.size _ _ _ _ (hG.below (show Below w.heap.size w _ by exact beloA) (Nat.le_refl _)) (by first | omega | (simp; done) | (simp; omega)) C.ax C.nx C.cx C.x s.made fn off (hx.below (show Below w.heap.size w _ by exact beloA) hB) (by first | omega | (simp; done) | (simp; omega)) hfn hz (by omega)).mono ?_); rintro e w5 ⟨A4, n4, c4, A5, n5, c5, rfl, hrows, hb5⟩; have bb : Below W.heap.size W w5 := (by exact beloA); have z5 := bb.size; have z6 := hb5.size; (first | (have xa := below_at hb5 (by simp) (alloc_new' (w := W.drew) (X := W.heap.size) rfl); obtain ⟨u0, u1, u2, u3, u4, u5, u6, u7, u8, u9, u10⟩ := ele_cells xa; have xf := blk_frozen xa; have xz := blk_size xa) | skip))))
          · go_wp2_with fail
            go_meet
            case rel => exact ⟨_, rfl, ⟨A4, n4, c4, A5, n5, c5, ⟨by simp [go_sem], by simp [go_sem], by simp [go_sem], by simp [go_sem], by simp [go_sem], by simp [go_sem], by simp [go_sem], by simp [go_sem], by simp [go_sem], by simp [go_sem], by simp [go_sem]⟩, (hrows.fr (G := []) (Fr.alloc (Fr.refl _ _) _) (by simp)).mono (by simp), z5⟩, by exact beloA⟩
          · go_wp2_with fail
            go_meet
            case rel => exact ⟨_, rfl, ⟨A4, n4, c4, A5, n5, c5, ⟨by simp [go_sem, u0, u1, u2, u3, u4, u5, u6, u7, u8, u9, u10, xf, xz], by simp [go_sem, u0, u1, u2, u3, u4, u5, u6, u7, u8, u9, u10, xf, xz], by simp [go_sem, u0, u1, u2, u3, u4, u5, u6, u7, u8, u9, u10, xf, xz], by simp [go_sem, u0, u1, u2, u3, u4, u5, u6, u7, u8, u9, u10, xf, xz], by simp [go_sem, u0, u1, u2, u3, u4, u5, u6, u7, u8, u9, u10, xf, xz], by simp [go_sem, u0, u1, u2, u3, u4, u5, u6, u7, u8, u9, u10, xf, xz], by simp [go_sem, u0, u1, u2, u3, u4, u5, u6, u7, u8, u9, u10, xf, xz], by simp [go_sem, u0, u1, u2, u3, u4, u5, u6, u7, u8, u9, u10, xf, xz], by simp [go_sem, u0, u1, u2, u3, u4, u5, u6, u7, u8, u9, u10, xf, xz], by simp [go_sem, u0, u1, u2, u3, u4, u5, u6, u7, u8, u9, u10, xf, xz], by simp [go_sem, u0, u1, u2, u3, u4, u5, u6, u7, u8, u9, u10, xf, xz]⟩, (hrows.fr (G := [W.heap.size]) (by exact frcA) (by simp)).mono (by simp), Nat.le_refl _⟩, by exact beloA⟩
        · have hG : Sl intR w 0 w.heap.size (some ⟨g3, n3 - k, none⟩) (n3 - (n3 - k)) (c3' - (n3 - k)) ((fPile f).drop (n3 - k)) := hsl.from_ (n3 - k) e4 (fun hlt => by simp [intR, flatR])
          go_region_held3 (fun V' => V'.cell? ⟨C.M, 0, none⟩ = some (.slice C.ax C.nx C.cx) ∧ V'.cell? ⟨C.M, 8, none⟩ = some (.int .i64 s.made) ∧ V'.cell? ⟨g, (n - 1) * 11 + 3, none⟩ = some (.slice (some ⟨g3, 0, none⟩) n3 c3')) (exact hS.out _ (show Below w.heap.size w _ by exact beloA))
            (first | (go_at_call 49; ((with_reducible refine (implNewFr _ 0 C.B 0 w.heap.size _ _ _ _ (hG.below (show Below w.heap.size w _ by exact beloA) (Nat.le_refl _)) (by first | omega | (simp; done) | (simp; omega)) C.ax C.nx C.cx C.x s.made fn off (hx.below (show Below w.heap.size w _ by exact beloA) hB) (by first | omega | (simp; done) | (simp; omega)) hfn hz (by omega)).mono ?_); rintro e w5 ⟨A4, n4, c4, A5, n5, c5, rfl, hrows, hb5⟩; have bb : Below W.heap.size W w5 := (by exact beloA); have z5 := bb.size; have z6 := hb5.size; (first | (have xa := below_at hb5 (by simp) (alloc_new' (w := W.drew) (X := W.heap.size) rfl); obtain ⟨u0, u1, u2, u3, u4, u5, u6, u7, u8, u9, u10⟩ := ele_cells xa; have xf := blk_frozen xa; have xz := blk_size xa) | skip))))
          · go_wp2_with fail
            go_meet
            case rel => exact ⟨_, rfl, ⟨A4, n4, c4, A5, n5, c5, ⟨by simp [go_sem], by simp [go_sem], by simp [go_sem], by simp [go_sem], by simp [go_sem], by simp [go_sem], by simp [go_sem], by simp [go_sem], by simp [go_sem], by simp [go_sem], by simp [go_sem]⟩, (hrows.fr (G := []) (Fr.alloc (Fr.refl _ _) _) (by simp)).mono (by simp), z5⟩, by exact beloA⟩
          · go_wp2_with fail
            go_meet
            case rel => exact ⟨_, rfl, ⟨A4, n4, c4, A5, n5, c5, ⟨by simp [go_sem, u0, u1, u2, u3, u4, u5, u6, u7, u8, u9, u10, xf, xz], by simp [go_sem, u0, u1, u2, u3, u4, u5, u6, u7, u8, u9, u10, xf, xz], by simp [go_sem, u0, u1, u2, u3, u4, u5, u6, u7, u8, u9, u10, xf, xz], by simp [go_sem, u0, u1, u2, u3, u4, u5, u6, u7, u8, u9, u10, xf, xz], by simp [go_sem, u0, u1, u2, u3, u4, u5, u6, u7, u8, u9, u10, xf, xz], by simp [go_sem, u0, u1, u2, u3, u4, u5, u6, u7, u8, u9, u10, xf, xz], by simp [go_sem, u0, u1, u2, u3, u4, u5, u6, u7, u8, u9, u10, xf, xz], by simp [go_sem, u0, u1, u2, u3, u4, u5, u6, u7, u8, u9, u10, xf, xz], by simp [go_sem, u0, u1, u2, u3, u4, u5, u6, u7, u8, u9, u10, xf, xz], by simp [go_sem, u0, u1, u2, u3, u4, u5, u6, u7, u8, u9, u10, xf, xz], by simp [go_sem, u0, u1, u2, u3, u4, u5, u6, u7, u8, u9, u10, xf, xz]⟩, (hrows.fr (G := [W.heap.size]) (by exact frcA) (by simp)).mono (by simp), Nat.le_refl _⟩, by exact beloA⟩
    case rest =>
     as_aux_lemma =>
      obtain ⟨X, rfl, ⟨A4, n4, c4, A5, n5, c5, hFC, hrows, hBX⟩, hbc⟩ := hcut
      have hzW := hbW.size
      have hgX : g ≠ X := by omega
      have hMX : C.M ≠ X := by omega
      have hXl := hFC.lt
      have hD0 := hrows
      have hM1 : MM { C with D := ([] ++ ((Value.slice A4 n4 c4).ownBlock.toList ++ (Value.slice A5 n5 c5).ownBlock.toList)) ++ C.D } wc (.slice (some ⟨g, 0, none⟩) n c) s := (H.out.keep hbW).apart hbc (fun k hk => by
        simp only [List.nil_append, List.mem_append, Option.mem_toList] at hk
        rcases hk with hk | hk
        · exact World.ownsRow.lt hrows.1 k hk
        · exact World.ownsRow.lt hrows.2.1 k hk)
      have HR := Lib.hid hrows
      have HDX := Lib.hid (show ∀ q, q ∈ C.D → q ∉ ([] ++ ((Value.slice A4 n4 c4).ownBlock.toList ++ (Value.slice A5 n5 c5).ownBlock.toList)) from fun q hq hm => by
        have h1 := (H.out.apM hq).1
        simp only [List.nil_append, List.mem_append, Option.mem_toList] at hm
        rcases hm with hm | hm
        · have := (World.ownsRow.lt hrows.1 q hm).1; omega
        · have := (World.ownsRow.lt hrows.2.1 q hm).1; omega)
      have HBX := Lib.hid (show ∀ q, q ∈ ([] ++ ((Value.slice A4 n4 c4).ownBlock.toList ++ (Value.slice A5 n5 c5).ownBlock.toList)) → C.B ≤ q from fun q hm => by
        simp only [List.nil_append, List.mem_append, Option.mem_toList] at hm
        rcases hm with hm | hm
        · have := (World.ownsRow.lt hrows.1 q hm).1; omega
        · have := (World.ownsRow.lt hrows.2.1 q hm).1; omega)
      have H1 := Lib.hid hM1
      obtain ⟨q0, q1, q2⟩ := hS.out wc (below_tr hbW (hbc.mono hzW))
      clear hD0 hrows hM1 m0 m8 m3 r3 c6 fz6 c2 c3
      obtain ⟨_, _, mv⟩ := H1.out.mv
      have fz3 := mv.fz 3
      have fz8 := mv.fz 8
      have c3 := mv.m3
      have hMc := mv.lt
      obtain ⟨_, _, _, _, _, _, _, _, ho⟩ := H1.out.opg HJ.out
      have fzg := ho.fv.fz ((n - 1) * 11 + 3)
      have hgc := ho.fv.lt
      clear ho mv
      rcases hA3 with ⟨rfl, rfl, rfl⟩ | ⟨g3, rfl⟩
      · obtain rfl : k = 0 := by omega
        have h2 := H1.out.setNil HJ.out (s.put_rev (n - 1) (fGo f f.2.2.1 ((fPile f).take (0 - 0))))
        have h3 := h2.setMade (s.made + 1)
        have H3 := Lib.hid h3
        clear h2 h3
        go_upto_region 9 with fail
        obtain ⟨V, hV⟩ : ∃ V, V = ((wc.setCell ⟨g, (n - 1) * 11 + 3, none⟩ (.slice none 0 0)).setCell ⟨C.M, 8, none⟩ (.int .i64 (s.made + 1))) := ⟨_, rfl⟩
        have hfV : Fr [g, C.M] wc V := by rw [hV]; exact frcA
        have hXV : V.heap[X]? = wc.heap[X]? := hfV.block X hXl (by simp; omega)
        have hFV := hFC.keep hXV
        have c3V : V.cell? ⟨C.M, 3, none⟩ = some (.slice (some ⟨g, 0, none⟩) n c) := by
          obtain ⟨_, _, mv3⟩ := H3.out.mv
          rw [hV]; exact mv3.m3
        have hS7 := Lib.hid (show ∀ V', Below V.heap.size V V' → V'.cell? ⟨C.M, 3, none⟩ = some (.slice (some ⟨g, 0, none⟩) n c) ∧ V'.cell? ⟨X, 0, none⟩ = some (.int .i64 s.made) ∧ V'.cell? ⟨X, 1, none⟩ = some (.int .i64 fn) ∧ V'.cell? ⟨X, 2, none⟩ = some (.int .i64 0) ∧ V'.cell? ⟨X, 3, none⟩ = some (.slice none 0 0) ∧ V'.cell? ⟨X, 4, none⟩ = some (.slice A4 n4 c4) ∧ V'.cell? ⟨X, 5, none⟩ = some (.slice A5 n5 c5) ∧ V'.cell? ⟨X, 6, none⟩ = some (.int .i64 0) ∧ V'.cell? ⟨X, 7, none⟩ = some (.int .i64 0) ∧ V'.cell? ⟨X, 8, none⟩ = some (.int .i64 0) ∧ V'.cell? ⟨X, 9, none⟩ = some (.int .i64 1) ∧ V'.cell? ⟨X, 10, none⟩ = some (.bool off) from fun V' hV' => by
          obtain ⟨y0, y1, y2, y3, y4, y5, y6, y7, y8, y9, y10⟩ := hFV
          exact ⟨below_cell hV' c3V, below_cell hV' y0, below_cell hV' y1, below_cell hV' y2, below_cell hV' y3, below_cell hV' y4, below_cell hV' y5, below_cell hV' y6, below_cell hV' y7, below_cell hV' y8, below_cell hV' y9, below_cell hV' y10⟩)
        rw [← hV] at H3 ⊢
        have hzV := hfV.size
        have hzc := hbc.size
        have HRV := Lib.hid (HR.out.fr hfV (by simp; omega))
        have HgM := Lib.hid (show ¬ g = C.M from HGM.out)
        have HAV := Lib.hid (show Apart C w V from fun q hq => (hfV.block q (by have := H.out.apM hq; omega) (fun hm => by
          simp only [List.mem_cons, List.mem_nil_iff, or_false] at hm
          rcases hm with rfl | rfl
          · exact H.out.apF hq rfl
          · exact (H.out.apM hq).2 rfl)).trans ((below_tr hbW (hbc.mono hzW)).block q (H.out.apM hq).1))
        clear hV q0 q1 q2 hFC hFV hXV fz8 fzg
        refine wp_region_noPanic ?_
        refine wp_region_cut (S := (fun V' => V'.cell? ⟨C.M, 3, none⟩ = some (.slice (some ⟨g, 0, none⟩) n c) ∧ V'.cell? ⟨X, 0, none⟩ = some (.int .i64 s.made) ∧ V'.cell? ⟨X, 1, none⟩ = some (.int .i64 fn) ∧ V'.cell? ⟨X, 2, none⟩ = some (.int .i64 0) ∧ V'.cell? ⟨X, 3, none⟩ = some (.slice none 0 0) ∧ V'.cell? ⟨X, 4, none⟩ = some (.slice A4 n4 c4) ∧ V'.cell? ⟨X, 5, none⟩ = some (.slice A5 n5 c5) ∧ V'.cell? ⟨X, 6, none⟩ = some (.int .i64 0) ∧ V'.cell? ⟨X, 7, none⟩ = some (.int .i64 0) ∧ V'.cell? ⟨X, 8, none⟩ = some (.int .i64 0) ∧ V'.cell? ⟨X, 9, none⟩ = some (.int .i64 1) ∧ V'.cell? ⟨X, 10, none⟩ = some (.bool off))) 12 (by kernel_rfl) (by kernel_rfl) (hS7.out _ (show Below V.heap.size V _ by exact beloA)) (fun hR0 => ?_)
        simp only [headOps, List.take_succ_cons, List.take_zero]
        refine takeH 0 ?_
        refine takeH 1 ?_
        refine takeH 2 ?_
        refine takeH 3 ?_
        refine takeH 4 ?_
        refine takeH 5 ?_
        refine takeH 6 ?_
        refine wpAnyH_ready (rs := [7]) (by kernel_rfl) (by simp) ?_
        refine AllReadyH.cons (i := 7) rfl (fun K hK => ?_) AllReadyH.nil
        refine step_box (by rfl) _ (by rfl) s.made fn 0 0 0 0 1 none A4 A5 0 0 n4 c4 n5 c5 off (by rfl) ?_
        refine hK.out _ _ (hS7.out _ (show Below V.heap.size V _ by exact beloA)) (fun hR7 => ?_)
        clear hK K
        try simp only [Act.put, List.getElem_toArray, List.getElem_cons_zero, List.getElem_cons_succ, List.setIfInBounds_toArray, List.set_cons_zero, List.set_cons_succ]
        refine wpAnyH_ready (rs := [8]) (by kernel_rfl) (by simp) ?_
        refine AllReadyH.cons (i := 8) rfl (fun K hK => ?_) AllReadyH.nil
        obtain ⟨VA, hVA⟩ : ∃ VA, VA = V.drew.alloc (.cells #[.int .i64 s.made, .int .i64 fn, .int .i64 0, .slice none 0 0, .slice A4 n4 c4, .slice A5 n5 c5, .int .i64 0, .int .i64 0, .int .i64 0, .int .i64 1, .bool off] 74) := ⟨_, rfl⟩
        have hbA : Below V.heap.size V VA := by rw [hVA]; exact belA
        have hXA : VA.heap[V.heap.size]? = some (.cells (frCells (newFrm C.x s.made (fn : Int) ((fPile f).drop (0 - 0)) off) (.slice none 0 0) (.slice A4 n4 c4) (.slice A5 n5 c5)).toArray 74) := by rw [hVA]; exact alloc_new' (w := V.drew) rfl
        have hszA : VA.heap.size = V.heap.size + 1 := by rw [hVA]; simp
        rw [← hVA]
        clear hVA
        have hA := H3.out.keep hbA
        obtain ⟨xs, hxs, hng, put⟩ := hA.framed (D := C.D) HDX.out HBX.out
        have HPUT := Lib.hid put
        have HL2 := Lib.hid (show (s.put (n - 1) (fGo f f.2.2.1 ((fPile f).take (0 - 0)))).fs.length = n from (MS.put_len ..).trans HN.out.symm)
        have hRA : FrRows VA W.heap.size (.slice A4 n4 c4) (.slice A5 n5 c5) (((fPile f).drop (0 - 0)) ++ List.replicate ((codeD C.x (fn : Int)).2.1.toNat - ((fPile f).drop (0 - 0)).length) 0) (List.replicate (codeD C.x (fn : Int)).2.2.1.length false) := HRV.out.fr (Fr.of_below (F := []) hbA) (by simp)
        have hOwn : FrameR.own VA ([] ++ ((Value.slice A4 n4 c4).ownBlock.toList ++ (Value.slice A5 n5 c5).ownBlock.toList)) (frCells (newFrm C.x s.made (fn : Int) ((fPile f).drop (0 - 0)) off) (.slice none 0 0) (.slice A4 n4 c4) (.slice A5 n5 c5)) (newFrm C.x s.made (fn : Int) ((fPile f).drop (0 - 0)) off) := own_frCells (OwnSl.nil_ ..) (own_ints hRA.1 HI64.out) (own_bools hRA.2.1) HFI.out (fr_nodup hRA.2.2)
        refine step_frm (by rfl) _ _ (by rfl) (.slice (some ⟨g, 0, none⟩) n c) n xs (by rfl) (Eq.mp (congrArg (fun q => VA.ownsRow 0 74 11 (.slice (some ⟨g, 0, none⟩) n c) q xs) HL2.out) hxs) V.heap.size (frCells (newFrm C.x s.made (fn : Int) ((fPile f).drop (0 - 0)) off) (.slice none 0 0) (.slice A4 n4 c4) (.slice A5 n5 c5)) _ (by rfl) hXA rfl (fun u hu => frCells_one _ _ _ _ _ _ _ _ _ _ u hu) hn1 ?_
        intro Av nv cv wk HO HG HBK
        have hgX' : g ≠ X := hgX
        have kM : wk.heap[C.M]? = VA.heap[C.M]? := HG.out.block C.M (by omega) (fun e => by simp [Value.ownBlock] at e; exact HgM.out e.symm)
        have kX : wk.heap[X]? = VA.heap[X]? := HG.out.block X (by omega) (fun e => by simp [Value.ownBlock] at e; exact hgX e.symm)
        have hS8 : wk.cell? ⟨C.M, 3, none⟩ = some (.slice (some ⟨g, 0, none⟩) n c) ∧ wk.cell? ⟨X, 0, none⟩ = some (.int .i64 s.made) ∧ wk.cell? ⟨X, 1, none⟩ = some (.int .i64 fn) ∧ wk.cell? ⟨X, 2, none⟩ = some (.int .i64 0) ∧ wk.cell? ⟨X, 3, none⟩ = some (.slice none 0 0) ∧ wk.cell? ⟨X, 4, none⟩ = some (.slice A4 n4 c4) ∧ wk.cell? ⟨X, 5, none⟩ = some (.slice A5 n5 c5) ∧ wk.cell? ⟨X, 6, none⟩ = some (.int .i64 0) ∧ wk.cell? ⟨X, 7, none⟩ = some (.int .i64 0) ∧ wk.cell? ⟨X, 8, none⟩ = some (.int .i64 0) ∧ wk.cell? ⟨X, 9, none⟩ = some (.int .i64 1) ∧ wk.cell? ⟨X, 10, none⟩ = some (.bool off) := by
          obtain ⟨z0, z1, z2, z3, z4, z5, z6, z7, z8, z9, z10, z11⟩ := hS7.out VA hbA
          have cM := fun o v (h : VA.cell? ⟨C.M, o, none⟩ = some v) => (World.cell?_of_block (a := ⟨C.M, o, none⟩) kM).trans h
          have cX := fun o v (h : VA.cell? ⟨X, o, none⟩ = some v) => (World.cell?_of_block (a := ⟨X, o, none⟩) kX).trans h
          exact ⟨cM _ _ z0, cX _ _ z1, cX _ _ z2, cX _ _ z3, cX _ _ z4, cX _ _ z5, cX _ _ z6, cX _ _ z7, cX _ _ z8, cX _ _ z9, cX _ _ z10, cX _ _ z11⟩
        have fzk : wk.frozen? ⟨C.M, 3, none⟩ = false := by
          rw [World.frozen?_of_block (a := ⟨C.M, 3, none⟩) kM]
          obtain ⟨_, _, mvA⟩ := hA.mv
          exact mvA.fz 3
        have hMk : C.M < wk.heap.size := by have := HG.out.size; omega
        have HOWN := Lib.hid hOwn
        have HAP := Lib.hid (show Apart C w wk from fun q hq => (HG.out.block q (by have := H.out.apM hq; omega) (fun e => by simp [Value.ownBlock] at e; exact H.out.apF hq (by simp [Value.ownBlock]; exact e.symm))).trans ((hbA.block q (by have := H.out.apM hq; omega)).trans (HAV.out q hq)))
        clear hA put hxs hng hRA hOwn kM kX hXA
        refine hK.out _ _ (hS8) (fun hR8 => ?_)
        clear hK K
        try simp only [Act.put, List.getElem_toArray, List.getElem_cons_zero, List.getElem_cons_succ, List.setIfInBounds_toArray, List.set_cons_zero, List.set_cons_succ]
        refine takeH 9 ?_
        refine takeH 10 ?_
        refine takeH 11 ?_
        refine wpAnyH_done (by kernel_rfl) ?_ _
        refine lastQ_op rfl (fun K hK => ?_)
        rw [if_pos (by rfl)]
        go_simp
        refine hK _ _ ?_
        clear hK K
        refine NoPanic.normal ?_
        go_wp2_with fail
        go_ret
        refine ⟨rfl, .slice Av nv cv, ?_, fun q hq => (heap_setCell_ne _ _ _ (H.out.apM hq).2).trans (HAP.out q hq)⟩
        have hE : callM C.x C.most s f rest (fn : Int) 0 off = { s with fs := newFrm C.x s.made (fn : Int) ((fPile f).drop (0 - 0)) off :: fGo f f.2.2.1 ((fPile f).take (0 - 0)) :: rest, made := s.made + 1 } := by
          unfold callM
          rw [if_neg (by have := HN.out; omega), ← HL.out]
        rw [hE]
        have hP := HPUT.out _ _ wk _ HOWN.out (by have := HL2.out; show wk.ownsRow 0 74 11 _ ((s.put (n - 1) (fGo f f.2.2.1 ((fPile f).take (0 - 0)))).fs.length + 1) _; rw [this]; exact HO.out) HG.out HBK.out
        rw [MS.put_top HFS.out HN.out] at hP
        exact hP
      · have h2 := H1.out.setCut HJ.out (m := n3 - k) q2 (by have := HL.out; omega) (s.put_rev (n - 1) (fGo f f.2.2.1 ((fPile f).take (n3 - k))))
        have h3 := h2.setMade (s.made + 1)
        have H3 := Lib.hid h3
        clear h2 h3
        go_upto_region 9 with fail
        obtain ⟨V, hV⟩ : ∃ V, V = ((wc.setCell ⟨g, (n - 1) * 11 + 3, none⟩ (.slice (some ⟨g3, 0, none⟩) (n3 - k) c3')).setCell ⟨C.M, 8, none⟩ (.int .i64 (s.made + 1))) := ⟨_, rfl⟩
        have hfV : Fr [g, C.M] wc V := by rw [hV]; exact frcA
        have hXV : V.heap[X]? = wc.heap[X]? := hfV.block X hXl (by simp; omega)
        have hFV := hFC.keep hXV
        have c3V : V.cell? ⟨C.M, 3, none⟩ = some (.slice (some ⟨g, 0, none⟩) n c) := by
          obtain ⟨_, _, mv3⟩ := H3.out.mv
          rw [hV]; exact mv3.m3
        have hS7 := Lib.hid (show ∀ V', Below V.heap.size V V' → V'.cell? ⟨C.M, 3, none⟩ = some (.slice (some ⟨g, 0, none⟩) n c) ∧ V'.cell? ⟨X, 0, none⟩ = some (.int .i64 s.made) ∧ V'.cell? ⟨X, 1, none⟩ = some (.int .i64 fn) ∧ V'.cell? ⟨X, 2, none⟩ = some (.int .i64 0) ∧ V'.cell? ⟨X, 3, none⟩ = some (.slice none 0 0) ∧ V'.cell? ⟨X, 4, none⟩ = some (.slice A4 n4 c4) ∧ V'.cell? ⟨X, 5, none⟩ = some (.slice A5 n5 c5) ∧ V'.cell? ⟨X, 6, none⟩ = some (.int .i64 0) ∧ V'.cell? ⟨X, 7, none⟩ = some (.int .i64 0) ∧ V'.cell? ⟨X, 8, none⟩ = some (.int .i64 0) ∧ V'.cell? ⟨X, 9, none⟩ = some (.int .i64 1) ∧ V'.cell? ⟨X, 10, none⟩ = some (.bool off) from fun V' hV' => by
          obtain ⟨y0, y1, y2, y3, y4, y5, y6, y7, y8, y9, y10⟩ := hFV
          exact ⟨below_cell hV' c3V, below_cell hV' y0, below_cell hV' y1, below_cell hV' y2, below_cell hV' y3, below_cell hV' y4, below_cell hV' y5, below_cell hV' y6, below_cell hV' y7, below_cell hV' y8, below_cell hV' y9, below_cell hV' y10⟩)
        rw [← hV] at H3 ⊢
        have hzV := hfV.size
        have hzc := hbc.size
        have HRV := Lib.hid (HR.out.fr hfV (by simp; omega))
        have HgM := Lib.hid (show ¬ g = C.M from HGM.out)
        have HAV := Lib.hid (show Apart C w V from fun q hq => (hfV.block q (by have := H.out.apM hq; omega) (fun hm => by
          simp only [List.mem_cons, List.mem_nil_iff, or_false] at hm
          rcases hm with rfl | rfl
          · exact H.out.apF hq rfl
          · exact (H.out.apM hq).2 rfl)).trans ((below_tr hbW (hbc.mono hzW)).block q (H.out.apM hq).1))
        clear hV q0 q1 q2 hFC hFV hXV fz8 fzg
        refine wp_region_noPanic ?_
        refine wp_region_cut (S := (fun V' => V'.cell? ⟨C.M, 3, none⟩ = some (.slice (some ⟨g, 0, none⟩) n c) ∧ V'.cell? ⟨X, 0, none⟩ = some (.int .i64 s.made) ∧ V'.cell? ⟨X, 1, none⟩ = some (.int .i64 fn) ∧ V'.cell? ⟨X, 2, none⟩ = some (.int .i64 0) ∧ V'.cell? ⟨X, 3, none⟩ = some (.slice none 0 0) ∧ V'.cell? ⟨X, 4, none⟩ = some (.slice A4 n4 c4) ∧ V'.cell? ⟨X, 5, none⟩ = some (.slice A5 n5 c5) ∧ V'.cell? ⟨X, 6, none⟩ = some (.int .i64 0) ∧ V'.cell? ⟨X, 7, none⟩ = some (.int .i64 0) ∧ V'.cell? ⟨X, 8, none⟩ = some (.int .i64 0) ∧ V'.cell? ⟨X, 9, none⟩ = some (.int .i64 1) ∧ V'.cell? ⟨X, 10, none⟩ = some (.bool off))) 12 (by kernel_rfl) (by kernel_rfl) (hS7.out _ (show Below V.heap.size V _ by exact beloA)) (fun hR0 => ?_)
        simp only [headOps, List.take_succ_cons, List.take_zero]
        refine takeH 0 ?_
        refine takeH 1 ?_
        refine takeH 2 ?_
        refine takeH 3 ?_
        refine takeH 4 ?_
        refine takeH 5 ?_
        refine takeH 6 ?_
        refine wpAnyH_ready (rs := [7]) (by kernel_rfl) (by simp) ?_
        refine AllReadyH.cons (i := 7) rfl (fun K hK => ?_) AllReadyH.nil
        refine step_box (by rfl) _ (by rfl) s.made fn 0 0 0 0 1 none A4 A5 0 0 n4 c4 n5 c5 off (by rfl) ?_
        refine hK.out _ _ (hS7.out _ (show Below V.heap.size V _ by exact beloA)) (fun hR7 => ?_)
        clear hK K
        try simp only [Act.put, List.getElem_toArray, List.getElem_cons_zero, List.getElem_cons_succ, List.setIfInBounds_toArray, List.set_cons_zero, List.set_cons_succ]
        refine wpAnyH_ready (rs := [8]) (by kernel_rfl) (by simp) ?_
        refine AllReadyH.cons (i := 8) rfl (fun K hK => ?_) AllReadyH.nil
        obtain ⟨VA, hVA⟩ : ∃ VA, VA = V.drew.alloc (.cells #[.int .i64 s.made, .int .i64 fn, .int .i64 0, .slice none 0 0, .slice A4 n4 c4, .slice A5 n5 c5, .int .i64 0, .int .i64 0, .int .i64 0, .int .i64 1, .bool off] 74) := ⟨_, rfl⟩
        have hbA : Below V.heap.size V VA := by rw [hVA]; exact belA
        have hXA : VA.heap[V.heap.size]? = some (.cells (frCells (newFrm C.x s.made (fn : Int) ((fPile f).drop (n3 - k)) off) (.slice none 0 0) (.slice A4 n4 c4) (.slice A5 n5 c5)).toArray 74) := by rw [hVA]; exact alloc_new' (w := V.drew) rfl
        have hszA : VA.heap.size = V.heap.size + 1 := by rw [hVA]; simp
        rw [← hVA]
        clear hVA
        have hA := H3.out.keep hbA
        obtain ⟨xs, hxs, hng, put⟩ := hA.framed (D := C.D) HDX.out HBX.out
        have HPUT := Lib.hid put
        have HL2 := Lib.hid (show (s.put (n - 1) (fGo f f.2.2.1 ((fPile f).take (n3 - k)))).fs.length = n from (MS.put_len ..).trans HN.out.symm)
        have hRA : FrRows VA W.heap.size (.slice A4 n4 c4) (.slice A5 n5 c5) (((fPile f).drop (n3 - k)) ++ List.replicate ((codeD C.x (fn : Int)).2.1.toNat - ((fPile f).drop (n3 - k)).length) 0) (List.replicate (codeD C.x (fn : Int)).2.2.1.length false) := HRV.out.fr (Fr.of_below (F := []) hbA) (by simp)
        have hOwn : FrameR.own VA ([] ++ ((Value.slice A4 n4 c4).ownBlock.toList ++ (Value.slice A5 n5 c5).ownBlock.toList)) (frCells (newFrm C.x s.made (fn : Int) ((fPile f).drop (n3 - k)) off) (.slice none 0 0) (.slice A4 n4 c4) (.slice A5 n5 c5)) (newFrm C.x s.made (fn : Int) ((fPile f).drop (n3 - k)) off) := own_frCells (OwnSl.nil_ ..) (own_ints hRA.1 HI64.out) (own_bools hRA.2.1) HFI.out (fr_nodup hRA.2.2)
        refine step_frm (by rfl) _ _ (by rfl) (.slice (some ⟨g, 0, none⟩) n c) n xs (by rfl) (Eq.mp (congrArg (fun q => VA.ownsRow 0 74 11 (.slice (some ⟨g, 0, none⟩) n c) q xs) HL2.out) hxs) V.heap.size (frCells (newFrm C.x s.made (fn : Int) ((fPile f).drop (n3 - k)) off) (.slice none 0 0) (.slice A4 n4 c4) (.slice A5 n5 c5)) _ (by rfl) hXA rfl (fun u hu => frCells_one _ _ _ _ _ _ _ _ _ _ u hu) hn1 ?_
        intro Av nv cv wk HO HG HBK
        have hgX' : g ≠ X := hgX
        have kM : wk.heap[C.M]? = VA.heap[C.M]? := HG.out.block C.M (by omega) (fun e => by simp [Value.ownBlock] at e; exact HgM.out e.symm)
        have kX : wk.heap[X]? = VA.heap[X]? := HG.out.block X (by omega) (fun e => by simp [Value.ownBlock] at e; exact hgX e.symm)
        have hS8 : wk.cell? ⟨C.M, 3, none⟩ = some (.slice (some ⟨g, 0, none⟩) n c) ∧ wk.cell? ⟨X, 0, none⟩ = some (.int .i64 s.made) ∧ wk.cell? ⟨X, 1, none⟩ = some (.int .i64 fn) ∧ wk.cell? ⟨X, 2, none⟩ = some (.int .i64 0) ∧ wk.cell? ⟨X, 3, none⟩ = some (.slice none 0 0) ∧ wk.cell? ⟨X, 4, none⟩ = some (.slice A4 n4 c4) ∧ wk.cell? ⟨X, 5, none⟩ = some (.slice A5 n5 c5) ∧ wk.cell? ⟨X, 6, none⟩ = some (.int .i64 0) ∧ wk.cell? ⟨X, 7, none⟩ = some (.int .i64 0) ∧ wk.cell? ⟨X, 8, none⟩ = some (.int .i64 0) ∧ wk.cell? ⟨X, 9, none⟩ = some (.int .i64 1) ∧ wk.cell? ⟨X, 10, none⟩ = some (.bool off) := by
          obtain ⟨z0, z1, z2, z3, z4, z5, z6, z7, z8, z9, z10, z11⟩ := hS7.out VA hbA
          have cM := fun o v (h : VA.cell? ⟨C.M, o, none⟩ = some v) => (World.cell?_of_block (a := ⟨C.M, o, none⟩) kM).trans h
          have cX := fun o v (h : VA.cell? ⟨X, o, none⟩ = some v) => (World.cell?_of_block (a := ⟨X, o, none⟩) kX).trans h
          exact ⟨cM _ _ z0, cX _ _ z1, cX _ _ z2, cX _ _ z3, cX _ _ z4, cX _ _ z5, cX _ _ z6, cX _ _ z7, cX _ _ z8, cX _ _ z9, cX _ _ z10, cX _ _ z11⟩
        have fzk : wk.frozen? ⟨C.M, 3, none⟩ = false := by
          rw [World.frozen?_of_block (a := ⟨C.M, 3, none⟩) kM]
          obtain ⟨_, _, mvA⟩ := hA.mv
          exact mvA.fz 3
        have hMk : C.M < wk.heap.size := by have := HG.out.size; omega
        have HOWN := Lib.hid hOwn
        have HAP := Lib.hid (show Apart C w wk from fun q hq => (HG.out.block q (by have := H.out.apM hq; omega) (fun e => by simp [Value.ownBlock] at e; exact H.out.apF hq (by simp [Value.ownBlock]; exact e.symm))).trans ((hbA.block q (by have := H.out.apM hq; omega)).trans (HAV.out q hq)))
        clear hA put hxs hng hRA hOwn kM kX hXA
        refine hK.out _ _ (hS8) (fun hR8 => ?_)
        clear hK K
        try simp only [Act.put, List.getElem_toArray, List.getElem_cons_zero, List.getElem_cons_succ, List.setIfInBounds_toArray, List.set_cons_zero, List.set_cons_succ]
        refine takeH 9 ?_
        refine takeH 10 ?_
        refine takeH 11 ?_
        refine wpAnyH_done (by kernel_rfl) ?_ _
        refine lastQ_op rfl (fun K hK => ?_)
        rw [if_pos (by rfl)]
        go_simp
        refine hK _ _ ?_
        clear hK K
        refine NoPanic.normal ?_
        go_wp2_with fail
        go_ret
        refine ⟨rfl, .slice Av nv cv, ?_, fun q hq => (heap_setCell_ne _ _ _ (H.out.apM hq).2).trans (HAP.out q hq)⟩
        have hE : callM C.x C.most s f rest (fn : Int) k off = { s with fs := newFrm C.x s.made (fn : Int) ((fPile f).drop (n3 - k)) off :: fGo f f.2.2.1 ((fPile f).take (n3 - k)) :: rest, made := s.made + 1 } := by
          unfold callM
          rw [if_neg (by have := HN.out; omega), ← HL.out]
        rw [hE]
        have hP := HPUT.out _ _ wk _ HOWN.out (by have := HL2.out; show wk.ownsRow 0 74 11 _ ((s.put (n - 1) (fGo f f.2.2.1 ((fPile f).take (n3 - k)))).fs.length + 1) _; rw [this]; exact HO.out) HG.out HBK.out
        rw [MS.put_top HFS.out HN.out] at hP
        exact hP
end Go.Proofs.YtgdeclmciflmpaaGreat

/- What a good machine's place gives a walk of its step. Plain law. -/
set_option linter.unusedVariables false
set_option linter.unusedSimpArgs false
set_option maxRecDepth 100000
namespace Go.Proofs.YtgdeclmciflmpaaGreat
open Go.RowKit
/-- A machine about to step. -/
structure Rdy (x : Image) (ins : List Int) (most : Int) (N : Nat) (s : MS) (f : Frame) (rest : List Frame) : Prop where
  hg : goodI x = true
  ok : MOk x ins N s
  hN : N ≤ 1000000
  c0 : s.code = 0
  fs : s.fs = f :: rest
  top : TopOk x f
  stk : StackOk x (frOff f) f.2.1 rest
  insm : ins.all small = true
  most : most ≤ 12
/-- What a frame's place gives: its code by number, its place, its row. -/
structure FrW (x : Image) (f : Frame) : Prop where
  fn : 0 ≤ f.2.1 ∧ f.2.1 < (x.length : Int)
  at_ : 0 ≤ f.2.2.1 ∧ f.2.2.1 < ((fCode x f).2.2.2.1.length : Int)
  xl : x.length ≤ 5
  sz : codeSz (fCode x f) = true
  il : (fCode x f).2.2.2.1.length ≤ 300
  rl : (fCode x f).2.2.2.2.length ≤ 300
  sl : (fCode x f).2.2.1.length ≤ 4
  vl : (f.2.2.2.2.1.length : Int) = (fCode x f).2.1 ∧ (fCode x f).2.1 ≤ 6
  fl : f.2.2.2.2.2.1.length = (fCode x f).2.2.1.length
  ps : (fPile f).all small = true
  vs : f.2.2.2.2.1.all small = true
  id : small f.1 = true
  rs : small (resOf f) = true
  md : 0 ≤ modeOf f ∧ modeOf f ≤ 3
  vo : small (valOf f) = true
  bs : baseOf f = 1 ∨ baseOf f = 3
section
variable {x : Image} {ins : List Int} {most : Int} {N : Nat} {s : MS} {f : Frame} {rest : List Frame}
theorem frW (hg : goodI x = true) (h : frB x f = true) : FrW x f := by
  have hf := frB_iff.1 h
  have hc := cd_ok hg hf.1
  have hz := codeSz_all hc.sz
  obtain ⟨h1, h2, h3, h4, h5, h6, h7, h8, h9, h10, h11⟩ := hf
  exact ⟨h1, h3, (sizedB_len (goodI_iff.1 hg).1).2, hc.sz, hz.2.2.2.1.2, hz.2.2.2.2.1, hz.2.2.1, ⟨h6, hz.2.1.2⟩, h7, h4, h5, h2, h8, h9, h10, h11⟩
theorem I64_of {n : Int} (h : small n = true) : I64 n := by have := small_iff.1 h; unfold I64; omega
/-- The row of a place that may raise. -/
theorem padW (hg : goodI x = true) (hb : frB x f = true) (hh : 0 ≤ hv (checkH x (fCode x f)) f.2.2.1) (hr : raisesB (fIns x f).1 = true) :
    (∃ r, r < (fCode x f).2.2.2.2.length ∧ idxW (inRow f.2.2.1) (fCode x f).2.2.2.2 = (r : Int)) ∧ I64 (padFr x f) := by
  obtain ⟨hc, p, hp, hpl⟩ := wait_pl hg hb hh
  obtain ⟨r, hrl, hi, hpd, hz⟩ := hpl.pad hr
  have hl := (codeSz_all hc.sz).2.2.2.1.2
  have e : padFr x f = padOf (fCode x f).2.2.2.2 (r : Int) := by unfold padFr; rw [hp, hi]
  refine ⟨⟨r, hrl, by rw [hp]; exact hi⟩, ?_⟩
  rw [e]
  unfold I64
  omega
theorem rowEnd (hg : goodI x = true) (hb : frB x f = true) : ∀ r, r ∈ (fCode x f).2.2.2.2 → 0 ≤ r.2.1 := by
  have hc := cd_ok hg (frB_iff.1 hb).1
  obtain ⟨_, _, hrw, _⟩ := codeF_0 hc.ok
  exact row_to hrw
theorem Rdy.fw (h : Rdy x ins most N s f rest) : FrW x f := frW h.hg h.top.1
theorem Rdy.pile (h : Rdy x ins most N s f rest) : (fPile f).length ≤ 40 := (h.ok.lens f (by rw [h.fs]; exact List.mem_cons_self ..)).2
theorem Rdy.insW (h : Rdy x ins most N s f rest) : insB (fIns x f) = true ∧ takesF x (fIns x f) ≤ ((fPile f).length : Int) ∧ namedI (fCode x f).2.1 (fCode x f).2.2.1.length x.length (fIns x f) = true := by
  obtain ⟨hc, p, hp, hpl, hh⟩ := top_pl h.hg h.top
  have hi := ins_sz hc hpl
  refine ⟨hi.1, by rw [hh]; exact hpl.takes, ?_⟩
  exact List.all_eq_true.1 (codeF_0 hc.ok).1 _ hi.2
theorem Rdy.var (h : Rdy x ins most N s f rest) (hi : (fIns x f).1 = 2 ∨ (fIns x f).1 = 3) : ∃ k : Nat, (fIns x f).2 = (k : Int) ∧ k < f.2.2.2.2.1.length := by
  have hw := h.insW
  have hv := h.fw.vl.1
  have h1 := hw.1
  have h2 := hw.2.2
  obtain ⟨k, hk⟩ := Int.eq_ofNat_of_zero_le (show 0 ≤ (fIns x f).2 by
    unfold insB at h1
    rw [if_neg (by omega), if_neg (by omega), if_pos (by unfold hasNB; rcases hi with e | e <;> rw [e] <;> rfl)] at h1
    exact (inB_iff.1 h1).1)
  refine ⟨k, hk, ?_⟩
  unfold namedI at h2
  rw [if_pos hi, decide_eq_true_eq] at h2
  omega
theorem Rdy.site (h : Rdy x ins most N s f rest) (hi : (fIns x f).1 = 12 ∨ (fIns x f).1 = 17) : ∃ k : Nat, (fIns x f).2 = (k : Int) ∧ k < f.2.2.2.2.2.1.length ∧ k < (fCode x f).2.2.1.length := by
  have hw := h.insW
  have hv := h.fw.fl
  have h1 := hw.1
  have h2 := hw.2.2
  obtain ⟨k, hk⟩ := Int.eq_ofNat_of_zero_le (show 0 ≤ (fIns x f).2 by
    unfold insB at h1
    rw [if_neg (by omega), if_neg (by omega), if_pos (by unfold hasNB; rcases hi with e | e <;> rw [e] <;> rfl)] at h1
    exact (inB_iff.1 h1).1)
  unfold namedI at h2
  rw [if_neg (by omega), if_pos hi, decide_eq_true_eq] at h2
  exact ⟨k, hk, by omega, by omega⟩
end
end Go.Proofs.YtgdeclmciflmpaaGreat

/- The program's end of a frame: walk. Printed by stepi5gen.py. -/
set_option linter.unusedVariables false
set_option linter.unusedSimpArgs false
set_option maxRecDepth 100000
namespace Go.Proofs.YtgdeclmciflmpaaGreat
open Go.RowKit
attribute [local irreducible] wpList
/-- The machine as told, its frames' slice too. -/
def RetN (C : Cfg) (s : MS) (w : World) (e : Ending) (w' : World) : Prop := e = .returned (.tuple #[]) ∧ ∃ vf, MM C w' vf s
theorem FV.fc {C : Cfg} {w : World} {g j : Nat} {f : Frame} {v3 v4 v5 : Value} (h : FV C w g j f v3 v4 v5) {W : World} (hb : Below w.heap.size w W) : FV C W g j f v3 v4 v5 := by
  have hf := fun i => (hb.frozen (p := ⟨g, i, none⟩) h.lt).trans (h.fz i)
  exact ⟨below_cell hb h.c0, below_cell hb h.c1, below_cell hb h.c2, below_cell hb h.c3, below_cell hb h.c4, below_cell hb h.c5, below_cell hb h.c6, below_cell hb h.c7, below_cell hb h.c8, below_cell hb h.c9, below_cell hb h.c10, hf, h.gM, h.gB, Nat.lt_of_lt_of_le h.lt hb.size⟩
theorem MM.less {C : Cfg} {w : World} {vf : Value} {s : MS} {D : List Nat} (h : MM { C with D := D ++ C.D } w vf s) : MM C w vf s := by
  obtain ⟨Ff, Ft, Fn, vt, vn, h⟩ := h
  exact ⟨Ff, Ft, Fn, vt, vn, ⟨h.blk, h.frs, h.tr, h.notes, h.nd, h.low, h.xs, h.ins, h.old, h.le, fun k hk => h.ap k (List.mem_append_right _ hk)⟩⟩
/-- The cells on the way to an instruction. -/
theorem MM.insCells {C : Cfg} {w : World} {vf : Value} {s : MS} (h : MM C w vf s) {fn p : Nat} (hfn : fn < C.x.length) (hp : p < (codeD C.x (fn : Int)).2.2.2.1.length) :
    ∃ bc oc bi oi k3 d3, C.ax = some ⟨bc, oc, none⟩ ∧ C.nx = C.x.length ∧ k3 = (codeD C.x (fn : Int)).2.2.2.1.length ∧ bc < C.B ∧ bi < C.B ∧ w.cell? ⟨bc, oc + fn * 5 + 3, none⟩ = some (.slice (some ⟨bi, oi, none⟩) k3 d3) ∧
      w.cell? ⟨bi, oi + p * 2, none⟩ = some (.int .i64 (insAt (codeD C.x (fn : Int)).2.2.2.1 (p : Int)).1) ∧ w.cell? ⟨bi, oi + p * 2 + 1, none⟩ = some (.int .i64 (insAt (codeD C.x (fn : Int)).2.2.2.1 (p : Int)).2) ∧
      (∃ k2 d2 D2, w.cell? ⟨bc, oc + fn * 5 + 2, none⟩ = some (.slice D2 k2 d2) ∧ Sl intR w 0 C.B D2 k2 d2 (codeD C.x (fn : Int)).2.2.1) ∧ w.cell? ⟨bc, oc + fn * 5, none⟩ = some (.int .i64 (codeD C.x (fn : Int)).1) := by
  obtain ⟨hx, _, hB⟩ := h.xs
  have hxl := hx.lenEq
  obtain ⟨bc, oc, z0, z1, D2, k2, d2, t2, D3, k3, d3, t3, D4, k4, d4, t4, eA, _, hbb, hlc, _, _, kS2, kS3, kS4, u0, u1, u2, u3, u4⟩ := Code_at hx (k := fn) (by omega)
  have ec : codeD C.x (fn : Int) = (z0, z1, t2, t3, t4) := by rw [codeD_at hfn, hlc]
  rw [ec] at hp ⊢
  simp only at hp ⊢
  have L3 := kS3.lenEq
  obtain ⟨bi, oi, a0, a1, eD, _, hbi, hli, _, _, d0, d1⟩ := Ins_at kS3 (k := p) (by omega)
  subst eD
  have hi : insAt t3 (p : Int) = (a0, a1) := by rw [insAt_eq hp]; exact hli
  rw [hi]
  exact ⟨bc, oc, bi, oi, k3, d3, eA, by omega, by omega, hbb, hbi, u3, d0, d1, ⟨k2, d2, D2, u2, kS2⟩, u0⟩
set_option maxHeartbeats 4000000 in
theorem implEnd (C : Cfg) (w : World) (vf : Value) (s : MS) (f : Frame) (rest : List Frame) (N : Nat) (h : MM C w vf s) (R : Rdy C.x C.ins C.most N s f rest) :
    Calls Tryz.prog 58 #[.pointer (some ⟨C.M, 0, none⟩)] w (RetN C (endM C.x s f rest) w) := by
  obtain ⟨g, n, c, rfl, hn, h0, hnc, hcm, hj⟩ := h.opens R.fs
  have hn1 : n ≤ 1000000 := by have := R.ok.many; omega
  have FW := Lib.hid R.fw
  have i1 := I64_of FW.out.id
  have hno : s.notes.length ≤ 4000000 := by have := R.ok.notes; have := R.hN; omega
  have HN := Lib.hid hn
  have HJ := Lib.hid hj
  have RR := Lib.hid R
  have HH := Lib.hid h
  have HC0 := Lib.hid R.c0
  clear hn hj R h
  go_enter Tryz.func58, Tryz.ntmps58
  go_wp2_with fail
  refine (implTop C _ g n c s HH.out h0 hn1 hnc hcm).mono ?_
  rintro e w1 ⟨rfl, k1, hw1⟩
  have h2 : MM C w1 (.slice (some ⟨g, 0, none⟩) n c) s := by rw [hw1]; exact HH.out.drewN k1
  clear hw1
  obtain ⟨v3, v4, v5, F3, F4, F5, pre, post, ho⟩ := h2.opg HJ.out
  obtain ⟨A3, n3, c3', rfl, hx3⟩ := ho.o3.form
  obtain ⟨A4, n4, c4', rfl, hx4⟩ := ho.o4.form
  obtain ⟨A5, n5, c5', rfl, hx5⟩ := ho.o5.form
  clear hx3 hx4 hx5
  obtain ⟨y0, y1, y2, y3, y4, y5, y6, y7, y8, y9, y10, yf, ygM, ygB, ygl⟩ := ho.fv
  obtain ⟨_, _, mv⟩ := h2.mv
  have hMl := mv.lt
  have H2 := Lib.hid h2
  clear ho h2 mv
  go_upto_region 1 with fail
  obtain ⟨W, hW⟩ : ∃ W, W = w1.alloc (.cells #[.int .i64 f.1, .int .i64 f.2.1, .int .i64 f.2.2.1, .slice A3 n3 c3', .slice A4 n4 c4', .slice A5 n5 c5', .int .i64 (resOf f), .int .i64 (modeOf f), .int .i64 (valOf f), .int .i64 (baseOf f), .bool (frOff f)] 74) := ⟨_, rfl⟩
  have hbW : Below w1.heap.size w1 W := by rw [hW]; exact belA
  have hXW : W.heap[w1.heap.size]? = some (.cells #[.int .i64 f.1, .int .i64 f.2.1, .int .i64 f.2.2.1, .slice A3 n3 c3', .slice A4 n4 c4', .slice A5 n5 c5', .int .i64 (resOf f), .int .i64 (modeOf f), .int .i64 (valOf f), .int .i64 (baseOf f), .bool (frOff f)] 74) := by rw [hW]; exact alloc_new' (w := w1) rfl
  have hzW : W.heap.size = w1.heap.size + 1 := by rw [hW]; simp
  have H3 := Lib.hid (H2.out.apart hbW (Fx := [w1.heap.size]) (fun k hk => by rw [List.mem_singleton.1 hk]; omega))
  rw [← hW]
  obtain ⟨X, hX⟩ : ∃ X, w1.heap.size = X := ⟨_, rfl⟩
  rw [hX] at H3 hXW hzW ⊢
  have hMX : C.M < X := by omega
  clear hW hbW hX H2 y0 y1 y2 y3 y4 y5 y6 y7 y8 y9 y10 yf ygl hMl
  obtain ⟨u0, _, _, _, _, _, u6, u7, u8, _, _⟩ := ele_cells hXW
  go_wp2_with fail
  refine (implNote { C with D := [X] ++ C.D } W (.slice (some ⟨g, 0, none⟩) n c) s 3 f.1 0 (by unfold I64; omega) i1 (by unfold I64; omega) H3.out hno).mono ?_
  rintro e w2 ⟨rfl, h3, hap⟩
  have hX2 : w2.heap[X]? = _ := (hap X (List.mem_append_left _ (List.mem_singleton.2 rfl))).trans hXW
  obtain ⟨_, _, _, _, _, _, z6, z7, z8, _, _⟩ := ele_cells hX2
  have hX2l := blk_lt hX2
  obtain ⟨_, _, mv⟩ := h3.mv
  have m3 := mv.m3
  have fz3 := mv.fz 3
  have hMl := mv.lt
  have hS := Lib.hid (show ∀ V', Below w2.heap.size w2 V' → V'.cell? ⟨C.M, 3, none⟩ = some (.slice (some ⟨g, 0, none⟩) n c) from fun V' hV => below_cell hV m3)
  have e1 : ((n : Int) - 1) = ((n - 1 : Nat) : Int) := by omega
  have e2 : n - 1 ≤ n := by omega
  have e3 : IntKind.i64.wrap ((n - 1 : Nat) : Int) = ((n - 1 : Nat) : Int) := IntWalk.i64_in _ (by omega)
  have e4 : n - 1 ≤ c := by omega
  have e5 : (0 : Int) ≤ ((n - 1 : Nat) : Int) := by omega
  have e6 : ((n - 1 : Nat) : Int) ≤ (c : Int) := by omega
  have h4 := h3.cutF (m := n - 1) (by have := HN.out; show n - 1 ≤ s.fs.length; omega) (fs' := rest) (by
    have := HN.out
    show rest.reverse = s.fs.reverse.take (n - 1)
    rw [this, RR.out.fs]; simp)
  have H4 := Lib.hid h4.less
  clear h3 h4 mv m3 hap u0 u6 u7 u8
  go_upto_region 2 with fail
  refine wp_region_noPanic ?_
  refine wp_region_cut (S := (fun V' => V'.cell? ⟨C.M, 3, none⟩ = some (.slice (some ⟨g, 0, none⟩) n c))) 17 (by kernel_rfl) (by kernel_rfl) (hS.out _ (show Below w2.heap.size w2 _ by exact beloA)) (fun hR0 => ?_)
  simp only [headOps, List.take_succ_cons, List.take_zero]
  refine takeH 0 ?_
  refine takeH 1 ?_
  refine takeH 2 ?_
  refine takeH 3 ?_
  refine takeH 4 ?_
  refine takeH 5 ?_
  refine takeH 6 ?_
  refine takeH 7 ?_
  refine takeH 8 ?_
  refine takeH 9 ?_
  refine takeH 10 ?_
  refine takeH 11 ?_
  refine takeH 12 ?_
  refine takeH 13 ?_
  refine takeH 14 ?_
  refine takeH 15 ?_
  refine takeH 16 ?_
  refine wpAnyH_done (by kernel_rfl) ?_ _
  refine lastQ_op rfl (fun K hK => ?_)
  rw [if_pos (by rfl)]
  go_simp
  refine hK _ _ ?_
  clear hK K
  refine NoPanic.normal ?_
  obtain ⟨V, hV⟩ : ∃ V, V = (w2.setCell ⟨C.M, 3, none⟩ (.slice (some ⟨g, 0, none⟩) (n - 1) c)).drew := ⟨_, rfl⟩
  have H5 : Hid (MM C V (.slice (some ⟨g, 0, none⟩) (n - 1) c) { s with notes := s.notes ++ [(3, f.1, 0)], fs := rest }) := Lib.hid (by rw [hV]; exact H4.out.keep (by exact beloA))
  have hfV : Fr [C.M] w2 V := by rw [hV]; exact frcA
  have hX3 : V.heap[X]? = w2.heap[X]? := hfV.block X hX2l (by simp; omega)
  have cX := fun o v (h : w2.cell? ⟨X, o, none⟩ = some v) => (World.cell?_of_block (a := ⟨X, o, none⟩) hX3).trans h
  have x6 := cX _ _ z6
  have x7 := cX _ _ z7
  have x8 := cX _ _ z8
  have hzV := hfV.size
  have hXV : X < V.heap.size := by omega
  rw [← hV]
  clear hV cX z6 z7 z8 hX2 hX3 hS fz3 hXW H3 H4
  obtain ⟨_, _, mv⟩ := H5.out.mv
  have m3 := mv.m3
  have m0 := mv.m0
  have m6 := mv.m6
  have m7 := mv.m7
  have fz6 := mv.fz 6
  have fz7 := mv.fz 7
  have hMV := mv.lt
  clear mv
  have hxS := fun W' (hW' : Fr [C.M] V W') => (⟨(World.cell?_of_block (a := ⟨X, 6, none⟩) (hW'.block X hXV (by simp; omega))).trans x6, (World.cell?_of_block (a := ⟨X, 7, none⟩) (hW'.block X hXV (by simp; omega))).trans x7, (World.cell?_of_block (a := ⟨X, 8, none⟩) (hW'.block X hXV (by simp; omega))).trans x8⟩ : W'.cell? ⟨X, 6, none⟩ = some (.int .i64 (resOf f)) ∧ W'.cell? ⟨X, 7, none⟩ = some (.int .i64 (modeOf f)) ∧ W'.cell? ⟨X, 8, none⟩ = some (.int .i64 (valOf f)))
  have HXS := Lib.hid hxS
  clear hxS
  cases rest with
  | nil =>
    obtain rfl : n = 1 := by have := HN.out; rw [RR.out.fs] at this; simpa using this
    have d0 : ((1 : Nat) : Int) - 1 = 0 := rfl
    by_cases md2 : modeOf f = 2
    · have hE : endM C.x s f [] = { s with notes := s.notes ++ [(3, f.1, 0)], fs := [], code := 2, val := valOf f } := by unfold endM; simp only; rw [if_pos md2]
      have h6 := (H5.out.setCode 2).setValue (valOf f)
      have H6 := Lib.hid h6
      have HE := Lib.hid hE
      rw [md2] at x7
      clear h6 hE
      go_upto_region 9 with fail
      go_region_held3 (fun V' => V'.cell? ⟨X, 8, none⟩ = some (.int .i64 (valOf f))) (exact (HXS.out _ (show Fr [C.M] V _ by exact frcA)).2.2) (fail)
      go_wp2_with fail
      go_end0
      exact ⟨rfl, _, HE.out ▸ H6.out.keep (by exact beloA)⟩
    · by_cases md3 : modeOf f = 3
      · have hE : endM C.x s f [] = { s with notes := s.notes ++ [(3, f.1, 0)], fs := [], code := 3, val := 0 } := by unfold endM; simp only; rw [if_neg md2, if_pos md3]
        have H6 := Lib.hid ((H5.out.setCode 3).setValue 0)
        have HE := Lib.hid hE
        rw [md3] at x7
        clear hE
        go_wp2_with fail
        go_end0
        exact ⟨rfl, _, HE.out ▸ H6.out⟩
      · have hE : endM C.x s f [] = { s with notes := s.notes ++ [(3, f.1, 0)], fs := [], code := 1, val := resOf f } := by unfold endM; simp only; rw [if_neg md2, if_neg md3]
        have H6 := Lib.hid ((H5.out.setCode 1).setValue (resOf f))
        have HE := Lib.hid hE
        clear hE
        go_upto_region 17 with fail
        go_region_held3 (fun V' => V'.cell? ⟨X, 6, none⟩ = some (.int .i64 (resOf f))) (exact (HXS.out _ (show Fr [C.M] V _ by exact frcA)).1) (fail)
        go_wp2_with fail
        go_end0
        exact ⟨rfl, _, HE.out ▸ H6.out.keep (by exact beloA)⟩
  | cons b r =>
    have hw := RR.out.stk.1
    have hn2 : 2 ≤ n := by have := HN.out; rw [RR.out.fs] at this; simp at this; omega
    have d0 : ¬ ((n - 1 : Nat) : Int) = 0 := by omega
    have hnl : n - 1 = (b :: r).length := by have := HN.out; rw [RR.out.fs] at this; simp at this ⊢; omega
    have hjb : (b :: r).reverse[n - 1 - 1]? = some b := by rw [hnl]; simp
    have hops : (fIns C.x b).1 = 7 ∨ (fIns C.x b).1 = 17 := hw.2.2.imp (fun h => h.1) (fun h => h.1)
    have FB := frW RR.out.hg hw.1
    have hpd := padW RR.out.hg hw.1 hw.2.1 (by rcases hops with e | e <;> rw [e] <;> rfl)
    have hbp := (stack_lens RR.out.hg (off := frOff f) (fn := f.2.1) RR.out.stk b (List.mem_cons_self ..)).2
    by_cases md2 : modeOf f = 2
    · have hE : endM C.x s f (b :: r) = { s with notes := s.notes ++ [(3, f.1, 0)], fs := raiseFr C.x b 2 (valOf f) :: r } := by unfold endM; simp only; rw [if_pos md2]
      have HE := Lib.hid hE
      rw [md2] at x7
      have iv := I64_of FW.out.vo
      have HNL := Lib.hid hnl
      clear hE hw hops hnl
      go_wp2_with fail
      refine (implRaise C V g (n - 1) c { s with notes := s.notes ++ [(3, f.1, 0)], fs := b :: r } b 2 (valOf f) (Or.inl rfl) iv H5.out hjb (by omega) (by omega) (by omega) hcm FB.fn hpd.1 (by have := FB.xl; omega) (by have := FB.rl; omega) hpd.2).mono ?_
      rintro e w3 ⟨rfl, h7⟩
      rw [MS.put_top rfl HNL.out] at h7
      go_wp2_with fail
      go_end0
      exact ⟨rfl, _, HE.out ▸ h7⟩
    · by_cases md3 : modeOf f = 3
      · have hE : endM C.x s f (b :: r) = { s with notes := s.notes ++ [(3, f.1, 0)], fs := raiseFr C.x b 3 0 :: r } := by unfold endM; simp only; rw [if_neg md2, if_pos md3]
        have HE := Lib.hid hE
        rw [md3] at x7
        have HNL := Lib.hid hnl
        clear hE hw hops hnl
        go_wp2_with fail
        refine (implRaise C V g (n - 1) c { s with notes := s.notes ++ [(3, f.1, 0)], fs := b :: r } b 3 0 (Or.inr rfl) (by unfold I64; omega) H5.out hjb (by omega) (by omega) (by omega) hcm FB.fn hpd.1 (by have := FB.xl; omega) (by have := FB.rl; omega) hpd.2).mono ?_
        rintro e w3 ⟨rfl, h7⟩
        rw [MS.put_top rfl HNL.out] at h7
        go_wp2_with fail
        go_end0
        exact ⟨rfl, _, HE.out ▸ h7⟩
      · have hE : endM C.x s f (b :: r) = { s with notes := s.notes ++ [(3, f.1, 0)], fs := fGo b (b.2.2.1 + 1) (if (fIns C.x b).1 = 7 then fPile b ++ [resOf f] else fPile b) :: r } := by unfold endM; simp only; rw [if_neg md2, if_neg md3]
        have HE := Lib.hid hE
        have HNL := Lib.hid hnl
        have HOPS := Lib.hid hops
        clear hE hw hnl hops
        go_upto_region 4 with fail
        go_upto_region 5 with fail
        refine (implTop C V g (n - 1) c { s with notes := s.notes ++ [(3, f.1, 0)], fs := b :: r } H5.out (by omega) (by omega) (by omega) hcm).mono ?_
        rintro e w3 ⟨rfl, k3, hw3⟩
        have h6 : MM C w3 (.slice (some ⟨g, 0, none⟩) (n - 1) c) { s with notes := s.notes ++ [(3, f.1, 0)], fs := b :: r } := by rw [hw3]; exact H5.out.drewN k3
        have x6' := (HXS.out w3 (by rw [hw3]; exact frcA)).1
        have hX3 : X < w3.heap.size := by rw [hw3]; exact hXV
        clear hw3 x6 x7 x8 m3 m0 m6 m7 fz6 fz7
        obtain ⟨fb, hfb⟩ := Int.eq_ofNat_of_zero_le FB.fn.1
        obtain ⟨pb, hpb⟩ := Int.eq_ofNat_of_zero_le FB.at_.1
        have hfbx : fb < C.x.length := by have := FB.fn.2; omega
        have hcd : fCode C.x b = codeD C.x (fb : Int) := by unfold fCode; rw [hfb]
        have hpbx : pb < (codeD C.x (fb : Int)).2.2.2.1.length := by have := FB.at_.2; rw [hcd, hpb] at this; omega
        obtain ⟨bc, oc, bi, oi, k3', d3, eA, hnx, hk3, hbc, hbi, u3, u5, _, _, _⟩ := h6.insCells hfbx hpbx
        have hop : insAt (codeD C.x (fb : Int)).2.2.2.1 (pb : Int) = fIns C.x b := by unfold fIns; rw [hcd, hpb]
        rw [hop] at u5
        obtain ⟨_, _, mv⟩ := h6.mv
        have m0 := mv.m0
        rw [eA] at m0
        obtain ⟨_, _, _, _, _, _, _, _, ho⟩ := h6.opg hjb
        have c1 := ho.fv.c1
        have c2 := ho.fv.c2
        rw [hfb] at c1
        rw [hpb] at c2
        have hgl := ho.fv.lt
        have hM3 := mv.lt
        obtain ⟨_, _, hBw⟩ := h6.xs
        have l1 : fb < C.nx := by omega
        have l2 : (fb : Int) < (C.nx : Int) := by omega
        have l3 : pb < k3' := by omega
        have l4 : (pb : Int) < (k3' : Int) := by omega
        have l5 : pb ≤ 1000000 := by have := FB.il; have := FB.at_.2; omega
        have l6 : fb ≤ 1000000 := by have := FB.xl; omega
        have HPB := Lib.hid hpb
        have H7 := Lib.hid h6
        have HJB := Lib.hid hjb
        have ir := I64_of FW.out.rs
        clear mv ho h6 hk3 hnx hcd hfb hpb hop eA hjb
        rcases HOPS.out with h7 | h17
        · rw [h7] at u5
          have HE2 := Lib.hid (show (if (fIns C.x b).1 = 7 then fPile b ++ [resOf f] else fPile b) = fPile b ++ [resOf f] from if_pos h7)
          clear h7
          go_upto_region 5 with fail
          go_quiet (fail)
          obtain ⟨V2, hV2⟩ : ∃ V2, V2 = w3.drewN nq := ⟨_, rfl⟩
          have h8 : MM C V2 (.slice (some ⟨g, 0, none⟩) (n - 1) c) { s with notes := s.notes ++ [(3, f.1, 0)], fs := b :: r } := by rw [hV2]; exact H7.out.drewN nq
          have x6v : V2.cell? ⟨X, 6, none⟩ = some (.int .i64 (resOf f)) := by rw [hV2]; exact x6'
          have hX4 : X < V2.heap.size := by rw [hV2]; exact hX3
          rw [← hV2]
          clear hV2 x6' u3 u5 c1 c2 m0
          have H8 := Lib.hid h8
          clear h8
          go_wp2_with fail
          refine (implPush C V2 g (n - 1) c { s with notes := s.notes ++ [(3, f.1, 0)], fs := b :: r } (n - 1 - 1) b (resOf f) ir H8.out HJB.out (by omega)).mono ?_
          rintro e w4 ⟨rfl, h9⟩
          have hj9 := MS.put_get (s := { s with notes := s.notes ++ [(3, f.1, 0)], fs := b :: r }) (f := fGo b b.2.2.1 (fPile b ++ [resOf f])) HJB.out
          obtain ⟨_, _, _, _, _, _, _, _, ho⟩ := h9.opg hj9
          have c2 : w4.cell? ⟨g, (n - 1 - 1) * 11 + 2, none⟩ = some (.int .i64 (pb : Int)) := by rw [← HPB.out]; exact ho.fv.c2
          have fz2 := ho.fv.fz ((n - 1 - 1) * 11 + 2)
          have hg4 := ho.fv.lt
          have h10 := h9.pAt hj9 (a := (pb : Int) + 1) (by unfold I64; omega)
          rw [MS.put_put, MS.put_top rfl HNL.out] at h10
          have e7 : fGo (fGo b b.2.2.1 (fPile b ++ [resOf f])) ((pb : Int) + 1) (fPile (fGo b b.2.2.1 (fPile b ++ [resOf f]))) = fGo b (b.2.2.1 + 1) (if (fIns C.x b).1 = 7 then fPile b ++ [resOf f] else fPile b) := by rw [HE2.out, HPB.out]; rfl
          rw [e7] at h10
          have H10 := Lib.hid h10
          clear h9 hj9 ho h10 e7
          go_wp2_with fail
          go_end0
          exact ⟨rfl, _, HE.out ▸ H10.out⟩
        · rw [h17] at u5
          have HE2 := Lib.hid (show (if (fIns C.x b).1 = 7 then fPile b ++ [resOf f] else fPile b) = fPile b from if_neg (by omega))
          clear h17
          go_upto_region 5 with fail
          go_quiet (fail)
          obtain ⟨V2, hV2⟩ : ∃ V2, V2 = w3.drewN nq := ⟨_, rfl⟩
          have h8 : MM C V2 (.slice (some ⟨g, 0, none⟩) (n - 1) c) { s with notes := s.notes ++ [(3, f.1, 0)], fs := b :: r } := by rw [hV2]; exact H7.out.drewN nq
          have x6v : V2.cell? ⟨X, 6, none⟩ = some (.int .i64 (resOf f)) := by rw [hV2]; exact x6'
          have hX4 : X < V2.heap.size := by rw [hV2]; exact hX3
          rw [← hV2]
          clear hV2 x6' u3 u5 c1 c2 m0
          obtain ⟨_, _, _, _, _, _, _, _, ho⟩ := h8.opg HJB.out
          have c2 : V2.cell? ⟨g, (n - 1 - 1) * 11 + 2, none⟩ = some (.int .i64 (pb : Int)) := by rw [← HPB.out]; exact ho.fv.c2
          have fz2 := ho.fv.fz ((n - 1 - 1) * 11 + 2)
          have hg4 := ho.fv.lt
          have h10 := h8.pAt HJB.out (a := (pb : Int) + 1) (by unfold I64; omega)
          rw [MS.put_top rfl HNL.out] at h10
          have e7 : fGo b ((pb : Int) + 1) (fPile b) = fGo b (b.2.2.1 + 1) (if (fIns C.x b).1 = 7 then fPile b ++ [resOf f] else fPile b) := by rw [HE2.out, HPB.out]
          rw [e7] at h10
          have H10 := Lib.hid h10
          clear h8 ho h10 e7
          go_wp2_with fail
          go_end0
          exact ⟨rfl, _, HE.out ▸ H10.out⟩
end Go.Proofs.YtgdeclmciflmpaaGreat
