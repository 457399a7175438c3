/- Letting what leads to a jump lead where that leads: the reference's walk. -/
import Derived.Test.YtmnkgcjbckamnaaGreatThread2
import Derived.Test.YtmnkgcjbckamnaaGreatSlc
set_option linter.unusedVariables false
set_option linter.unusedSimpArgs false
set_option maxRecDepth 100000
namespace Go.Proofs.YtmnkgcjbckamnaaGreat
open Go.RowKit
theorem own_empty {w : World} {X base size : Nat} {T : TypeId} (hb : base ≤ X) (h : w.heap[X]? = some (.cells #[] T)) : w.ownsRow base T size (.slice (some ⟨X, 0, none⟩) 0 0) 0 [] :=
  ⟨by simp, .inr ⟨X, 0, #[], rfl, hb, h, Nat.le_refl _, by decide, by simp, by simp⟩⟩
theorem app_facts {w w' : World} {X : Nat} {v' : Value} (h : w.grownBy w' (Value.slice (some ⟨X, 0, none⟩) 0 0).ownBlock) (hat : v'.ownBlock = (Value.slice (some ⟨X, 0, none⟩) 0 0).ownBlock ∨ v'.ownBlock = some w.heap.size) : ∃ Xa, Hid (Xa = X) ∧ Fr [Xa] w w' ∧ Hid (v'.ownBlock = some Xa ∨ v'.ownBlock = some w.heap.size) :=
  ⟨X, Lib.hid rfl, by have := grown_fr (v := .slice (some ⟨X, 0, none⟩) 0 0) h; simpa [Value.ownBlock] using this, Lib.hid (by simpa [Value.ownBlock] using hat)⟩
theorem app_block {w w' : World} {X : Nat} (h : w.grownBy w' (Value.slice (some ⟨X, 0, none⟩) 0 0).ownBlock) : Hid (∀ k, k < w.heap.size → ¬ k = X → w'.heap[k]? = w.heap[k]?) := Lib.hid fun k h1 h2 => h.block k h1 (by simpa [Value.ownBlock] using h2)
/-- step_copyIns: an append of a list onto an empty row that has been made. -/
theorem step_copyIns {ops : Array Oper} {o : Oper} {a : Act} {w : World} {K : Act → World → Prop} {Q : Exit → Act → World → Prop} {E : Prop} (hgd : o.guard = none) (s x : Operand)
    (ho : o.op = .call { callee := .builtin .append, args := #[s, x], argTypes := #[27, 27] })
    (X : Nat) (hs : a.eval s = .slice (some ⟨X, 0, none⟩) 0 0) (hX : w.heap[X]? = some (.cells #[] 119)) (base : Nat) (hb : base ≤ X) (W : World) (hW : Below base W w) (hbW : base = W.heap.size) (lo hi : Nat) (hh : hi ≤ base) (A : Option Addr) (n c : Nat) (l : List Ins) (hx : a.eval x = .slice A n c)
    (hsl : Sl InsR W lo hi A n c l) (hn : n ≤ 1048576)
    (h : ∀ A' n' c' w' Xa, InsRow w' base (.slice A' n' c') l → Hid (Xa = X) → Fr [Xa] w w' → Hid ((Value.slice A' n' c').ownBlock = some Xa ∨ (Value.slice A' n' c').ownBlock = some w.heap.size) → Hid (∀ k, k < w.heap.size → ¬ k = X → w'.heap[k]? = w.heap[k]?) → Below base W w' → w.heap.size ≤ w'.heap.size → K (a.put o.dst (.slice A' n' c')) w') :
    if Region.wanted o (yielded ops a.tmps) = true then Oper.wp Tryz.prog o a w K Q else E := by
  subst hbW
  obtain ⟨inf, hif, hz0, hz1, hz2⟩ := info_parts Tryz.infoIns2
  refine step_append_src w hgd s x _ ho W.heap.size 119 inf (.agg #[.int .i64 0, .int .i64 0]) 2 16 Tryz.underlying27 hif hz0 hz1 hz2 rfl (by decide) _ 0 [] hs (own_empty hb hX) A n c _ hx (src_ins (hsl.below hW hh)) (encL_one' insV_one) (by unfold maxLen; omega) (by omega) hW.size ?_
  intro v' w' h1 h2 h3
  rw [← hsl.lenEq] at h1
  have h1 : InsRow w' W.heap.size v' l := by unfold InsRow; simpa using h1
  obtain ⟨A', n', c', rfl, _⟩ := h1.form
  obtain ⟨Xa, ea, fa, ta⟩ := app_facts h2 h3
  exact h A' n' c' w' Xa h1 ea fa ta (app_block h2) (hW.grown h2 hW.size (fun g hg => by simp [Value.ownBlock] at hg; omega)) h2.size
/-- step_copyRows: an append of a list onto an empty row that has been made. -/
theorem step_copyRows {ops : Array Oper} {o : Oper} {a : Act} {w : World} {K : Act → World → Prop} {Q : Exit → Act → World → Prop} {E : Prop} (hgd : o.guard = none) (s x : Operand)
    (ho : o.op = .call { callee := .builtin .append, args := #[s, x], argTypes := #[28, 28] })
    (X : Nat) (hs : a.eval s = .slice (some ⟨X, 0, none⟩) 0 0) (hX : w.heap[X]? = some (.cells #[] 97)) (base : Nat) (hb : base ≤ X) (W : World) (hW : Below base W w) (hbW : base = W.heap.size) (lo hi : Nat) (hh : hi ≤ base) (A : Option Addr) (n c : Nat) (l : List Row) (hx : a.eval x = .slice A n c)
    (hsl : Sl RowR W lo hi A n c l) (hn : n ≤ 1048576)
    (h : ∀ A' n' c' w' Xa, RowsRow w' base (.slice A' n' c') l → Hid (Xa = X) → Fr [Xa] w w' → Hid ((Value.slice A' n' c').ownBlock = some Xa ∨ (Value.slice A' n' c').ownBlock = some w.heap.size) → Hid (∀ k, k < w.heap.size → ¬ k = X → w'.heap[k]? = w.heap[k]?) → Below base W w' → w.heap.size ≤ w'.heap.size → K (a.put o.dst (.slice A' n' c')) w') :
    if Region.wanted o (yielded ops a.tmps) = true then Oper.wp Tryz.prog o a w K Q else E := by
  subst hbW
  obtain ⟨inf, hif, hz0, hz1, hz2⟩ := info_parts Tryz.infoRow2
  refine step_append_src w hgd s x _ ho W.heap.size 97 inf (.agg #[.int .i64 0, .int .i64 0, .int .i64 0]) 3 24 Tryz.underlying28 hif hz0 hz1 hz2 rfl (by decide) _ 0 [] hs (own_empty hb hX) A n c _ hx (src_rows (hsl.below hW hh)) (encL_one' rowV_one) (by unfold maxLen; omega) (by omega) hW.size ?_
  intro v' w' h1 h2 h3
  rw [← hsl.lenEq] at h1
  have h1 : RowsRow w' W.heap.size v' l := by unfold RowsRow; simpa using h1
  obtain ⟨A', n', c', rfl, _⟩ := rows_form h1
  obtain ⟨Xa, ea, fa, ta⟩ := app_facts h2 h3
  exact h A' n' c' w' Xa h1 ea fa ta (app_block h2) (hW.grown h2 hW.size (fun g hg => by simp [Value.ownBlock] at hg; omega)) h2.size
set_option maxHeartbeats 16000000 in
theorem specL13Own (w : World) (lo hi : Nat) (x0 x1 : Int) (A2 A3 A4 : Option Addr) (n2 c2 n3 c3 n4 c4 : Nat) (s2 : List Int) (s3 : List Ins) (s4 : List Row) (h2 : Sl intR w lo hi A2 n2 c2 s2) (h3 : Sl InsR w lo hi A3 n3 c3 s3) (h4 : Sl RowR w lo hi A4 n4 c4 s4) (hh : hi ≤ w.heap.size) (hn2 : n2 ≤ 1048576) (hn3 : n3 ≤ 1048576) (hn4 : n4 ≤ 1048576) :
    Calls Tryz.prog 99 #[.agg #[.int .i64 x0, .int .i64 x1, .slice A2 n2 c2, .slice A3 n3 c3, .slice A4 n4 c4]] w (RetCd x0 x1 s2 s3 s4 w) := by
  obtain ⟨inf, hif0, hz00, hz10, hz20⟩ := info_parts Tryz.infoIns2
  obtain ⟨inr, hir0, hr00, hr10, hr20⟩ := info_parts Tryz.infoRow2
  have hif := Lib.hid hif0
  have hz0 := Lib.hid hz00
  have hz1 := Lib.hid hz10
  have hz2 := Lib.hid hz20
  have hir := Lib.hid hir0
  have hr0 := Lib.hid hr00
  have hr1 := Lib.hid hr10
  have hr2 := Lib.hid hr20
  have HL3 := Lib.hid h3.lenEq
  have HL4 := Lib.hid h4.lenEq
  clear hif0 hz00 hz10 hz20 hir0 hr00 hr10 hr20
  go_enter Tryz.func99, Tryz.ntmps99
  go_wp2_with fail
  obtain ⟨W, hW⟩ : ∃ W, W = (w.alloc (.cells #[.int .i64 x0, .int .i64 x1, .slice A2 n2 c2, .slice A3 n3 c3, .slice A4 n4 c4] 30)).alloc (.cells #[.int .i64 0, .int .i64 0, .slice none 0 0, .slice none 0 0, .slice none 0 0] 30) := ⟨_, rfl⟩
  have hbW : Below w.heap.size w W := by rw [hW]; (repeat (first | with_reducible exact Below.refl _ _ | with_reducible assumption | with_reducible refine below_alloc ?_ _ | ((with_reducible refine Below.setCell ?_ ?_ _); rotate_left; (· first | exact Nat.le_refl _ | (simp; done) | (simp; omega))) | with_reducible refine below_drewN ?_ _ | with_reducible refine Below.drew ?_ | with_reducible refine below_then ?_ (by with_reducible assumption)))
  have hzW : W.heap.size = w.heap.size + 2 := by rw [hW]; simp
  have hS := Lib.hid (show ∀ V, Below W.heap.size W V → V.cell? ⟨w.heap.size, 0, none⟩ = some (.int .i64 x0) ∧ V.cell? ⟨w.heap.size, 1, none⟩ = some (.int .i64 x1) ∧ V.cell? ⟨w.heap.size, 2, none⟩ = some (.slice A2 n2 c2) ∧ V.cell? ⟨w.heap.size, 3, none⟩ = some (.slice A3 n3 c3) ∧ V.cell? ⟨w.heap.size, 4, none⟩ = some (.slice A4 n4 c4) from fun V hV => by
    refine ⟨below_cell hV ?_, below_cell hV ?_, below_cell hV ?_, below_cell hV ?_, below_cell hV ?_⟩ <;> (rw [hW]; simp [go_sem]))
  have xb := Lib.hid (show ∀ V, Below W.heap.size W V → V.heap[w.heap.size + 1]? = some (.cells #[.int .i64 0, .int .i64 0, .slice none 0 0, .slice none 0 0, .slice none 0 0] 30) from fun V hV => by
    rw [hV.block _ (by omega), hW]; exact alloc_new' (by simp))
  have xf := Lib.hid (show ∀ V, Below W.heap.size W V → ∀ j, V.frozen? ⟨w.heap.size + 1, j, none⟩ = false from fun V hV j => below_frozen hV (show w.heap.size + 1 < W.heap.size by omega) (by rw [hW]; simp [go_sem]))
  rw [← hW]
  clear hW
  replace h2 := h2.below hbW hh
  replace h3 := h3.below hbW hh
  replace h4 := h4.below hbW hh
  have hhW : hi ≤ W.heap.size := by omega
  go_region_held3 (fun V => V.cell? ⟨w.heap.size, 0, none⟩ = some (.int .i64 x0) ∧ V.cell? ⟨w.heap.size, 1, none⟩ = some (.int .i64 x1) ∧ V.cell? ⟨w.heap.size, 2, none⟩ = some (.slice A2 n2 c2) ∧ V.cell? ⟨w.heap.size, 3, none⟩ = some (.slice A3 n3 c3) ∧ V.cell? ⟨w.heap.size, 4, none⟩ = some (.slice A4 n4 c4)) (first | (refine ⟨?_, ?_, ?_, ?_, ?_⟩ <;> simp [go_sem, q0, q1, q2, q3, q4]) | exact hS.out _ (show Below W.heap.size W _ by (repeat (first | with_reducible exact Below.refl _ _ | with_reducible assumption | with_reducible refine below_alloc ?_ _ | ((with_reducible refine Below.setCell ?_ ?_ _); rotate_left; (· first | exact Nat.le_refl _ | (simp; done) | (simp; omega))) | with_reducible refine below_drewN ?_ _ | with_reducible refine Below.drew ?_ | with_reducible refine below_then ?_ (by with_reducible assumption)))))
    (first
      | (go_at_call 91; ((with_reducible refine (specL1Own _ lo hi A2 n2 c2 s2 (h2.below (show Below W.heap.size W _ by (repeat (first | with_reducible exact Below.refl _ _ | with_reducible assumption | with_reducible refine below_alloc ?_ _ | ((with_reducible refine Below.setCell ?_ ?_ _); rotate_left; (· first | exact Nat.le_refl _ | (simp; done) | (simp; omega))) | with_reducible refine below_drewN ?_ _ | with_reducible refine Below.drew ?_ | with_reducible refine below_then ?_ (by with_reducible assumption)))) hhW) (by first | omega | (simp; done) | (simp; omega)) hn2).mono ?_); rintro e w2 ⟨v2, rfl, r2, k2⟩; have b2 : Below W.heap.size W w2 := (by (repeat (first | with_reducible exact Below.refl _ _ | with_reducible assumption | with_reducible refine below_alloc ?_ _ | ((with_reducible refine Below.setCell ?_ ?_ _); rotate_left; (· first | exact Nat.le_refl _ | (simp; done) | (simp; omega))) | with_reducible refine below_drewN ?_ _ | with_reducible refine Below.drew ?_ | with_reducible refine below_then ?_ (by with_reducible assumption)))); have z2 := k2.size; (try simp at z2); obtain ⟨A5, n5, c5, rfl, m5⟩ := r2.form; clear m5))
      | (refine step_copyIns (by rfl) _ _ (by rfl) _ (by rfl) (by repeat (first | exact alloc_new' (by first | omega | (simp; done) | (simp; omega)) | rw [heap_drew] | rw [alloc_lt (by first | omega | (simp; done) | (simp; omega))] | rw [k2.block _ (by first | omega | (simp; done) | (simp; omega))] | rw [k3.out _ (by first | omega | (simp; done) | (simp; omega)) (by first | omega | (simp; done) | (simp; omega))])) W.heap.size (by first | omega | (simp; done) | (simp; omega)) W (by (repeat (first | with_reducible exact Below.refl _ _ | with_reducible assumption | with_reducible refine below_alloc ?_ _ | ((with_reducible refine Below.setCell ?_ ?_ _); rotate_left; (· first | exact Nat.le_refl _ | (simp; done) | (simp; omega))) | with_reducible refine below_drewN ?_ _ | with_reducible refine Below.drew ?_ | with_reducible refine below_then ?_ (by with_reducible assumption)))) rfl lo hi hhW A3 n3 c3 s3 (by rfl) h3 hn3 ?_; intro A6 n6 c6 w3 Xa r3 ea fa ta k3 b3 z3; (try simp at z3))
      | (refine step_copyRows (by rfl) _ _ (by rfl) _ (by rfl) (by repeat (first | exact alloc_new' (by first | omega | (simp; done) | (simp; omega)) | rw [heap_drew] | rw [alloc_lt (by first | omega | (simp; done) | (simp; omega))] | rw [k2.block _ (by first | omega | (simp; done) | (simp; omega))] | rw [k3.out _ (by first | omega | (simp; done) | (simp; omega)) (by first | omega | (simp; done) | (simp; omega))])) W.heap.size (by first | omega | (simp; done) | (simp; omega)) W (by (repeat (first | with_reducible exact Below.refl _ _ | with_reducible assumption | with_reducible refine below_alloc ?_ _ | ((with_reducible refine Below.setCell ?_ ?_ _); rotate_left; (· first | exact Nat.le_refl _ | (simp; done) | (simp; omega))) | with_reducible refine below_drewN ?_ _ | with_reducible refine Below.drew ?_ | with_reducible refine below_then ?_ (by with_reducible assumption)))) rfl lo hi hhW A4 n4 c4 s4 (by rfl) h4 hn4 ?_; intro A7 n7 c7 w4 Xb r4 eb fb tb k4 b4 z4; (try simp at z4); obtain ⟨q0, q1, q2, q3, q4⟩ := hS.out w4 b4; have xb4 := xb.out w4 b4; obtain ⟨t0, t1, t2, t3, t4⟩ := five_cells xb4; clear xb4; have xf4 := xf.out w4 b4))
  all_goals
    have y2 := World.ownsRow.lt r2
    have y3 := World.ownsRow.lt r3
    have y4 := World.ownsRow.lt r4
    replace ea := ea.out
    replace eb := eb.out
    replace ta := ta.out
    replace tb := tb.out
    simp only [size_alloc, heap_drew] at y2 y3 y4 ea eb ta tb
    have f2 : Fr [Xa, Xb] w2 w4 := by
      repeat (first | with_reducible exact Fr.refl _ _ | with_reducible refine Fr.alloc ?_ _ | with_reducible refine Fr.drew ?_ | with_reducible refine Fr.trans ?_ (fb.more (by simp)) | with_reducible refine Fr.trans ?_ (fa.more (by simp)))
    have f3 : Fr [Xb] w3 w4 := by
      repeat (first | with_reducible exact Fr.refl _ _ | with_reducible refine Fr.alloc ?_ _ | with_reducible refine Fr.drew ?_ | with_reducible refine Fr.trans ?_ fb)
    have hsz : W.heap.size ≤ W.heap.size := Nat.le_refl _
    have R2 : IntRow w4 W.heap.size (.slice A5 n5 c5) s2 := (r2.keepR fun k h1 h2 _ => f2.block k h2 (by simp only [size_alloc, heap_drew] at h1; simp only [List.mem_cons, List.mem_nil_iff, or_false]; omega)).mono (by simp only [size_alloc, heap_drew]; omega)
    have R3 : InsRow w4 W.heap.size (.slice A6 n6 c6) s3 := r3.keepR fun k h1 h2 h => f3.block k h2 (by
      have := y3 k h
      simp only [List.mem_cons, List.mem_nil_iff, or_false]
      rcases ta with e | e <;> (rw [e] at h; injection h with h; omega))
    have hc : CdRows w4 W.heap.size (.slice A5 n5 c5) (.slice A6 n6 c6) (.slice A7 n7 c7) s2 s3 s4 := by
      refine ⟨R2, R3, r4, fun g h1 h2 => ?_, fun g h1 h2 => ?_, fun g h1 h2 => ?_⟩
      · have := y2 g h1
        rcases ta with e | e <;> (rw [e] at h2; injection h2 with h2; omega)
      · have := y2 g h1
        rcases tb with e | e <;> (rw [e] at h2; injection h2 with h2; omega)
      · have := y3 g h1
        rcases ta with e | e <;> (rw [e] at h1; injection h1 with h1; rcases tb with e2 | e2 <;> (rw [e2] at h2; injection h2 with h2; omega))
    clear R2 R3 f2 f3 y2 y3 y4 r2 r3 r4 ea eb ta tb fa fb k3 k4 hS xb xf
    go_wp2_with fail
    refine bodyPost_ret (v := .agg #[.int .i64 x0, .int .i64 x1, .slice A5 n5 c5, .slice A6 n6 c6, .slice A7 n7 c7]) (by simp [results, Tryz.results99, go_sem, t0, t1, t2, t3, t4, xf4]) rfl ?_
    refine ⟨_, _, _, _, _, _, _, _, _, rfl, (hc.fr (G := [w.heap.size + 1]) (by (repeat (first | with_reducible exact Fr.refl _ _ | with_reducible assumption | ((with_reducible refine Fr.setCell ?_ ?_ _); rotate_left; (· first | (simp; done) | assumption | (simp; assumption))) | with_reducible refine Fr.drewN ?_ _ | with_reducible refine Fr.drew ?_ | with_reducible refine Fr.alloc ?_ _ | with_reducible refine Fr.trans ?_ (Fr.of_below (by with_reducible assumption))))) (by first | omega | (simp; done) | (simp; omega))).mono (by omega), ?_⟩
    have hb4 : Below w.heap.size w w4 := hbW.trans (b4.mono (by omega))
    (repeat (first | with_reducible exact Below.refl _ _ | with_reducible assumption | with_reducible refine below_alloc ?_ _ | ((with_reducible refine Below.setCell ?_ ?_ _); rotate_left; (· first | exact Nat.le_refl _ | (simp; done) | (simp; omega))) | with_reducible refine below_drewN ?_ _ | with_reducible refine Below.drew ?_ | with_reducible refine below_then ?_ (by with_reducible assumption)))
end Go.Proofs.YtmnkgcjbckamnaaGreat
