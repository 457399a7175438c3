/- A code that is built in a block of its own: its three rows. Printed by cstgen.py. Plain lemmas. -/
import Derived.Test.YtgagbbhnifkclaaLowK
import Derived.Test.YtgagbbhnifkclaaLowRun
set_option linter.unusedVariables false
set_option linter.unusedSimpArgs false
set_option maxRecDepth 100000
namespace Go.Proofs.Ytgagbbhnifkclaa
open Go.RowKit
structure CSt (w : World) (C : Nat) (x0 x1 : Int) (v2 : Value) (ls : List Int) (v3 : Value) (li : List Ins) (v4 : Value) (lr : List Row) : Prop where
  k0 : w.cell? ⟨C, 0, none⟩ = some (.int .i64 x0)
  k1 : w.cell? ⟨C, 1, none⟩ = some (.int .i64 x1)
  k2 : w.cell? ⟨C, 2, none⟩ = some v2
  k3 : w.cell? ⟨C, 3, none⟩ = some v3
  k4 : w.cell? ⟨C, 4, none⟩ = some v4
  kf : ∀ j, w.frozen? ⟨C, j, none⟩ = false
  r2 : IntRow w (C + 1) v2 ls
  r3 : InsRow w (C + 1) v3 li
  r4 : RowRow w (C + 1) v4 lr
  d23 : ∀ g, v2.ownBlock = some g → ¬ v3.ownBlock = some g
  d24 : ∀ g, v2.ownBlock = some g → ¬ v4.ownBlock = some g
  d34 : ∀ g, v3.ownBlock = some g → ¬ v4.ownBlock = some g
section
variable {w wm w' : World} {C : Nat} {x0 x1 : Int} {v2 v3 v4 : Value} {ls : List Int} {li : List Ins} {lr : List Row}
theorem CSt.lt (h : CSt w C x0 x1 v2 ls v3 li v4 lr) : C < w.heap.size := World.block_lt_of_cell? w _ h.k0
theorem CSt.frame (h : CSt w C x0 x1 v2 ls v3 li v4 lr) (hk : ∀ k, C ≤ k → k < w.heap.size → (k = C ∨ v2.ownBlock = some k ∨ v3.ownBlock = some k ∨ v4.ownBlock = some k) → w'.heap[k]? = w.heap[k]?) : CSt w' C x0 x1 v2 ls v3 li v4 lr := by
  have hC := hk C (Nat.le_refl _) h.lt (Or.inl rfl)
  exact ⟨cell_same hC h.k0, cell_same hC h.k1, cell_same hC h.k2, cell_same hC h.k3, cell_same hC h.k4, fun j => (World.frozen?_of_block (w := w) (a := ⟨C, j, none⟩) hC).trans (h.kf j),
    h.r2.keep (fun k e => hk k (by have := (h.r2.lt k e).1; omega) (h.r2.lt k e).2 (Or.inr (Or.inl e))), h.r3.keep (fun k e => hk k (by have := (h.r3.lt k e).1; omega) (h.r3.lt k e).2 (Or.inr (Or.inr (Or.inl e)))), h.r4.keep (fun k e => hk k (by have := (h.r4.lt k e).1; omega) (h.r4.lt k e).2 (Or.inr (Or.inr (Or.inr e)))), h.d23, h.d24, h.d34⟩
theorem CSt.below (h : CSt w C x0 x1 v2 ls v3 li v4 lr) (hb : Below w.heap.size w w') : CSt w' C x0 x1 v2 ls v3 li v4 lr := h.frame (fun k _ hk _ => hb.block k hk)
/-- A code as it is laid. -/
theorem CSt.new (w : World) {C : Nat} (hC : C = w.heap.size) (x0 x1 : Int) : CSt (w.alloc (.cells #[.int .i64 x0, .int .i64 x1, .slice none 0 0, .slice none 0 0, .slice none 0 0] 44)) C x0 x1 (.slice none 0 0) [] (.slice none 0 0) [] (.slice none 0 0) [] := by
  subst hC
  exact ⟨by simp [go_sem], by simp [go_sem], by simp [go_sem], by simp [go_sem], by simp [go_sem], fun j => by simp [go_sem], IntRow.nil_ _ _, InsRow.nil_ _ _, RowRow.nil_ _ _, (fun g hg => by cases hg), (fun g hg => by cases hg), (fun g hg => by cases hg)⟩
end

/-- Row 2 has grown. -/
theorem CSt.mid2 {w wm w' : World} {C : Nat} {x0 x1 : Int} {v2 v3 v4 : Value} {ls : List Int} {li : List Ins} {lr : List Row} (h : CSt w C x0 x1 v2 ls v3 li v4 lr) (hm : Below w.heap.size w wm) (hg : wm.grownBy w' v2.ownBlock) :
    w'.cell? ⟨C, 0, none⟩ = some (.int .i64 x0) ∧ w'.cell? ⟨C, 1, none⟩ = some (.int .i64 x1) ∧ w'.cell? ⟨C, 2, none⟩ = some v2 ∧ w'.cell? ⟨C, 3, none⟩ = some v3 ∧ w'.cell? ⟨C, 4, none⟩ = some v4 ∧ ∀ j, w'.frozen? ⟨C, j, none⟩ = false := by
  have hC : w'.heap[C]? = w.heap[C]? := (grown_block hg (b := C) (Nat.lt_of_lt_of_le h.lt hm.size) (fun e => by have := (h.r2.lt C e).1; omega)).trans (hm.block C h.lt)
  exact ⟨cell_same hC h.k0, cell_same hC h.k1, cell_same hC h.k2, cell_same hC h.k3, cell_same hC h.k4, fun j => (World.frozen?_of_block (w := w) (a := ⟨C, j, none⟩) hC).trans (h.kf j)⟩
theorem CSt.put2 {w wm w' : World} {C : Nat} {x0 x1 : Int} {v2 v3 v4 u : Value} {ls : List Int} {li : List Ins} {lr : List Row} {l' : List Int} (h : CSt w C x0 x1 v2 ls v3 li v4 lr) (hm : Below w.heap.size w wm) (hg : wm.grownBy w' v2.ownBlock) (hr : IntRow w' (C + 1) u l') (hat : u.ownBlock = v2.ownBlock ∨ u.ownBlock = some wm.heap.size) :
    CSt (w'.setCell ⟨C, 2, none⟩ u) C x0 x1 u l' v3 li v4 lr := by
  obtain ⟨q0, q1, q2, q3, q4, qf⟩ := h.mid2 hm hg
  have hk : ∀ k, k < w.heap.size → ¬ k = C → ¬ v2.ownBlock = some k → (w'.setCell ⟨C, 2, none⟩ u).heap[k]? = w.heap[k]? := fun k h1 h2 h3 => (Below.heap_setCell _ _ _ _ h2).trans ((grown_block hg (Nat.lt_of_lt_of_le h1 hm.size) h3).trans (hm.block k h1))
  refine ⟨by simp [go_sem, q0], by simp [go_sem, q1], by simp [go_sem, q2], by simp [go_sem, q3], by simp [go_sem, q4], fun j => by simp [go_sem, qf], ?_, ?_, ?_, ?_, ?_, ?_⟩
  · exact hr.keep (fun k e => Below.heap_setCell _ _ _ _ (by have := (hr.lt k e).1; show k ≠ C; omega))
  · exact h.r3.keep (fun k e => hk k (h.r3.lt k e).2 (by have := (h.r3.lt k e).1; omega) (fun e2 => h.d23 k e2 e))
  · exact h.r4.keep (fun k e => hk k (h.r4.lt k e).2 (by have := (h.r4.lt k e).1; omega) (fun e2 => h.d24 k e2 e))
  · exact (fun g e e2 => by rcases hat with hat | hat; (· rw [hat] at e; exact h.d23 g e e2); (· rw [hat] at e; injection e with e; have := (h.r3.lt g e2).2; have := hm.size; omega))
  · exact (fun g e e2 => by rcases hat with hat | hat; (· rw [hat] at e; exact h.d24 g e e2); (· rw [hat] at e; injection e with e; have := (h.r4.lt g e2).2; have := hm.size; omega))
  · exact h.d34
/-- What else has turned. -/
theorem put2_fr {w wm w' : World} {C B : Nat} {v u : Value} {l : List Int} (hr : IntRow w (C + 1) v l) (hB : B ≤ C) (hBw : B ≤ w.heap.size) (hm : Below w.heap.size w wm) (hg : wm.grownBy w' v.ownBlock) : Below B w (w'.setCell ⟨C, 2, none⟩ u) :=
  ((hm.mono hBw).grown hg (Nat.le_trans hBw hm.size) (fun g e => by have := (hr.lt g e).1; omega)).setCell (p := ⟨C, 2, none⟩) hB u
/-- Row 3 has grown. -/
theorem CSt.mid3 {w wm w' : World} {C : Nat} {x0 x1 : Int} {v2 v3 v4 : Value} {ls : List Int} {li : List Ins} {lr : List Row} (h : CSt w C x0 x1 v2 ls v3 li v4 lr) (hm : Below w.heap.size w wm) (hg : wm.grownBy w' v3.ownBlock) :
    w'.cell? ⟨C, 0, none⟩ = some (.int .i64 x0) ∧ w'.cell? ⟨C, 1, none⟩ = some (.int .i64 x1) ∧ w'.cell? ⟨C, 2, none⟩ = some v2 ∧ w'.cell? ⟨C, 3, none⟩ = some v3 ∧ w'.cell? ⟨C, 4, none⟩ = some v4 ∧ ∀ j, w'.frozen? ⟨C, j, none⟩ = false := by
  have hC : w'.heap[C]? = w.heap[C]? := (grown_block hg (b := C) (Nat.lt_of_lt_of_le h.lt hm.size) (fun e => by have := (h.r3.lt C e).1; omega)).trans (hm.block C h.lt)
  exact ⟨cell_same hC h.k0, cell_same hC h.k1, cell_same hC h.k2, cell_same hC h.k3, cell_same hC h.k4, fun j => (World.frozen?_of_block (w := w) (a := ⟨C, j, none⟩) hC).trans (h.kf j)⟩
theorem CSt.put3 {w wm w' : World} {C : Nat} {x0 x1 : Int} {v2 v3 v4 u : Value} {ls : List Int} {li : List Ins} {lr : List Row} {l' : List Ins} (h : CSt w C x0 x1 v2 ls v3 li v4 lr) (hm : Below w.heap.size w wm) (hg : wm.grownBy w' v3.ownBlock) (hr : InsRow w' (C + 1) u l') (hat : u.ownBlock = v3.ownBlock ∨ u.ownBlock = some wm.heap.size) :
    CSt (w'.setCell ⟨C, 3, none⟩ u) C x0 x1 v2 ls u l' v4 lr := by
  obtain ⟨q0, q1, q2, q3, q4, qf⟩ := h.mid3 hm hg
  have hk : ∀ k, k < w.heap.size → ¬ k = C → ¬ v3.ownBlock = some k → (w'.setCell ⟨C, 3, none⟩ u).heap[k]? = w.heap[k]? := fun k h1 h2 h3 => (Below.heap_setCell _ _ _ _ h2).trans ((grown_block hg (Nat.lt_of_lt_of_le h1 hm.size) h3).trans (hm.block k h1))
  refine ⟨by simp [go_sem, q0], by simp [go_sem, q1], by simp [go_sem, q2], by simp [go_sem, q3], by simp [go_sem, q4], fun j => by simp [go_sem, qf], ?_, ?_, ?_, ?_, ?_, ?_⟩
  · exact h.r2.keep (fun k e => hk k (h.r2.lt k e).2 (by have := (h.r2.lt k e).1; omega) (fun e2 => h.d23 k e e2))
  · exact hr.keep (fun k e => Below.heap_setCell _ _ _ _ (by have := (hr.lt k e).1; show k ≠ C; omega))
  · exact h.r4.keep (fun k e => hk k (h.r4.lt k e).2 (by have := (h.r4.lt k e).1; omega) (fun e2 => h.d34 k e2 e))
  · exact (fun g e e2 => by rcases hat with hat | hat; (· rw [hat] at e2; exact h.d23 g e e2); (· rw [hat] at e2; injection e2 with e2; have := (h.r2.lt g e).2; have := hm.size; omega))
  · exact h.d24
  · exact (fun g e e2 => by rcases hat with hat | hat; (· rw [hat] at e; exact h.d34 g e e2); (· rw [hat] at e; injection e with e; have := (h.r4.lt g e2).2; have := hm.size; omega))
/-- What else has turned. -/
theorem put3_fr {w wm w' : World} {C B : Nat} {v u : Value} {l : List Ins} (hr : InsRow w (C + 1) v l) (hB : B ≤ C) (hBw : B ≤ w.heap.size) (hm : Below w.heap.size w wm) (hg : wm.grownBy w' v.ownBlock) : Below B w (w'.setCell ⟨C, 3, none⟩ u) :=
  ((hm.mono hBw).grown hg (Nat.le_trans hBw hm.size) (fun g e => by have := (hr.lt g e).1; omega)).setCell (p := ⟨C, 3, none⟩) hB u
/-- Row 4 has grown. -/
theorem CSt.mid4 {w wm w' : World} {C : Nat} {x0 x1 : Int} {v2 v3 v4 : Value} {ls : List Int} {li : List Ins} {lr : List Row} (h : CSt w C x0 x1 v2 ls v3 li v4 lr) (hm : Below w.heap.size w wm) (hg : wm.grownBy w' v4.ownBlock) :
    w'.cell? ⟨C, 0, none⟩ = some (.int .i64 x0) ∧ w'.cell? ⟨C, 1, none⟩ = some (.int .i64 x1) ∧ w'.cell? ⟨C, 2, none⟩ = some v2 ∧ w'.cell? ⟨C, 3, none⟩ = some v3 ∧ w'.cell? ⟨C, 4, none⟩ = some v4 ∧ ∀ j, w'.frozen? ⟨C, j, none⟩ = false := by
  have hC : w'.heap[C]? = w.heap[C]? := (grown_block hg (b := C) (Nat.lt_of_lt_of_le h.lt hm.size) (fun e => by have := (h.r4.lt C e).1; omega)).trans (hm.block C h.lt)
  exact ⟨cell_same hC h.k0, cell_same hC h.k1, cell_same hC h.k2, cell_same hC h.k3, cell_same hC h.k4, fun j => (World.frozen?_of_block (w := w) (a := ⟨C, j, none⟩) hC).trans (h.kf j)⟩
theorem CSt.put4 {w wm w' : World} {C : Nat} {x0 x1 : Int} {v2 v3 v4 u : Value} {ls : List Int} {li : List Ins} {lr : List Row} {l' : List Row} (h : CSt w C x0 x1 v2 ls v3 li v4 lr) (hm : Below w.heap.size w wm) (hg : wm.grownBy w' v4.ownBlock) (hr : RowRow w' (C + 1) u l') (hat : u.ownBlock = v4.ownBlock ∨ u.ownBlock = some wm.heap.size) :
    CSt (w'.setCell ⟨C, 4, none⟩ u) C x0 x1 v2 ls v3 li u l' := by
  obtain ⟨q0, q1, q2, q3, q4, qf⟩ := h.mid4 hm hg
  have hk : ∀ k, k < w.heap.size → ¬ k = C → ¬ v4.ownBlock = some k → (w'.setCell ⟨C, 4, none⟩ u).heap[k]? = w.heap[k]? := fun k h1 h2 h3 => (Below.heap_setCell _ _ _ _ h2).trans ((grown_block hg (Nat.lt_of_lt_of_le h1 hm.size) h3).trans (hm.block k h1))
  refine ⟨by simp [go_sem, q0], by simp [go_sem, q1], by simp [go_sem, q2], by simp [go_sem, q3], by simp [go_sem, q4], fun j => by simp [go_sem, qf], ?_, ?_, ?_, ?_, ?_, ?_⟩
  · exact h.r2.keep (fun k e => hk k (h.r2.lt k e).2 (by have := (h.r2.lt k e).1; omega) (fun e2 => h.d24 k e e2))
  · exact h.r3.keep (fun k e => hk k (h.r3.lt k e).2 (by have := (h.r3.lt k e).1; omega) (fun e2 => h.d34 k e e2))
  · exact hr.keep (fun k e => Below.heap_setCell _ _ _ _ (by have := (hr.lt k e).1; show k ≠ C; omega))
  · exact h.d23
  · exact (fun g e e2 => by rcases hat with hat | hat; (· rw [hat] at e2; exact h.d24 g e e2); (· rw [hat] at e2; injection e2 with e2; have := (h.r2.lt g e).2; have := hm.size; omega))
  · exact (fun g e e2 => by rcases hat with hat | hat; (· rw [hat] at e2; exact h.d34 g e e2); (· rw [hat] at e2; injection e2 with e2; have := (h.r3.lt g e).2; have := hm.size; omega))
/-- What else has turned. -/
theorem put4_fr {w wm w' : World} {C B : Nat} {v u : Value} {l : List Row} (hr : RowRow w (C + 1) v l) (hB : B ≤ C) (hBw : B ≤ w.heap.size) (hm : Below w.heap.size w wm) (hg : wm.grownBy w' v.ownBlock) : Below B w (w'.setCell ⟨C, 4, none⟩ u) :=
  ((hm.mono hBw).grown hg (Nat.le_trans hBw hm.size) (fun g e => by have := (hr.lt g e).1; omega)).setCell (p := ⟨C, 4, none⟩) hB u
/-- A row of the call's own is put where none was. -/
theorem CSt.new3 {w : World} {C : Nat} {x0 x1 : Int} {v2 v3 v4 u : Value} {ls : List Int} {li l' : List Ins} {lr : List Row} (h : CSt w C x0 x1 v2 ls v3 li v4 lr) (hr : InsRow w (C + 1) u l') (d2 : ∀ g, v2.ownBlock = some g → ¬ u.ownBlock = some g) (d4 : ∀ g, u.ownBlock = some g → ¬ v4.ownBlock = some g) : CSt (w.setCell ⟨C, 3, none⟩ u) C x0 x1 v2 ls u l' v4 lr := by
  have hk : ∀ k, ¬ k = C → (w.setCell ⟨C, 3, none⟩ u).heap[k]? = w.heap[k]? := fun k g => Below.heap_setCell _ _ _ _ g
  exact ⟨by simp [go_sem, h.k0], by simp [go_sem, h.k1], by simp [go_sem, h.k2], by simp [go_sem, h.k3], by simp [go_sem, h.k4], fun j => by simp [go_sem, h.kf], h.r2.keep (fun k e => hk k (by have := (h.r2.lt k e).1; omega)), hr.keep (fun k e => hk k (by have := (hr.lt k e).1; omega)), h.r4.keep (fun k e => hk k (by have := (h.r4.lt k e).1; omega)), d2, h.d24, d4⟩
theorem CSt.new4 {w : World} {C : Nat} {x0 x1 : Int} {v2 v3 v4 u : Value} {ls : List Int} {li : List Ins} {lr l' : List Row} (h : CSt w C x0 x1 v2 ls v3 li v4 lr) (hr : RowRow w (C + 1) u l') (d2 : ∀ g, v2.ownBlock = some g → ¬ u.ownBlock = some g) (d3 : ∀ g, v3.ownBlock = some g → ¬ u.ownBlock = some g) : CSt (w.setCell ⟨C, 4, none⟩ u) C x0 x1 v2 ls v3 li u l' := by
  have hk : ∀ k, ¬ k = C → (w.setCell ⟨C, 4, none⟩ u).heap[k]? = w.heap[k]? := fun k g => Below.heap_setCell _ _ _ _ g
  exact ⟨by simp [go_sem, h.k0], by simp [go_sem, h.k1], by simp [go_sem, h.k2], by simp [go_sem, h.k3], by simp [go_sem, h.k4], fun j => by simp [go_sem, h.kf], h.r2.keep (fun k e => hk k (by have := (h.r2.lt k e).1; omega)), h.r3.keep (fun k e => hk k (by have := (h.r3.lt k e).1; omega)), hr.keep (fun k e => hk k (by have := (hr.lt k e).1; omega)), h.d23, d2, d3⟩
/-- The call returns a code that is read. -/
def RetCodeS (c : Code) (w : World) (e : Ending) (w' : World) : Prop :=
  ∃ A2 n2 c2 A3 n3 c3 A4 n4 c4, e = .returned (.agg #[.int .i64 c.1, .int .i64 c.2.1, .slice A2 n2 c2, .slice A3 n3 c3, .slice A4 n4 c4]) ∧ Sl intR w' w.heap.size w'.heap.size A2 n2 c2 c.2.2.1 ∧ Sl InsR w' w.heap.size w'.heap.size A3 n3 c3 c.2.2.2.1 ∧ Sl RowR w' w.heap.size w'.heap.size A4 n4 c4 c.2.2.2.2 ∧ Below w.heap.size w w'

end Go.Proofs.Ytgagbbhnifkclaa
