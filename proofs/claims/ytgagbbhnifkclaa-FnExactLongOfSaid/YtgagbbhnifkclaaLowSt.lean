/- The state of a function's translation: what it is, and one instruction more. -/
import Derived.Test.YtgagbbhnifkclaaLow1
import Derived.Test.YtgagbbhnifkclaaOrder
set_option linter.unusedVariables false
set_option linter.unusedSimpArgs false
set_option maxRecDepth 100000
namespace Go.Proofs.Ytgagbbhnifkclaa
open Go.RowKit
/-- Block L is a translation's state: the function, its sites, and the instructions so far, in a row of its own. -/
structure LowSt (w : World) (L : Nat) (c0 c1 c2 c3 c4 : Value) (v : Value) (xs : List Ins) : Prop where
  p0 : w.cell? ⟨L, 0, none⟩ = some c0
  p1 : w.cell? ⟨L, 1, none⟩ = some c1
  p2 : w.cell? ⟨L, 2, none⟩ = some c2
  p3 : w.cell? ⟨L, 3, none⟩ = some c3
  p4 : w.cell? ⟨L, 4, none⟩ = some c4
  p5 : w.cell? ⟨L, 5, none⟩ = some v
  fz : ∀ j, w.frozen? ⟨L, j, none⟩ = false
  row : InsRow w (L + 1) v xs
section
variable {w w' wm w2 : World} {L : Nat} {c0 c1 c2 c3 c4 v v' : Value} {xs ys : List Ins}
theorem LowSt.lt (h : LowSt w L c0 c1 c2 c3 c4 v xs) : L < w.heap.size := World.block_lt_of_cell? w _ h.p0
theorem LowSt.keep (h : LowSt w L c0 c1 c2 c3 c4 v xs) (hb : Below w.heap.size w w') : LowSt w' L c0 c1 c2 c3 c4 v xs :=
  ⟨below_cell hb h.p0, below_cell hb h.p1, below_cell hb h.p2, below_cell hb h.p3, below_cell hb h.p4, below_cell hb h.p5, fun j => (hb.frozen (p := ⟨L, j, none⟩) h.lt).trans (h.fz j), h.row.below hb⟩
theorem LowSt.ne (h : LowSt w L c0 c1 c2 c3 c4 v xs) : ¬ v.ownBlock = some L := fun e => by have := (h.row.lt L e).1; omega
theorem grown_block {w w' : World} {r : Option Nat} (hg : w.grownBy w' r) {b : Nat} (hb : b < w.heap.size) (hn : ¬ r = some b) : w'.heap[b]? = w.heap[b]? := hg.block b hb (fun e => hn e.symm)
theorem cell_same {w w' : World} {b o : Nat} {u : Value} (hk : w'.heap[b]? = w.heap[b]?) (h : w.cell? ⟨b, o, none⟩ = some u) : w'.cell? ⟨b, o, none⟩ = some u := (World.cell?_of_block (w := w) (a := ⟨b, o, none⟩) hk).trans h
/-- Behind an append onto its row: the state as it was, but for the row. -/
theorem LowSt.mid (h : LowSt w L c0 c1 c2 c3 c4 v xs) (hm : Below w.heap.size w wm) (hg : wm.grownBy w2 v.ownBlock) :
    (w2.cell? ⟨L, 0, none⟩ = some c0 ∧ w2.cell? ⟨L, 1, none⟩ = some c1 ∧ w2.cell? ⟨L, 2, none⟩ = some c2 ∧ w2.cell? ⟨L, 3, none⟩ = some c3 ∧ w2.cell? ⟨L, 4, none⟩ = some c4 ∧ w2.cell? ⟨L, 5, none⟩ = some v) ∧ ∀ j, w2.frozen? ⟨L, j, none⟩ = false := by
  have hk := grown_block hg (b := L) (Nat.lt_of_lt_of_le h.lt hm.size) h.ne
  have h' := h.keep hm
  exact ⟨⟨cell_same hk h'.p0, cell_same hk h'.p1, cell_same hk h'.p2, cell_same hk h'.p3, cell_same hk h'.p4, cell_same hk h'.p5⟩, fun j => (World.frozen?_of_block (w := wm) (a := ⟨L, j, none⟩) hk).trans (h'.fz j)⟩
theorem LowSt.lt_own (h : LowSt w L c0 c1 c2 c3 c4 v xs) : ∀ g, v.ownBlock = some g → L < g ∧ g < w.heap.size := fun g hg => by have := h.row.lt g hg; omega
theorem LowSt.put (h : LowSt w L c0 c1 c2 c3 c4 v xs) (hm : Below w.heap.size w wm) (hg : wm.grownBy w2 v.ownBlock) (hr : InsRow w2 (L + 1) v' ys) :
    LowSt (w2.setCell ⟨L, 5, none⟩ v') L c0 c1 c2 c3 c4 v' ys ∧ Fr (L :: v.ownBlock.toList) w (w2.setCell ⟨L, 5, none⟩ v') := by
  obtain ⟨⟨q0, q1, q2, q3, q4, q5⟩, qf⟩ := h.mid hm hg
  have hn : ∀ g, v'.ownBlock = some g → ¬ g = L := fun g hg e => by have := (hr.lt g hg).1; omega
  refine ⟨⟨by simp [go_sem, q0], by simp [go_sem, q1], by simp [go_sem, q2], by simp [go_sem, q3], by simp [go_sem, q4], by simp [go_sem, q5], fun j => by simp [go_sem, qf], ?_⟩, ?_⟩
  · exact ownsRow_keep0 hr fun k hk => Below.heap_setCell _ _ _ _ (hn k hk)
  · exact Fr.setCell (Fr.trans (Fr.of_below hm) ((fr_grown hg).more (fun k hk => List.mem_cons_of_mem _ hk))) (by simp) v'
end
/-- The call has appended instructions. -/
def RetLow (L : Nat) (c0 c1 c2 c3 c4 v : Value) (ys : List Ins) (r : Value) (w : World) (e : Ending) (w' : World) : Prop :=
  ∃ v', e = .returned r ∧ LowSt w' L c0 c1 c2 c3 c4 v' ys ∧ Fr (L :: v.ownBlock.toList) w w' ∧ (v'.ownBlock = v.ownBlock ∨ ∀ g, v'.ownBlock = some g → w.heap.size ≤ g)
theorem low_trans {a b c : World} {L : Nat} {v v1 : Value} (h : Fr (L :: v.ownBlock.toList) a b) (ho : v1.ownBlock = v.ownBlock ∨ ∀ g, v1.ownBlock = some g → a.heap.size ≤ g) (k : Fr (L :: v1.ownBlock.toList) b c) : Fr (L :: v.ownBlock.toList) a c := by
  refine ⟨k.os.trans h.os, k.tape.trans h.tape, k.output.trans h.output, Nat.le_trans h.size k.size, fun i hi hn => ?_⟩
  simp only [List.mem_cons, not_or] at hn
  rw [k.block i (Nat.lt_of_lt_of_le hi h.size) ?_, h.block i hi (by simpa using hn)]
  intro hx
  rcases List.mem_cons.1 hx with rfl | hx
  · exact hn.1 rfl
  · rcases ho with ho | ho
    · rw [ho] at hx; exact hn.2 hx
    · have := ho i (by simpa using hx); omega
set_option maxHeartbeats 2000000 in
theorem implAdd (w : World) (L : Nat) (c0 c1 c2 c3 c4 v : Value) (xs : List Ins) (op k : Int) (h : LowSt w L c0 c1 c2 c3 c4 v xs) (hl : xs.length ≤ 1099511627776) :
    Calls Try.prog 178 #[.pointer (some ⟨L, 0, none⟩), .int .i64 op, .int .i64 k] w (RetLow L c0 c1 c2 c3 c4 v (xs ++ [(op, k)]) (.int .i64 xs.length) w) := by
  have p5 := h.p5
  have hL := h.lt
  have hrow := h.row
  go_enter Try.func178, Try.ntmps178
  go_wp2_with (at_builtin; refine wpl_app1 _ rfl _ _ rfl (L + 1) v xs rfl (hrow.below (show Below w.heap.size w _ by (repeat (first | with_reducible exact Below.refl _ _ | with_reducible assumption | with_reducible refine below_alloc ?_ _ | ((with_reducible refine Below.setCell ?_ ?_ _); rotate_left; (· first | exact Nat.le_refl _ | (simp; done) | (simp; omega))) | with_reducible refine below_drewN ?_ _ | with_reducible refine Below.drew ?_ | with_reducible refine below_then ?_ (by with_reducible assumption))))) ⟨w.heap.size, 0, none⟩ 1 op k rfl (cell_new2 _ _ _ _ (by simp)) hl (by simp; omega) ?_)
  intro v' w2 hown hgr hat
  have hm : Below w.heap.size w (w.alloc (.cells #[.int .i64 op, .int .i64 k] 165)) := by (repeat (first | with_reducible exact Below.refl _ _ | with_reducible assumption | with_reducible refine below_alloc ?_ _ | ((with_reducible refine Below.setCell ?_ ?_ _); rotate_left; (· first | exact Nat.le_refl _ | (simp; done) | (simp; omega))) | with_reducible refine below_drewN ?_ _ | with_reducible refine Below.drew ?_ | with_reducible refine below_then ?_ (by with_reducible assumption)))
  obtain ⟨⟨q0, q1, q2, q3, q4, q5⟩, qf⟩ := h.mid hm hgr
  have qf5 := qf 5
  have hput := h.put hm hgr hown
  clear q0 q1 q2 q3 q4 qf
  obtain ⟨A', n', c', rfl, hn'⟩ := hown.form
  have hn1 : n' = xs.length + 1 := by rw [hn']; simp
  have hle : n' ≤ 1099511627777 := by omega
  have HN := Lib.hid hn1
  clear hn1 hn'
  go_wp2_with fail
  go_ret
  refine ⟨_, ret_int (by have := HN.out; omega), hput.1, hput.2, ?_⟩
  rcases hat with hat | hat
  · exact Or.inl hat
  · exact Or.inr fun g hg => by rw [hat] at hg; injection hg with hg; first | omega | (simp at hg; omega)
end Go.Proofs.Ytgagbbhnifkclaa
