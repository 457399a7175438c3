/- A code that is built in a block, its rows apart from it: how it grows. Plain lemmas. -/
import Derived.Test.YtmnkgcjbckamnaaGreatDropP
import Derived.Test.YtmnkgcjbckamnaaGreatThread2
set_option linter.unusedVariables false
set_option linter.unusedSimpArgs false
set_option maxRecDepth 100000
namespace Go.Proofs.YtmnkgcjbckamnaaGreat
open Go.RowKit
/-- The code's box is block C; its rows lie from block B on, each apart from the others and from the box. -/
structure DSt (w : World) (B C : Nat) (x0 x1 : Int) (v2 v3 v4 : Value) (ls : List Int) (li : List Ins) (lr : List Row) : Prop where
  k0 : w.cell? ⟨C, 0, none⟩ = some (.int .i64 x0)
  k1 : w.cell? ⟨C, 1, none⟩ = some (.int .i64 x1)
  k2 : w.cell? ⟨C, 2, none⟩ = some v2
  k3 : w.cell? ⟨C, 3, none⟩ = some v3
  k4 : w.cell? ⟨C, 4, none⟩ = some v4
  kf : ∀ j, w.frozen? ⟨C, j, none⟩ = false
  hB : B ≤ C
  cd : CdRows w B v2 v3 v4 ls li lr
  n2 : ¬ v2.ownBlock = some C
  n3 : ¬ v3.ownBlock = some C
  n4 : ¬ v4.ownBlock = some C
theorem cell_same0 {w w' : World} {b o : Nat} {v : Value} (h : w'.heap[b]? = w.heap[b]?) (hc : w.cell? ⟨b, o, none⟩ = some v) : w'.cell? ⟨b, o, none⟩ = some v := (World.cell?_of_block (w := w) (a := ⟨b, o, none⟩) h).trans hc
section
variable {w wm w' : World} {B C : Nat} {x0 x1 : Int} {v2 v3 v4 u : Value} {ls : List Int} {li li' : List Ins} {lr lr' : List Row}
theorem DSt.lt (h : DSt w B C x0 x1 v2 v3 v4 ls li lr) : C < w.heap.size := World.block_lt_of_cell? w _ h.k0
theorem DSt.keep (h : DSt w B C x0 x1 v2 v3 v4 ls li lr) (hk : ∀ k, B ≤ k → k < w.heap.size → w'.heap[k]? = w.heap[k]?) : DSt w' B C x0 x1 v2 v3 v4 ls li lr := by
  have hC := hk C h.hB h.lt
  exact ⟨cell_same0 hC h.k0, cell_same0 hC h.k1, cell_same0 hC h.k2, cell_same0 hC h.k3, cell_same0 hC h.k4, fun j => (World.frozen?_of_block (w := w) (a := ⟨C, j, none⟩) hC).trans (h.kf j), h.hB, h.cd.keep fun k a b _ => hk k a b, h.n2, h.n3, h.n4⟩
theorem DSt.fr {G : List Nat} (h : DSt w B C x0 x1 v2 v3 v4 ls li lr) (hf : Fr G w w') (hG : ∀ k, k ∈ G → k < B ∨ w.heap.size ≤ k) : DSt w' B C x0 x1 v2 v3 v4 ls li lr :=
  h.keep fun k h1 h2 => hf.block k h2 fun hm => by have := hG k hm; omega
theorem DSt.below (h : DSt w B C x0 x1 v2 v3 v4 ls li lr) (hb : Below w.heap.size w w') : DSt w' B C x0 x1 v2 v3 v4 ls li lr := h.keep fun k _ hk => hb.block k hk
/-- The row of instructions has grown, and is put. -/
theorem DSt.put3 (h : DSt w B C x0 x1 v2 v3 v4 ls li lr) (hm : ∀ k, B ≤ k → k < w.heap.size → wm.heap[k]? = w.heap[k]?) (hz : w.heap.size ≤ wm.heap.size) (hg : wm.grownBy w' v3.ownBlock) (hr : InsRow w' B u li') (hat : u.ownBlock = v3.ownBlock ∨ u.ownBlock = some wm.heap.size) :
    DSt (w'.setCell ⟨C, 3, none⟩ u) B C x0 x1 v2 u v4 ls li' lr := by
  have hlt := h.lt
  have gb : ∀ k, k < w.heap.size → ¬ v3.ownBlock = some k → w'.heap[k]? = wm.heap[k]? := fun k h1 h3 => hg.block k (Nat.lt_of_lt_of_le h1 hz) (fun e => h3 e.symm)
  have hC : w'.heap[C]? = w.heap[C]? := (gb C hlt h.n3).trans (hm C h.hB hlt)
  have hk : ∀ k, B ≤ k → k < w.heap.size → ¬ k = C → ¬ v3.ownBlock = some k → (w'.setCell ⟨C, 3, none⟩ u).heap[k]? = w.heap[k]? := fun k h0 h1 h2 h3 => (Below.heap_setCell _ _ _ _ h2).trans ((gb k h1 h3).trans (hm k h0 h1))
  have q0 := cell_same0 hC h.k0
  have q1 := cell_same0 hC h.k1
  have q2 := cell_same0 hC h.k2
  have q3 := cell_same0 hC h.k3
  have q4 := cell_same0 hC h.k4
  have qf : ∀ j, w'.frozen? ⟨C, j, none⟩ = false := fun j => (World.frozen?_of_block (w := w) (a := ⟨C, j, none⟩) hC).trans (h.kf j)
  have hnC : ¬ u.ownBlock = some C := by
    rcases hat with e | e
    · rw [e]; exact h.n3
    · rw [e]; intro e; injection e with e; omega
  refine ⟨by simp [go_sem, q0], by simp [go_sem, q1], by simp [go_sem, q2], by simp [go_sem, q3], by simp [go_sem, q4], fun j => by simp [go_sem, qf], h.hB, ⟨?_, ?_, ?_, ?_, h.cd.d24, ?_⟩, h.n2, hnC, h.n4⟩
  · exact h.cd.r2.keepR fun k a b e => hk k a b (fun ec => h.n2 (e.trans (congrArg some ec))) (h.cd.d23 k e)
  · exact hr.keepR fun k a b e => Below.heap_setCell _ _ _ _ (fun ec => hnC (e.trans (congrArg some ec)))
  · exact h.cd.r4.keepR fun k a b e => hk k a b (fun ec => h.n4 (e.trans (congrArg some ec))) (fun e3 => h.cd.d34 k e3 e)
  · intro g e e2
    rcases hat with hat | hat
    · rw [hat] at e2; exact h.cd.d23 g e e2
    · rw [hat] at e2; injection e2 with e2; have := (World.ownsRow.lt h.cd.r2 g e).2; omega
  · intro g e e2
    rcases hat with hat | hat
    · rw [hat] at e; exact h.cd.d34 g e e2
    · rw [hat] at e; injection e with e; have := (World.ownsRow.lt h.cd.r4 g e2).2; omega
/-- The row of rows has grown, and is put. -/
theorem DSt.put4 (h : DSt w B C x0 x1 v2 v3 v4 ls li lr) (hm : ∀ k, B ≤ k → k < w.heap.size → wm.heap[k]? = w.heap[k]?) (hz : w.heap.size ≤ wm.heap.size) (hg : wm.grownBy w' v4.ownBlock) (hr : RowsRow w' B u lr') (hat : u.ownBlock = v4.ownBlock ∨ u.ownBlock = some wm.heap.size) :
    DSt (w'.setCell ⟨C, 4, none⟩ u) B C x0 x1 v2 v3 u ls li lr' := by
  have hlt := h.lt
  have gb : ∀ k, k < w.heap.size → ¬ v4.ownBlock = some k → w'.heap[k]? = wm.heap[k]? := fun k h1 h3 => hg.block k (Nat.lt_of_lt_of_le h1 hz) (fun e => h3 e.symm)
  have hC : w'.heap[C]? = w.heap[C]? := (gb C hlt h.n4).trans (hm C h.hB hlt)
  have hk : ∀ k, B ≤ k → k < w.heap.size → ¬ k = C → ¬ v4.ownBlock = some k → (w'.setCell ⟨C, 4, none⟩ u).heap[k]? = w.heap[k]? := fun k h0 h1 h2 h3 => (Below.heap_setCell _ _ _ _ h2).trans ((gb k h1 h3).trans (hm k h0 h1))
  have q0 := cell_same0 hC h.k0
  have q1 := cell_same0 hC h.k1
  have q2 := cell_same0 hC h.k2
  have q3 := cell_same0 hC h.k3
  have q4 := cell_same0 hC h.k4
  have qf : ∀ j, w'.frozen? ⟨C, j, none⟩ = false := fun j => (World.frozen?_of_block (w := w) (a := ⟨C, j, none⟩) hC).trans (h.kf j)
  have hnC : ¬ u.ownBlock = some C := by
    rcases hat with e | e
    · rw [e]; exact h.n4
    · rw [e]; intro e; injection e with e; omega
  refine ⟨by simp [go_sem, q0], by simp [go_sem, q1], by simp [go_sem, q2], by simp [go_sem, q3], by simp [go_sem, q4], fun j => by simp [go_sem, qf], h.hB, ⟨?_, ?_, ?_, h.cd.d23, ?_, ?_⟩, h.n2, h.n3, hnC⟩
  · exact h.cd.r2.keepR fun k a b e => hk k a b (fun ec => h.n2 (e.trans (congrArg some ec))) (h.cd.d24 k e)
  · exact h.cd.r3.keepR fun k a b e => hk k a b (fun ec => h.n3 (e.trans (congrArg some ec))) (h.cd.d34 k e)
  · exact hr.keepR fun k a b e => Below.heap_setCell _ _ _ _ (fun ec => hnC (e.trans (congrArg some ec)))
  · intro g e e2
    rcases hat with hat | hat
    · rw [hat] at e2; exact h.cd.d24 g e e2
    · rw [hat] at e2; injection e2 with e2; have := (World.ownsRow.lt h.cd.r2 g e).2; omega
  · intro g e e2
    rcases hat with hat | hat
    · rw [hat] at e2; exact h.cd.d34 g e e2
    · rw [hat] at e2; injection e2 with e2; have := (World.ownsRow.lt h.cd.r3 g e).2; omega
/-- What else has turned by such a put: nothing but the blocks of G. -/
theorem put_fr {G : List Nat} {W : World} {v : Value} {i : Nat} (hf : Fr G W w) (hm : Fr G w wm) (hg : wm.grownBy w' v.ownBlock) (h3 : ∀ g, v.ownBlock = some g → W.heap.size ≤ g) (hC : C ∈ G) : Fr G W (w'.setCell ⟨C, i, none⟩ u) :=
  (fr_new (hf.trans hm) (grown_fr hg) (fun g hg => h3 g (by simpa using hg))).setCell (p := ⟨C, i, none⟩) hC u
/-- An instruction's N is put anew. -/
theorem DSt.patch {g n c : Nat} (h : DSt w B C x0 x1 v2 (.slice (some ⟨g, 0, none⟩) n c) v4 ls li lr) {i : Nat} (hi : i < li.length) (b : Int) :
    DSt (w.setCell ⟨g, i * 2 + 1, none⟩ (.int .i64 b)) B C x0 x1 v2 (.slice (some ⟨g, 0, none⟩) n c) v4 ls (li.set i ((li[i]).1, b)) lr := by
  have hgC : ¬ C = g := fun e => h.n3 (by rw [e]; rfl)
  have hk : ∀ k, ¬ k = g → (w.setCell ⟨g, i * 2 + 1, none⟩ (.int .i64 b)).heap[k]? = w.heap[k]? := fun k hk => Below.heap_setCell _ _ _ _ hk
  have hC := hk C hgC
  refine ⟨cell_same0 hC h.k0, cell_same0 hC h.k1, cell_same0 hC h.k2, cell_same0 hC h.k3, cell_same0 hC h.k4, fun j => (World.frozen?_of_block (w := w) (a := ⟨C, j, none⟩) hC).trans (h.kf j), h.hB, ?_, h.n2, h.n3, h.n4⟩
  refine ⟨h.cd.r2.keepR fun k a b e => hk k (fun ec => h.cd.d23 k e (by rw [ec]; rfl)), ?_, h.cd.r4.keepR fun k a b e => hk k (fun ec => h.cd.d34 k (by rw [ec]; rfl) e), h.cd.d23, h.cd.d24, h.cd.d34⟩
  have hr := h.cd.r3
  obtain ⟨A', m', c', e, rfl⟩ := hr.form
  injection e with e1 e2 e3
  subst e2
  unfold InsRow at hr ⊢
  rw [List.length_set]
  have h2 := (World.ownsRow.stored hr (i * 2 + 1) (.int .i64 b)).1
  rw [encL_set insV_len li i hi 1 (by decide) _ ((li[i]).1, b) rfl] at h2
  exact h2
end
/-- The places, first of a made array. -/
theorem places_I64 {h : List Int} {n : Nat} (hn : n ≤ 1048576) : ∀ v, v ∈ places h n → I64 v := by
  intro v hv
  unfold places at hv
  obtain ⟨k, hk, rfl⟩ := List.mem_map.1 hv
  have := List.mem_range.1 hk
  have := plN_le h k
  unfold I64; omega
theorem plI_nat (h : List Int) (q : Nat) : plI h (q : Int) = (plN h q : Int) := rfl
theorem patI_jump {h : List Int} {o : Int} {q : Nat} (hj : isJ o = true) : patI h (o, (q : Int)) = (o, (plN h q : Int)) := by unfold patI; rw [if_pos hj]; rfl
theorem patI_no {h : List Int} {i : Ins} (hj : isJ i.1 = false) : patI h i = i := by unfold patI; rw [if_neg (by simp [hj])]
/-- After k rounds of the patching. -/
def patK (h : List Int) (L : List Ins) (k : Nat) : List Ins := (L.take k).map (patI h) ++ L.drop k
theorem patK_len (h : List Int) (L : List Ins) (k : Nat) : (patK h L k).length = L.length := by
  unfold patK
  rw [List.length_append, List.length_map, ← List.length_append, List.take_append_drop]
theorem patK_0 (h : List Int) (L : List Ins) : patK h L 0 = L := by simp [patK]
theorem patK_all {h : List Int} {L : List Ins} {k : Nat} (hk : L.length ≤ k) : patK h L k = L.map (patI h) := by simp [patK, List.take_of_length_le hk, List.drop_of_length_le hk]
theorem patK_at {h : List Int} {L : List Ins} {k : Nat} (hk : k < L.length) : (patK h L k)[k]'(by rw [patK_len]; exact hk) = L[k] := by
  unfold patK
  rw [List.getElem_append_right (by simp; omega)]
  simp [Nat.min_eq_left (Nat.le_of_lt hk)]
theorem patK_set {h : List Int} {L : List Ins} {k : Nat} (hk : k < L.length) {i : Ins} (hi : i = patI h L[k]) : (patK h L k).set k i = patK h L (k + 1) := by
  subst hi
  unfold patK
  rw [List.set_append_right _ _ (by simp; omega)]
  simp only [List.length_map, List.length_take, Nat.min_eq_left (Nat.le_of_lt hk), Nat.sub_self]
  rw [List.drop_eq_getElem_cons hk, List.set_cons_zero, List.take_succ_eq_append_getElem hk, List.map_append]
  simp
theorem patK_skip {h : List Int} {L : List Ins} {k : Nat} (hk : k < L.length) (hj : isJ L[k].1 = false) : patK h L (k + 1) = patK h L k := by
  rw [← patK_set hk (i := L[k]) (patI_no hj).symm]
  have e := List.set_getElem_self (show k < (patK h L k).length by rw [patK_len]; exact hk)
  rw [patK_at hk] at e
  exact e
end Go.Proofs.YtmnkgcjbckamnaaGreat
