/- Letting what leads to a jump lead where that leads: walks of both sides. -/
import Derived.Test.YtmnkgcjbckamnaaGreatCloneC
import Derived.Test.YtmnkgcjbckamnaaGreatOwnI
import Derived.Test.YtmnkgcjbckamnaaGreatSized2
import Derived.Deep.RegionHeld3
import Derived.Deep.QuietTactic
import Derived.BigQuiet
set_option linter.unusedVariables false
set_option linter.unusedSimpArgs false
set_option maxRecDepth 100000
namespace Go.Proofs.YtmnkgcjbckamnaaGreat
open Go.RowKit
/-- A code in memory of the call's own: its three rows lie apart. -/
structure CdRows (w : World) (B : Nat) (v2 v3 v4 : Value) (s2 : List Int) (s3 : List Ins) (s4 : List Row) : Prop where
  r2 : IntRow w B v2 s2
  r3 : InsRow w B v3 s3
  r4 : RowsRow w B v4 s4
  d23 : ∀ g, v2.ownBlock = some g → ¬ v3.ownBlock = some g
  d24 : ∀ g, v2.ownBlock = some g → ¬ v4.ownBlock = some g
  d34 : ∀ g, v3.ownBlock = some g → ¬ v4.ownBlock = some g
def RetCd (x0 x1 : Int) (s2 : List Int) (s3 : List Ins) (s4 : List Row) (w : World) (e : Ending) (w' : World) : Prop :=
  ∃ A2 n2 c2 A3 n3 c3 A4 n4 c4, e = .returned (.agg #[.int .i64 x0, .int .i64 x1, .slice A2 n2 c2, .slice A3 n3 c3, .slice A4 n4 c4]) ∧ CdRows w' w.heap.size (.slice A2 n2 c2) (.slice A3 n3 c3) (.slice A4 n4 c4) s2 s3 s4 ∧ Below w.heap.size w w'
section
variable {w w' : World} {B : Nat} {v2 v3 v4 : Value} {s2 : List Int} {s3 s3' : List Ins} {s4 : List Row}
theorem InsRow.keepR {b : Nat} {v : Value} {l : List Ins} (h : InsRow w b v l) (hk : ∀ k, b ≤ k → k < w.heap.size → v.ownBlock = some k → w'.heap[k]? = w.heap[k]?) : InsRow w' b v l := ownsRow_keep0 h fun k e => hk k (World.ownsRow.lt h k e).1 (World.ownsRow.lt h k e).2 e
theorem RowsRow.keepR {b : Nat} {v : Value} {l : List Row} (h : RowsRow w b v l) (hk : ∀ k, b ≤ k → k < w.heap.size → v.ownBlock = some k → w'.heap[k]? = w.heap[k]?) : RowsRow w' b v l := ownsRow_keep0 h fun k e => hk k (World.ownsRow.lt h k e).1 (World.ownsRow.lt h k e).2 e
theorem RowsRow.mono {b b' : Nat} {v : Value} {l : List Row} (h : RowsRow w b v l) (hb : b' ≤ b) : RowsRow w b' v l := World.ownsRow.mono h hb
theorem RowsRow.below {b : Nat} {v : Value} {l : List Row} (h : RowsRow w b v l) (hb : Below w.heap.size w w') : RowsRow w' b v l := ownsRow_below h hb
theorem CdRows.keep (h : CdRows w B v2 v3 v4 s2 s3 s4) (hk : ∀ k, B ≤ k → k < w.heap.size → (v2.ownBlock = some k ∨ v3.ownBlock = some k ∨ v4.ownBlock = some k) → w'.heap[k]? = w.heap[k]?) : CdRows w' B v2 v3 v4 s2 s3 s4 :=
  ⟨h.r2.keepR fun k a b e => hk k a b (.inl e), h.r3.keepR fun k a b e => hk k a b (.inr (.inl e)), h.r4.keepR fun k a b e => hk k a b (.inr (.inr e)), h.d23, h.d24, h.d34⟩
theorem CdRows.mono {B' : Nat} (h : CdRows w B v2 v3 v4 s2 s3 s4) (hB : B' ≤ B) : CdRows w B' v2 v3 v4 s2 s3 s4 := ⟨h.r2.mono hB, h.r3.mono hB, h.r4.mono hB, h.d23, h.d24, h.d34⟩
theorem CdRows.below (h : CdRows w B v2 v3 v4 s2 s3 s4) (hb : Below w.heap.size w w') : CdRows w' B v2 v3 v4 s2 s3 s4 := h.keep fun k _ hk _ => hb.block k hk
/-- Nothing but blocks of G has turned, and G holds none of the rows' blocks. -/
theorem CdRows.fr {G : List Nat} (h : CdRows w B v2 v3 v4 s2 s3 s4) (hf : Fr G w w') (hG : ∀ k, k ∈ G → k < B ∨ w.heap.size ≤ k) : CdRows w' B v2 v3 v4 s2 s3 s4 := h.keep fun k h1 h2 _ => hf.block k h2 fun hm => by have := hG k hm; omega
/-- The row of instructions, and its block alone, has turned. -/
theorem CdRows.put (h : CdRows w B v2 v3 v4 s2 s3 s4) (hr : InsRow w' B v3 s3') (hf : Fr v3.ownBlock.toList w w') : CdRows w' B v2 v3 v4 s2 s3' s4 :=
  ⟨h.r2.keepR fun k a b e => hf.block k b (by simpa using h.d23 k e), hr, h.r4.keepR fun k a b e => hf.block k b (by simpa using fun e' => h.d34 k e' e), h.d23, h.d24, h.d34⟩
end
theorem insRow_some {w : World} {b : Nat} {v : Value} {l : List Ins} (h : InsRow w b v l) (hl : 0 < l.length) : ∃ g cap, v = .slice (some ⟨g, 0, none⟩) l.length cap := by
  rcases h.2 with ⟨_, h0⟩ | ⟨g, cap, cur, h, _⟩
  · omega
  · exact ⟨g, cap, h⟩
theorem insRow_at {w : World} {b g m c k : Nat} {l : List Ins} (h : InsRow w b (.slice (some ⟨g, 0, none⟩) m c) l) (hk : k < l.length) : w.cell? ⟨g, k * 2, none⟩ = some (.int .i64 l[k].1) ∧ w.cell? ⟨g, k * 2 + 1, none⟩ = some (.int .i64 l[k].2) := by
  obtain ⟨A', m', c', e, rfl⟩ := h.form
  injection e with e1 e2 e3
  subst e2
  have h' : w.ownsRow b 119 2 (.slice (some ⟨g, 0, none⟩) l.length c) l.length (encL insV l) := h
  have h0 := h'.cellAt (k * 2) (by omega)
  have h1 := h'.cellAt (k * 2 + 1) (by omega)
  have a0 := encL_at insV_len l k hk 0 (by decide)
  have a1 := encL_at insV_len l k hk 1 (by decide)
  rw [h0, h1, show k * 2 = k * 2 + 0 from rfl, a0, a1]
  exact ⟨rfl, rfl⟩
/-- One instruction is put anew. -/
theorem ins_put {w : World} {base g n c : Nat} {l : List Ins} (h : InsRow w base (.slice (some ⟨g, 0, none⟩) n c) l) {i : Nat} (hi : i < l.length) (a b : Int) :
    InsRow ((w.setCell ⟨g, i * 2, none⟩ (.int .i64 a)).setCell ⟨g, i * 2 + 1, none⟩ (.int .i64 b)) base (.slice (some ⟨g, 0, none⟩) n c) (l.set i (a, b)) := by
  obtain ⟨A', m', c', e, rfl⟩ := h.form
  injection e with e1 e2 e3
  subst e2
  unfold InsRow at h ⊢
  rw [List.length_set]
  have h1 := (h.stored (i * 2 + 0) (.int .i64 a)).1
  rw [encL_set insV_len l i hi 0 (by decide) _ (a, (l[i]).2) rfl] at h1
  have h2 := (h1.stored (i * 2 + 1) (.int .i64 b)).1
  rw [encL_set insV_len (l.set i (a, (l[i]).2)) i (by simpa using hi) 1 (by decide) _ (a, b) (by simp [insV]), List.set_set] at h2
  exact h2
theorem rows_form {w : World} {b : Nat} {v : Value} {l : List Row} (h : RowsRow w b v l) : ∃ A m c, v = .slice A m c ∧ m = l.length := by
  rcases h.2 with ⟨rfl, h0⟩ | ⟨g, cap, cur, rfl, _⟩
  · exact ⟨_, _, _, rfl, h0.symm⟩
  · exact ⟨_, _, _, rfl, rfl⟩
theorem five_cells {w : World} {b : Nat} {v0 v1 v2 v3 v4 : Value} {t : TypeId} (h : w.heap[b]? = some (.cells #[v0, v1, v2, v3, v4] t)) : w.cell? ⟨b, 0, none⟩ = some v0 ∧ w.cell? ⟨b, 1, none⟩ = some v1 ∧ w.cell? ⟨b, 2, none⟩ = some v2 ∧ w.cell? ⟨b, 3, none⟩ = some v3 ∧ w.cell? ⟨b, 4, none⟩ = some v4 :=
  ⟨by rw [cell_of_row _ _ _ _ _ _ h]; rfl, by rw [cell_of_row _ _ _ _ _ _ h]; rfl, by rw [cell_of_row _ _ _ _ _ _ h]; rfl, by rw [cell_of_row _ _ _ _ _ _ h]; rfl, by rw [cell_of_row _ _ _ _ _ _ h]; rfl⟩
set_option maxHeartbeats 16000000 in
theorem implCloneCode (w : World) (lo hi : Nat) (x0 x1 : Int) (A2 A3 A4 : Option Addr) (n2 c2 n3 c3 n4 c4 : Nat) (s2 : List Int) (s3 : List Ins) (s4 : List Row) (h2 : Sl intR w lo hi A2 n2 c2 s2) (h3 : Sl InsR w lo hi A3 n3 c3 s3) (h4 : Sl RowR w lo hi A4 n4 c4 s4) (hh : hi ≤ w.heap.size) (hn2 : n2 ≤ 1048576) (hn3 : n3 ≤ 1048576) (hn4 : n4 ≤ 1048576) :
    Calls Tryz.prog 161 #[.agg #[.int .i64 x0, .int .i64 x1, .slice A2 n2 c2, .slice A3 n3 c3, .slice A4 n4 c4]] w (RetCd x0 x1 s2 s3 s4 w) := by
  go_enter Tryz.func161, Tryz.ntmps161
  go_wp2_with fail
  obtain ⟨W, hW⟩ : ∃ W, W = (w.alloc (.cells #[.int .i64 x0, .int .i64 x1, .slice A2 n2 c2, .slice A3 n3 c3, .slice A4 n4 c4] 30)).alloc (.cells #[.int .i64 0, .int .i64 0, .slice none 0 0, .slice none 0 0, .slice none 0 0] 30) := ⟨_, rfl⟩
  have hbW : Below w.heap.size w W := by rw [hW]; (repeat (first | with_reducible exact Below.refl _ _ | with_reducible assumption | with_reducible refine below_alloc ?_ _ | ((with_reducible refine Below.setCell ?_ ?_ _); rotate_left; (· first | exact Nat.le_refl _ | (simp; done) | (simp; omega))) | with_reducible refine below_drewN ?_ _ | with_reducible refine Below.drew ?_ | with_reducible refine below_then ?_ (by with_reducible assumption)))
  have hzW : W.heap.size = w.heap.size + 2 := by rw [hW]; simp
  have e0 : W.cell? ⟨w.heap.size, 0, none⟩ = some (.int .i64 x0) := by rw [hW]; simp [go_sem]
  have e1 : W.cell? ⟨w.heap.size, 1, none⟩ = some (.int .i64 x1) := by rw [hW]; simp [go_sem]
  have e2 : W.cell? ⟨w.heap.size, 2, none⟩ = some (.slice A2 n2 c2) := by rw [hW]; simp [go_sem]
  have e3 : W.cell? ⟨w.heap.size, 3, none⟩ = some (.slice A3 n3 c3) := by rw [hW]; simp [go_sem]
  have e4 : W.cell? ⟨w.heap.size, 4, none⟩ = some (.slice A4 n4 c4) := by rw [hW]; simp [go_sem]
  have xb := Lib.hid (show W.heap[w.heap.size + 1]? = some (.cells #[.int .i64 0, .int .i64 0, .slice none 0 0, .slice none 0 0, .slice none 0 0] 30) by
    have := heap_alloc_new (w.alloc (.cells #[.int .i64 x0, .int .i64 x1, .slice A2 n2 c2, .slice A3 n3 c3, .slice A4 n4 c4] 30)) (.cells #[.int .i64 0, .int .i64 0, .slice none 0 0, .slice none 0 0, .slice none 0 0] 30)
    rw [hW]; simpa using this)
  have xf := Lib.hid (show ∀ j, W.frozen? ⟨w.heap.size + 1, j, none⟩ = false from fun j => by rw [hW]; simp [go_sem])
  rw [← hW]
  clear hW
  replace h2 := h2.below hbW hh
  replace h3 := h3.below hbW hh
  replace h4 := h4.below hbW hh
  go_region_held3 (fun V => V.cell? ⟨w.heap.size, 0, none⟩ = some (.int .i64 x0) ∧ V.cell? ⟨w.heap.size, 1, none⟩ = some (.int .i64 x1) ∧ V.cell? ⟨w.heap.size, 2, none⟩ = some (.slice A2 n2 c2) ∧ V.cell? ⟨w.heap.size, 3, none⟩ = some (.slice A3 n3 c3) ∧ V.cell? ⟨w.heap.size, 4, none⟩ = some (.slice A4 n4 c4)) (first | (refine ⟨?_, ?_, ?_, ?_, ?_⟩ <;> simp [go_sem, e0, e1, e2, e3, e4]) | (refine ⟨?_, ?_, ?_, ?_, ?_⟩ <;> simp [go_sem, d0, d1, d2, d3, d4]) | (refine ⟨?_, ?_, ?_, ?_, ?_⟩ <;> simp [go_sem, p0, p1, p2, p3, p4]) | (refine ⟨?_, ?_, ?_, ?_, ?_⟩ <;> simp [go_sem, q0, q1, q2, q3, q4]))
    (first
      | (go_at_call 95; ((with_reducible refine (cloneIntsR _ lo hi A2 n2 c2 s2 (h2.below (show Below W.heap.size W _ by (repeat (first | with_reducible exact Below.refl _ _ | with_reducible assumption | with_reducible refine below_alloc ?_ _ | ((with_reducible refine Below.setCell ?_ ?_ _); rotate_left; (· first | exact Nat.le_refl _ | (simp; done) | (simp; omega))) | with_reducible refine below_drewN ?_ _ | with_reducible refine Below.drew ?_ | with_reducible refine below_then ?_ (by with_reducible assumption)))) (by omega)) (by first | omega | (simp; done) | (simp; omega)) hn2).mono ?_); rintro e w2 ⟨v2, rfl, r2, b2'⟩; have b2 : Below W.heap.size W w2 := (by (repeat (first | with_reducible exact Below.refl _ _ | with_reducible assumption | with_reducible refine below_alloc ?_ _ | ((with_reducible refine Below.setCell ?_ ?_ _); rotate_left; (· first | exact Nat.le_refl _ | (simp; done) | (simp; omega))) | with_reducible refine below_drewN ?_ _ | with_reducible refine Below.drew ?_ | with_reducible refine below_then ?_ (by with_reducible assumption)))); have z2 : W.heap.size ≤ w2.heap.size := b2.size; have d0 := below_cell b2 e0; have d1 := below_cell b2 e1; have d2 := below_cell b2 e2; have d3 := below_cell b2 e3; have d4 := below_cell b2 e4; obtain ⟨A5, n5, c5, rfl, m5⟩ := r2.form; clear m5 e0 e1 e2 e3 e4))
      | (go_at_call 193; ((with_reducible refine (cloneInsR _ lo hi A3 n3 c3 s3 ((h3.below b2 (by omega)).below (show Below w2.heap.size w2 _ by (repeat (first | with_reducible exact Below.refl _ _ | with_reducible assumption | with_reducible refine below_alloc ?_ _ | ((with_reducible refine Below.setCell ?_ ?_ _); rotate_left; (· first | exact Nat.le_refl _ | (simp; done) | (simp; omega))) | with_reducible refine below_drewN ?_ _ | with_reducible refine Below.drew ?_ | with_reducible refine below_then ?_ (by with_reducible assumption)))) (by omega)) (by first | omega | (simp; done) | (simp; omega)) hn3).mono ?_); rintro e w3 ⟨v3, rfl, r3, b3'⟩; have b3 : Below w2.heap.size w2 w3 := (by (repeat (first | with_reducible exact Below.refl _ _ | with_reducible assumption | with_reducible refine below_alloc ?_ _ | ((with_reducible refine Below.setCell ?_ ?_ _); rotate_left; (· first | exact Nat.le_refl _ | (simp; done) | (simp; omega))) | with_reducible refine below_drewN ?_ _ | with_reducible refine Below.drew ?_ | with_reducible refine below_then ?_ (by with_reducible assumption)))); have z3 : w2.heap.size ≤ w3.heap.size := b3.size; have p0 := below_cell b3 d0; have p1 := below_cell b3 d1; have p2 := below_cell b3 d2; have p3 := below_cell b3 d3; have p4 := below_cell b3 d4; obtain ⟨A6, n6, c6, rfl, m6⟩ := r3.form; clear m6 d0 d1 d2 d3 d4))
      | (go_at_call 194; ((with_reducible refine (cloneRowsR _ lo hi A4 n4 c4 s4 ((h4.below (below_then b2 b3) (by omega)).below (show Below w3.heap.size w3 _ by (repeat (first | with_reducible exact Below.refl _ _ | with_reducible assumption | with_reducible refine below_alloc ?_ _ | ((with_reducible refine Below.setCell ?_ ?_ _); rotate_left; (· first | exact Nat.le_refl _ | (simp; done) | (simp; omega))) | with_reducible refine below_drewN ?_ _ | with_reducible refine Below.drew ?_ | with_reducible refine below_then ?_ (by with_reducible assumption)))) (by omega)) (by first | omega | (simp; done) | (simp; omega)) hn4).mono ?_); rintro e w4 ⟨v4, rfl, r4, b4'⟩; have b4 : Below w3.heap.size w3 w4 := (by (repeat (first | with_reducible exact Below.refl _ _ | with_reducible assumption | with_reducible refine below_alloc ?_ _ | ((with_reducible refine Below.setCell ?_ ?_ _); rotate_left; (· first | exact Nat.le_refl _ | (simp; done) | (simp; omega))) | with_reducible refine below_drewN ?_ _ | with_reducible refine Below.drew ?_ | with_reducible refine below_then ?_ (by with_reducible assumption)))); have z4 : w3.heap.size ≤ w4.heap.size := b4.size; have q0 := below_cell b4 p0; have q1 := below_cell b4 p1; have q2 := below_cell b4 p2; have q3 := below_cell b4 p3; have q4 := below_cell b4 p4; obtain ⟨A7, n7, c7, rfl, m7⟩ := rows_form r4; clear m7 p0 p1 p2 p3 p4; have xb4 := below_at b4 (by omega) (below_at b3 (by omega) (below_at b2 (by omega) xb.out)); obtain ⟨t0, t1, t2, t3, t4⟩ := five_cells xb4; have xf4 : ∀ j, w4.frozen? ⟨w.heap.size + 1, j, none⟩ = false := (fun j => below_frozen b4 (show w.heap.size + 1 < w3.heap.size by omega) (below_frozen b3 (show w.heap.size + 1 < w2.heap.size by omega) (below_frozen b2 (show w.heap.size + 1 < W.heap.size by omega) (xf.out j)))); clear xb4)))
  have y2 := World.ownsRow.lt r2
  have y3 := World.ownsRow.lt r3
  have y4 := World.ownsRow.lt r4
  have hc : CdRows w4 W.drew.heap.size (.slice A5 n5 c5) (.slice A6 n6 c6) (.slice A7 n7 c7) s2 s3 s4 :=
    ⟨(r2.below b3).below b4, (r3.below b4).mono b2'.size, r4.mono (Nat.le_trans b2'.size z3), fun g h1 h2 => by have := y2 g h1; have := y3 g h2; omega, fun g h1 h2 => by have := y2 g h1; have := y4 g h2; omega, fun g h1 h2 => by have := y3 g h1; have := y4 g h2; omega⟩
  clear y2 y3 y4
  have hz : W.drew.heap.size = w.heap.size + 2 := hzW
  have hbb : Below (w.heap.size + 2) W w4 := by rw [← hzW]; exact below_then b2 (below_then b3 b4)
  clear r2 r3 r4 b2' b3' b4' xb xf h2 h3 h4
  go_wp2_with fail
  refine bodyPost_ret (v := .agg #[.int .i64 x0, .int .i64 x1, .slice A5 n5 c5, .slice A6 n6 c6, .slice A7 n7 c7]) (by simp [results, Tryz.results161, go_sem, t0, t1, t2, t3, t4, xf4]) rfl ?_
  refine ⟨_, _, _, _, _, _, _, _, _, rfl, (hc.fr (G := [w.heap.size + 1]) (by (repeat (first | with_reducible exact Fr.refl _ _ | with_reducible assumption | ((with_reducible refine Fr.setCell ?_ ?_ _); rotate_left; (· first | (simp; done) | assumption | (simp; assumption))) | with_reducible refine Fr.drewN ?_ _ | with_reducible refine Fr.drew ?_ | with_reducible refine Fr.alloc ?_ _ | with_reducible refine Fr.trans ?_ (Fr.of_below (by with_reducible assumption))))) (by simp; omega)).mono (by omega), ?_⟩
  have hb4 : Below w.heap.size w w4 := hbW.trans (hbb.mono (by omega))
  (repeat (first | with_reducible exact Below.refl _ _ | with_reducible assumption | with_reducible refine below_alloc ?_ _ | ((with_reducible refine Below.setCell ?_ ?_ _); rotate_left; (· first | exact Nat.le_refl _ | (simp; done) | (simp; omega))) | with_reducible refine below_drewN ?_ _ | with_reducible refine Below.drew ?_ | with_reducible refine below_then ?_ (by with_reducible assumption)))
end Go.Proofs.YtmnkgcjbckamnaaGreat
